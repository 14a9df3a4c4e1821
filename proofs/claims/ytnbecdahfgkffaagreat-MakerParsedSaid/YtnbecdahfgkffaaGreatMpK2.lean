/- Texts of the claim LawMakerParsed (Elf2g, Elf3, MapAny, MapB, OwnCap, Dy3, Dy4, DyPure2, Dy7, Held, Dy8, Dy9, Dy10, Dy12): what the functions that the statement reaches compute, and plain laws of it. Conditions: those that each theorem states. -/
import Derived.Test.YtnbecdahfgkffaaGreatMpK1
import Derived.Handy
import Derived.Laws.CopyOwn
import Derived.Maps.Own
import Derived.Laws.IdiomRangeMap
import Derived.Deep.LoopGhost
import Derived.Deep.RegionHeld3
import Derived.Test.YtnbecdahfgkffaaGreatProg
import Derived.WalkSpells
import Derived.WalkLawsBesides
import Derived.StillTailTactics
import Derived.Laws.RangeAny
import Derived.Maps.RangeRun
set_option linter.unusedVariables false
set_option linter.unusedSimpArgs false
namespace Go.Proofs.YtnbecdahfgkffaaGreat
open Go.RowKit
def segVal (s : El.Sg) : Value := .agg #[.int .u32 s.kind, .int .u8 s.flags, .int .u64 s.off, .int .u64 s.addr, .int .u64 s.fsz, .int .u64 s.msz]
theorem yJy : (Tryz.prog.info? 58).map (·.size) = some 6 := by kernel_rfl
theorem vJj (k fl o a f z : Int) : (#[.int .u32 k, .int .u8 fl, .int .u64 o, .int .u64 a, .int .u64 f, .int .u64 z] : Array Value).all (·.oneCell') = true := by simp [Value.oneCell']
theorem yJ6 (A : Option Addr) (m c : Nat) (B : Nat) (b : List UInt8) (p o s : Nat) (oi si : Int) (ho : (o : Int) = oi) (hsi : (s : Int) = si) (w : World) (hB : B <= w.heap.size) (hb : Rd w B 1 A m (u8s b)) (hm : m <= maxLen) (hs : s = 1 \/ s = 2 \/ s = 4 \/ s = 8) (hin : p + o + s <= m) :
  Calls Tryz.prog 44 #[.slice A m c, .int .u64 ((p : Int) + oi), .int .i64 si] w fun e w' => e = .returned (.int .u64 (Wd.num b (p + o) s)) /\ Below w.heap.size w w' := by
 subst ho
 subst hsi
 have h := xJe A m c B b (p + o) s w hB hb hm hs hin
 rwa [show (((p + o : Nat)) : Int) = (p : Int) + (o : Int) from by omega] at h
theorem wJn (A : Option Addr) (m c : Nat) (B : Nat) (b : List UInt8) (p s : Nat) (si : Int) (hsi : (s : Int) = si) (w : World) (hB : B <= w.heap.size) (hb : Rd w B 1 A m (u8s b)) (hm : m <= maxLen) (hs : s = 1 \/ s = 2 \/ s = 4 \/ s = 8) (hin : p + s <= m) :
  Calls Tryz.prog 44 #[.slice A m c, .int .u64 (p : Int), .int .i64 si] w fun e w' => e = .returned (.int .u64 (Wd.num b p s)) /\ Below w.heap.size w w' := by
 subst hsi
 exact xJe A m c B b p s w hB hb hm hs hin
set_option maxHeartbeats 60000000 in
theorem yJ7 (A : Option Addr) (m c : Nat) (B : Nat) (b : List UInt8) (p ty : Nat) (w : World) (hB : B <= w.heap.size) (hb : Rd w B 1 A m (u8s b)) (hm : m <= maxLen) (hin : p + 56 <= m) (hp : p <= 4294967296) (hty : ty < 65536)
  (hq : ((¬ Wd.num b (p + 4) 4 <= 7))
  \/ ((Wd.num b (p + 4) 4 <= 7) /\ (¬ Wd.num b (p + 32) 8 <= Wd.num b (p + 40) 8))
  \/ ((Wd.num b (p + 4) 4 <= 7) /\ (Wd.num b (p + 32) 8 <= Wd.num b (p + 40) 8) /\ (¬ Wd.num b (p + 8) 8 + Wd.num b (p + 32) 8 <= m))
  \/ ((Wd.num b (p + 4) 4 <= 7) /\ (Wd.num b (p + 32) 8 <= Wd.num b (p + 40) 8) /\ (Wd.num b (p + 8) 8 + Wd.num b (p + 32) 8 <= m) /\ (ty = 3) /\ (Wd.num b p 4 = 1) /\ (¬ Wd.num b (p + 16) 8 + Wd.num b (p + 40) 8 <= 4294967296))
  \/ ((Wd.num b (p + 4) 4 <= 7) /\ (Wd.num b (p + 32) 8 <= Wd.num b (p + 40) 8) /\ (Wd.num b (p + 8) 8 + Wd.num b (p + 32) 8 <= m) /\ (ty = 3) /\ (Wd.num b p 4 = 1) /\ (Wd.num b (p + 16) 8 + Wd.num b (p + 40) 8 <= 4294967296) /\ (¬ Wd.num b (p + 48) 8 = 4096))
  \/ ((Wd.num b (p + 4) 4 <= 7) /\ (Wd.num b (p + 32) 8 <= Wd.num b (p + 40) 8) /\ (Wd.num b (p + 8) 8 + Wd.num b (p + 32) 8 <= m) /\ (ty = 3) /\ (Wd.num b p 4 = 1) /\ (Wd.num b (p + 16) 8 + Wd.num b (p + 40) 8 <= 4294967296) /\ (Wd.num b (p + 48) 8 = 4096) /\ (¬ Wd.num b (p + 8) 8 % 4096 = Wd.num b (p + 16) 8 % 4096))
  \/ ((Wd.num b (p + 4) 4 <= 7) /\ (Wd.num b (p + 32) 8 <= Wd.num b (p + 40) 8) /\ (Wd.num b (p + 8) 8 + Wd.num b (p + 32) 8 <= m) /\ (ty = 3) /\ (Wd.num b p 4 = 1) /\ (Wd.num b (p + 16) 8 + Wd.num b (p + 40) 8 <= 4294967296) /\ (Wd.num b (p + 48) 8 = 4096) /\ (Wd.num b (p + 8) 8 % 4096 = Wd.num b (p + 16) 8 % 4096) /\ (¬ 0 < Wd.num b (p + 40) 8))
  \/ ((Wd.num b (p + 4) 4 <= 7) /\ (Wd.num b (p + 32) 8 <= Wd.num b (p + 40) 8) /\ (Wd.num b (p + 8) 8 + Wd.num b (p + 32) 8 <= m) /\ (ty = 3) /\ (Wd.num b p 4 = 2) /\ (¬ Wd.num b (p + 16) 8 + Wd.num b (p + 40) 8 <= 4294967296))
  \/ ((Wd.num b (p + 4) 4 <= 7) /\ (Wd.num b (p + 32) 8 <= Wd.num b (p + 40) 8) /\ (Wd.num b (p + 8) 8 + Wd.num b (p + 32) 8 <= m) /\ (ty = 3) /\ (Wd.num b p 4 = 3) /\ (¬ Wd.num b (p + 16) 8 + Wd.num b (p + 40) 8 <= 4294967296))
  \/ ((Wd.num b (p + 4) 4 <= 7) /\ (Wd.num b (p + 32) 8 <= Wd.num b (p + 40) 8) /\ (Wd.num b (p + 8) 8 + Wd.num b (p + 32) 8 <= m) /\ (ty = 3) /\ (Wd.num b p 4 = 6) /\ (¬ Wd.num b (p + 16) 8 + Wd.num b (p + 40) 8 <= 4294967296))
  \/ ((Wd.num b (p + 4) 4 <= 7) /\ (Wd.num b (p + 32) 8 <= Wd.num b (p + 40) 8) /\ (Wd.num b (p + 8) 8 + Wd.num b (p + 32) 8 <= m) /\ (¬ ty = 3) /\ (Wd.num b p 4 = 1) /\ (¬ Wd.num b (p + 16) 8 + Wd.num b (p + 40) 8 <= 140737488355328))
  \/ ((Wd.num b (p + 4) 4 <= 7) /\ (Wd.num b (p + 32) 8 <= Wd.num b (p + 40) 8) /\ (Wd.num b (p + 8) 8 + Wd.num b (p + 32) 8 <= m) /\ (¬ ty = 3) /\ (Wd.num b p 4 = 1) /\ (Wd.num b (p + 16) 8 + Wd.num b (p + 40) 8 <= 140737488355328) /\ (¬ Wd.num b (p + 48) 8 = 4096))
  \/ ((Wd.num b (p + 4) 4 <= 7) /\ (Wd.num b (p + 32) 8 <= Wd.num b (p + 40) 8) /\ (Wd.num b (p + 8) 8 + Wd.num b (p + 32) 8 <= m) /\ (¬ ty = 3) /\ (Wd.num b p 4 = 1) /\ (Wd.num b (p + 16) 8 + Wd.num b (p + 40) 8 <= 140737488355328) /\ (Wd.num b (p + 48) 8 = 4096) /\ (¬ Wd.num b (p + 8) 8 % 4096 = Wd.num b (p + 16) 8 % 4096))) :
  Calls Tryz.prog 47 #[.slice A m c, .int .u64 p, .int .u16 ty] w fun e w' => e = wrongs 25 /\ Below w.heap.size w w' := by
 have hbl : b.length = m := by simpa using hb.len1
 have G0 := zJ2 (fun (w' : World) (h : Below w.heap.size w w') => wJn A m c B b p 4 4 rfl w' (Nat.le_trans hB h.size) ((hb).below (h.mono hB)) hm (by omega) (by omega))
 have G1 := zJ2 (fun (w' : World) (h : Below w.heap.size w w') => yJ6 A m c B b p 4 4 4 4 rfl rfl w' (Nat.le_trans hB h.size) ((hb).below (h.mono hB)) hm (by omega) (by omega))
 have G2 := zJ2 (fun (w' : World) (h : Below w.heap.size w w') => yJ6 A m c B b p 8 8 8 8 rfl rfl w' (Nat.le_trans hB h.size) ((hb).below (h.mono hB)) hm (by omega) (by omega))
 have G3 := zJ2 (fun (w' : World) (h : Below w.heap.size w w') => yJ6 A m c B b p 16 8 16 8 rfl rfl w' (Nat.le_trans hB h.size) ((hb).below (h.mono hB)) hm (by omega) (by omega))
 have G4 := zJ2 (fun (w' : World) (h : Below w.heap.size w w') => yJ6 A m c B b p 32 8 32 8 rfl rfl w' (Nat.le_trans hB h.size) ((hb).below (h.mono hB)) hm (by omega) (by omega))
 have G5 := zJ2 (fun (w' : World) (h : Below w.heap.size w w') => yJ6 A m c B b p 40 8 40 8 rfl rfl w' (Nat.le_trans hB h.size) ((hb).below (h.mono hB)) hm (by omega) (by omega))
 have G6 := zJ2 (fun (w' : World) (h : Below w.heap.size w w') => yJ6 A m c B b p 48 8 48 8 rfl rfl w' (Nat.le_trans hB h.size) ((hb).below (h.mono hB)) hm (by omega) (by omega))
 have l0 : Wd.num b p 4 < 4294967296 := Wd.num_lt _ _ _
 have l1 : Wd.num b (p + 4) 4 < 4294967296 := Wd.num_lt _ _ _
 have l2 : Wd.num b (p + 8) 8 < 18446744073709551616 := Wd.num_lt _ _ _
 have l3 : Wd.num b (p + 16) 8 < 18446744073709551616 := Wd.num_lt _ _ _
 have l4 : Wd.num b (p + 32) 8 < 18446744073709551616 := Wd.num_lt _ _ _
 have l5 : Wd.num b (p + 40) 8 < 18446744073709551616 := Wd.num_lt _ _ _
 have l6 : Wd.num b (p + 48) 8 < 18446744073709551616 := Wd.num_lt _ _ _
 generalize Wd.num b p 4 = k at *
 generalize Wd.num b (p + 4) 4 = fl at *
 generalize Wd.num b (p + 8) 8 = o at *
 generalize Wd.num b (p + 16) 8 = a at *
 generalize Wd.num b (p + 32) 8 = f at *
 generalize Wd.num b (p + 40) 8 = z at *
 generalize Wd.num b (p + 48) 8 = al at *
 unfold maxLen at hm
 clear hb hbl
 have HB := zJ2 (Below.refl (w.alloc (.cells #[.int .u32 0, .int .u8 0, .int .u64 0, .int .u64 0, .int .u64 0, .int .u64 0] 58)).heap.size (w.alloc (.cells #[.int .u32 0, .int .u8 0, .int .u64 0, .int .u64 0, .int .u64 0, .int .u64 0] 58)))
 rcases hq with h1 | ⟨h1, h2⟩ | ⟨h1, h2, h3⟩ | ⟨h1, h2, h3, h4, h5, h6⟩ | ⟨h1, h2, h3, h4, h5, h6, h7⟩ | ⟨h1, h2, h3, h4, h5, h6, h7, h8⟩ | ⟨h1, h2, h3, h4, h5, h6, h7, h8, h9⟩ | ⟨h1, h2, h3, h4, h5, h6⟩ | ⟨h1, h2, h3, h4, h5, h6⟩ | ⟨h1, h2, h3, h4, h5, h6⟩ | ⟨h1, h2, h3, h4, h5, h6⟩ | ⟨h1, h2, h3, h4, h5, h6, h7⟩ | ⟨h1, h2, h3, h4, h5, h6, h7, h8⟩
 have i1 : decide (((fl : Nat) : Int) <= 7) = false := by simp; omega
 rotate_left
 have i1 : ((fl : Nat) : Int) <= 7 := by omega
 have i2 : decide (f <= z) = false := by simp; omega
 rotate_left
 have i1 : ((fl : Nat) : Int) <= 7 := by omega
 have i2 : ((f : Nat) : Int) <= ((z : Nat) : Int) := by omega
 have i3 : decide (((o : Nat) : Int) + ((f : Nat) : Int) <= ((m : Nat) : Int)) = false := by simp; omega
 rotate_left
 have i1 : ((fl : Nat) : Int) <= 7 := by omega
 have i2 : ((f : Nat) : Int) <= ((z : Nat) : Int) := by omega
 have i3 : decide (((o : Nat) : Int) + ((f : Nat) : Int) <= ((m : Nat) : Int)) = true := by simp; omega
 have ety3 : (((ty : Nat) : Int) == 3) = true := by simp; omega
 have ek1 : (((k : Nat) : Int) == 1) = true := by simp; omega
 have i6 : decide (((a : Nat) : Int) + ((z : Nat) : Int) <= 4294967296) = false := by simp; omega
 clear h5 h4
 rotate_left
 have i1 : ((fl : Nat) : Int) <= 7 := by omega
 have i2 : ((f : Nat) : Int) <= ((z : Nat) : Int) := by omega
 have i3 : decide (((o : Nat) : Int) + ((f : Nat) : Int) <= ((m : Nat) : Int)) = true := by simp; omega
 have ety3 : (((ty : Nat) : Int) == 3) = true := by simp; omega
 have ek1 : (((k : Nat) : Int) == 1) = true := by simp; omega
 have i6 : decide (((a : Nat) : Int) + ((z : Nat) : Int) <= 4294967296) = true := by simp; omega
 have eal4096 : (((al : Nat) : Int) == 4096) = false := by simp; omega
 clear h5 h4 h7
 rotate_left
 have i1 : ((fl : Nat) : Int) <= 7 := by omega
 have i2 : ((f : Nat) : Int) <= ((z : Nat) : Int) := by omega
 have i3 : decide (((o : Nat) : Int) + ((f : Nat) : Int) <= ((m : Nat) : Int)) = true := by simp; omega
 have ety3 : (((ty : Nat) : Int) == 3) = true := by simp; omega
 have ek1 : (((k : Nat) : Int) == 1) = true := by simp; omega
 have i6 : decide (((a : Nat) : Int) + ((z : Nat) : Int) <= 4294967296) = true := by simp; omega
 have eal4096 : (((al : Nat) : Int) == 4096) = true := by simp; omega
 have i8 : (((IntKind.u64.wrap (((o : Nat) : Int) - ((a : Nat) : Int))).tmod 4096) == 0) = false := by rw [IntKind.wrap_u64, Int.tmod_eq_emod_of_nonneg (by omega)]; simp; omega
 clear h5 h4 h7 h8
 rotate_left
 have i1 : ((fl : Nat) : Int) <= 7 := by omega
 have i2 : ((f : Nat) : Int) <= ((z : Nat) : Int) := by omega
 have i3 : decide (((o : Nat) : Int) + ((f : Nat) : Int) <= ((m : Nat) : Int)) = true := by simp; omega
 have ety3 : (((ty : Nat) : Int) == 3) = true := by simp; omega
 have ek1 : (((k : Nat) : Int) == 1) = true := by simp; omega
 have i6 : decide (((a : Nat) : Int) + ((z : Nat) : Int) <= 4294967296) = true := by simp; omega
 have eal4096 : (((al : Nat) : Int) == 4096) = true := by simp; omega
 have i8 : (((IntKind.u64.wrap (((o : Nat) : Int) - ((a : Nat) : Int))).tmod 4096) == 0) = true := by rw [IntKind.wrap_u64, Int.tmod_eq_emod_of_nonneg (by omega)]; simp; omega
 have i9 : ¬ (0 : Int) < ((z : Nat) : Int) := by omega
 have i9' : decide (0 < z) = false := by simp; omega
 clear h5 h4 h7 h8
 rotate_left
 have i1 : ((fl : Nat) : Int) <= 7 := by omega
 have i2 : ((f : Nat) : Int) <= ((z : Nat) : Int) := by omega
 have i3 : decide (((o : Nat) : Int) + ((f : Nat) : Int) <= ((m : Nat) : Int)) = true := by simp; omega
 have ety3 : (((ty : Nat) : Int) == 3) = true := by simp; omega
 have ek1 : (((k : Nat) : Int) == 1) = false := by simp; omega
 have ek2 : (((k : Nat) : Int) == 2) = true := by simp; omega
 have i6 : decide (((a : Nat) : Int) + ((z : Nat) : Int) <= 4294967296) = false := by simp; omega
 clear h5 h4
 rotate_left
 have i1 : ((fl : Nat) : Int) <= 7 := by omega
 have i2 : ((f : Nat) : Int) <= ((z : Nat) : Int) := by omega
 have i3 : decide (((o : Nat) : Int) + ((f : Nat) : Int) <= ((m : Nat) : Int)) = true := by simp; omega
 have ety3 : (((ty : Nat) : Int) == 3) = true := by simp; omega
 have ek1 : (((k : Nat) : Int) == 1) = false := by simp; omega
 have ek2 : (((k : Nat) : Int) == 2) = false := by simp; omega
 have ek3 : (((k : Nat) : Int) == 3) = true := by simp; omega
 have i6 : decide (((a : Nat) : Int) + ((z : Nat) : Int) <= 4294967296) = false := by simp; omega
 clear h5 h4
 rotate_left
 have i1 : ((fl : Nat) : Int) <= 7 := by omega
 have i2 : ((f : Nat) : Int) <= ((z : Nat) : Int) := by omega
 have i3 : decide (((o : Nat) : Int) + ((f : Nat) : Int) <= ((m : Nat) : Int)) = true := by simp; omega
 have ety3 : (((ty : Nat) : Int) == 3) = true := by simp; omega
 have ek1 : (((k : Nat) : Int) == 1) = false := by simp; omega
 have ek2 : (((k : Nat) : Int) == 2) = false := by simp; omega
 have ek3 : (((k : Nat) : Int) == 3) = false := by simp; omega
 have ek6 : (((k : Nat) : Int) == 6) = true := by simp; omega
 have i6 : decide (((a : Nat) : Int) + ((z : Nat) : Int) <= 4294967296) = false := by simp; omega
 clear h5 h4
 rotate_left
 have i1 : ((fl : Nat) : Int) <= 7 := by omega
 have i2 : ((f : Nat) : Int) <= ((z : Nat) : Int) := by omega
 have i3 : decide (((o : Nat) : Int) + ((f : Nat) : Int) <= ((m : Nat) : Int)) = true := by simp; omega
 have ety3 : (((ty : Nat) : Int) == 3) = false := by simp; omega
 have ek1 : (((k : Nat) : Int) == 1) = true := by simp; omega
 have i6 : decide (((a : Nat) : Int) + ((z : Nat) : Int) <= 140737488355328) = false := by simp; omega
 clear h5 h4
 rotate_left
 have i1 : ((fl : Nat) : Int) <= 7 := by omega
 have i2 : ((f : Nat) : Int) <= ((z : Nat) : Int) := by omega
 have i3 : decide (((o : Nat) : Int) + ((f : Nat) : Int) <= ((m : Nat) : Int)) = true := by simp; omega
 have ety3 : (((ty : Nat) : Int) == 3) = false := by simp; omega
 have ek1 : (((k : Nat) : Int) == 1) = true := by simp; omega
 have i6 : decide (((a : Nat) : Int) + ((z : Nat) : Int) <= 140737488355328) = true := by simp; omega
 have eal4096 : (((al : Nat) : Int) == 4096) = false := by simp; omega
 clear h5 h4 h7
 rotate_left
 have i1 : ((fl : Nat) : Int) <= 7 := by omega
 have i2 : ((f : Nat) : Int) <= ((z : Nat) : Int) := by omega
 have i3 : decide (((o : Nat) : Int) + ((f : Nat) : Int) <= ((m : Nat) : Int)) = true := by simp; omega
 have ety3 : (((ty : Nat) : Int) == 3) = false := by simp; omega
 have ek1 : (((k : Nat) : Int) == 1) = true := by simp; omega
 have i6 : decide (((a : Nat) : Int) + ((z : Nat) : Int) <= 140737488355328) = true := by simp; omega
 have eal4096 : (((al : Nat) : Int) == 4096) = true := by simp; omega
 have i8 : (((IntKind.u64.wrap (((o : Nat) : Int) - ((a : Nat) : Int))).tmod 4096) == 0) = false := by rw [IntKind.wrap_u64, Int.tmod_eq_emod_of_nonneg (by omega)]; simp; omega
 clear h5 h4 h7 h8
 rotate_left
 all_goals (
  go_enter Tryz.func47, Tryz.ntmps47
  go_wp2_with (first
   | (go_at_call_of 44 (Value.int IntKind.u64 ((p : Nat) : Int)); refine ((zJ1 G0) _ (zJd (zJ1 HB))).mono ?_; rintro e w1 ⟨rfl, hx⟩; replace HB := zJ2 ((zJ1 HB).trans (hx.mono (zJ1 HB).size)); clear hx)
   | (go_at_call_of 44 (Value.int IntKind.u64 (@HAdd.hAdd Int Int Int instHAdd ((p : Nat) : Int) 4)); refine ((zJ1 G1) _ (zJd (zJ1 HB))).mono ?_; rintro e w1 ⟨rfl, hx⟩; replace HB := zJ2 ((zJ1 HB).trans (hx.mono (zJ1 HB).size)); clear hx)
   | (go_at_call_of 44 (Value.int IntKind.u64 (@HAdd.hAdd Int Int Int instHAdd ((p : Nat) : Int) 8)); refine ((zJ1 G2) _ (zJd (zJ1 HB))).mono ?_; rintro e w1 ⟨rfl, hx⟩; replace HB := zJ2 ((zJ1 HB).trans (hx.mono (zJ1 HB).size)); clear hx)
   | (go_at_call_of 44 (Value.int IntKind.u64 (@HAdd.hAdd Int Int Int instHAdd ((p : Nat) : Int) 16)); refine ((zJ1 G3) _ (zJd (zJ1 HB))).mono ?_; rintro e w1 ⟨rfl, hx⟩; replace HB := zJ2 ((zJ1 HB).trans (hx.mono (zJ1 HB).size)); clear hx)
   | (go_at_call_of 44 (Value.int IntKind.u64 (@HAdd.hAdd Int Int Int instHAdd ((p : Nat) : Int) 32)); refine ((zJ1 G4) _ (zJd (zJ1 HB))).mono ?_; rintro e w1 ⟨rfl, hx⟩; replace HB := zJ2 ((zJ1 HB).trans (hx.mono (zJ1 HB).size)); clear hx)
   | (go_at_call_of 44 (Value.int IntKind.u64 (@HAdd.hAdd Int Int Int instHAdd ((p : Nat) : Int) 40)); refine ((zJ1 G5) _ (zJd (zJ1 HB))).mono ?_; rintro e w1 ⟨rfl, hx⟩; replace HB := zJ2 ((zJ1 HB).trans (hx.mono (zJ1 HB).size)); clear hx; have hn := newblk (zJ1 HB); have hsz := lt_of_block hn; have Hn := zJ2 hn; clear hn)
   | (go_at_call_of 44 (Value.int IntKind.u64 (@HAdd.hAdd Int Int Int instHAdd ((p : Nat) : Int) 48)); refine ((zJ1 G6) _ (zJd (zJ1 HB))).mono ?_; rintro e w1 ⟨rfl, hx⟩; replace HB := zJ2 ((zJ1 HB).trans (hx.mono (zJ1 HB).size)); clear hx)
   | (go_at_call_of 45 (Value.bool true); refine (zJ8 _ _).mono ?_; rintro e w1 ⟨rfl, rfl⟩)
   | (go_at_call_of 45 (Value.bool false); refine (zJe _ _).mono ?_; rintro e w1 ⟨rfl, rfl⟩)
   | (go_at_call_of 46 (Value.int IntKind.u64 ((o : Nat) : Int)); refine (zJk _ _ _ _ (by omega) (by omega) (by omega) (by omega) (by omega)).mono ?_; rintro e w1 ⟨rfl, rfl⟩)
   | (go_at_call_of 46 (Value.int IntKind.u64 ((a : Nat) : Int)); refine (zJk _ _ _ _ (by omega) (by omega) (by omega) (by omega) (by omega)).mono ?_; rintro e w1 ⟨rfl, rfl⟩)
   | ((with_reducible refine (@id (wpList _ _ _ (Oper.mk none (Op.store 58 (.tmp 6) (.tmp 97)) _ _ _ none :: _) _ _) ?_)); refine wpList_store_row rfl 58 (.tmp 6) (.tmp 97) rfl w.heap.size #[.int .u32 k, .int .u8 fl, .int .u64 o, .int .u64 a, .int .u64 f, .int .u64 z] rfl rfl 58 _ ((Below.heap_alloc _ _ _ hsz).trans (zJ1 Hn)) yJy rfl (vJj _ _ _ _ _ _) ?_))
  refine ⟨rfl, rfl, ?_⟩
  go_grown
  all_goals first | exact zJd (zJ1 HB) | (have := (zJd (zJ1 HB)).size; simp; omega))
set_option maxHeartbeats 60000000 in
theorem uJr (A : Option Addr) (m c : Nat) (B : Nat) (b : List UInt8) (p ty : Nat) (w : World) (hB : B <= w.heap.size) (hb : Rd w B 1 A m (u8s b)) (hm : m <= maxLen) (hin : p + 56 <= m) (hp : p <= 4294967296) (hty : ty < 65536)
  (hq : ((Wd.num b (p + 4) 4 <= 7) /\ (Wd.num b (p + 32) 8 <= Wd.num b (p + 40) 8) /\ (Wd.num b (p + 8) 8 + Wd.num b (p + 32) 8 <= m) /\ (¬ ty = 3) /\ (Wd.num b p 4 = 1) /\ (Wd.num b (p + 16) 8 + Wd.num b (p + 40) 8 <= 140737488355328) /\ (Wd.num b (p + 48) 8 = 4096) /\ (Wd.num b (p + 8) 8 % 4096 = Wd.num b (p + 16) 8 % 4096) /\ (¬ 0 < Wd.num b (p + 40) 8))
  \/ ((Wd.num b (p + 4) 4 <= 7) /\ (Wd.num b (p + 32) 8 <= Wd.num b (p + 40) 8) /\ (Wd.num b (p + 8) 8 + Wd.num b (p + 32) 8 <= m) /\ (¬ ty = 3) /\ (Wd.num b p 4 = 2) /\ (¬ Wd.num b (p + 16) 8 + Wd.num b (p + 40) 8 <= 140737488355328))
  \/ ((Wd.num b (p + 4) 4 <= 7) /\ (Wd.num b (p + 32) 8 <= Wd.num b (p + 40) 8) /\ (Wd.num b (p + 8) 8 + Wd.num b (p + 32) 8 <= m) /\ (¬ ty = 3) /\ (Wd.num b p 4 = 3) /\ (¬ Wd.num b (p + 16) 8 + Wd.num b (p + 40) 8 <= 140737488355328))
  \/ ((Wd.num b (p + 4) 4 <= 7) /\ (Wd.num b (p + 32) 8 <= Wd.num b (p + 40) 8) /\ (Wd.num b (p + 8) 8 + Wd.num b (p + 32) 8 <= m) /\ (¬ ty = 3) /\ (Wd.num b p 4 = 6) /\ (¬ Wd.num b (p + 16) 8 + Wd.num b (p + 40) 8 <= 140737488355328))) :
  Calls Tryz.prog 47 #[.slice A m c, .int .u64 p, .int .u16 ty] w fun e w' => e = wrongs 25 /\ Below w.heap.size w w' := by
 have hbl : b.length = m := by simpa using hb.len1
 have G0 := zJ2 (fun (w' : World) (h : Below w.heap.size w w') => wJn A m c B b p 4 4 rfl w' (Nat.le_trans hB h.size) ((hb).below (h.mono hB)) hm (by omega) (by omega))
 have G1 := zJ2 (fun (w' : World) (h : Below w.heap.size w w') => yJ6 A m c B b p 4 4 4 4 rfl rfl w' (Nat.le_trans hB h.size) ((hb).below (h.mono hB)) hm (by omega) (by omega))
 have G2 := zJ2 (fun (w' : World) (h : Below w.heap.size w w') => yJ6 A m c B b p 8 8 8 8 rfl rfl w' (Nat.le_trans hB h.size) ((hb).below (h.mono hB)) hm (by omega) (by omega))
 have G3 := zJ2 (fun (w' : World) (h : Below w.heap.size w w') => yJ6 A m c B b p 16 8 16 8 rfl rfl w' (Nat.le_trans hB h.size) ((hb).below (h.mono hB)) hm (by omega) (by omega))
 have G4 := zJ2 (fun (w' : World) (h : Below w.heap.size w w') => yJ6 A m c B b p 32 8 32 8 rfl rfl w' (Nat.le_trans hB h.size) ((hb).below (h.mono hB)) hm (by omega) (by omega))
 have G5 := zJ2 (fun (w' : World) (h : Below w.heap.size w w') => yJ6 A m c B b p 40 8 40 8 rfl rfl w' (Nat.le_trans hB h.size) ((hb).below (h.mono hB)) hm (by omega) (by omega))
 have G6 := zJ2 (fun (w' : World) (h : Below w.heap.size w w') => yJ6 A m c B b p 48 8 48 8 rfl rfl w' (Nat.le_trans hB h.size) ((hb).below (h.mono hB)) hm (by omega) (by omega))
 have l0 : Wd.num b p 4 < 4294967296 := Wd.num_lt _ _ _
 have l1 : Wd.num b (p + 4) 4 < 4294967296 := Wd.num_lt _ _ _
 have l2 : Wd.num b (p + 8) 8 < 18446744073709551616 := Wd.num_lt _ _ _
 have l3 : Wd.num b (p + 16) 8 < 18446744073709551616 := Wd.num_lt _ _ _
 have l4 : Wd.num b (p + 32) 8 < 18446744073709551616 := Wd.num_lt _ _ _
 have l5 : Wd.num b (p + 40) 8 < 18446744073709551616 := Wd.num_lt _ _ _
 have l6 : Wd.num b (p + 48) 8 < 18446744073709551616 := Wd.num_lt _ _ _
 generalize Wd.num b p 4 = k at *
 generalize Wd.num b (p + 4) 4 = fl at *
 generalize Wd.num b (p + 8) 8 = o at *
 generalize Wd.num b (p + 16) 8 = a at *
 generalize Wd.num b (p + 32) 8 = f at *
 generalize Wd.num b (p + 40) 8 = z at *
 generalize Wd.num b (p + 48) 8 = al at *
 unfold maxLen at hm
 clear hb hbl
 have HB := zJ2 (Below.refl (w.alloc (.cells #[.int .u32 0, .int .u8 0, .int .u64 0, .int .u64 0, .int .u64 0, .int .u64 0] 58)).heap.size (w.alloc (.cells #[.int .u32 0, .int .u8 0, .int .u64 0, .int .u64 0, .int .u64 0, .int .u64 0] 58)))
 rcases hq with ⟨h1, h2, h3, h4, h5, h6, h7, h8, h9⟩ | ⟨h1, h2, h3, h4, h5, h6⟩ | ⟨h1, h2, h3, h4, h5, h6⟩ | ⟨h1, h2, h3, h4, h5, h6⟩
 have i1 : ((fl : Nat) : Int) <= 7 := by omega
 have i2 : ((f : Nat) : Int) <= ((z : Nat) : Int) := by omega
 have i3 : decide (((o : Nat) : Int) + ((f : Nat) : Int) <= ((m : Nat) : Int)) = true := by simp; omega
 have ety3 : (((ty : Nat) : Int) == 3) = false := by simp; omega
 have ek1 : (((k : Nat) : Int) == 1) = true := by simp; omega
 have i6 : decide (((a : Nat) : Int) + ((z : Nat) : Int) <= 140737488355328) = true := by simp; omega
 have eal4096 : (((al : Nat) : Int) == 4096) = true := by simp; omega
 have i8 : (((IntKind.u64.wrap (((o : Nat) : Int) - ((a : Nat) : Int))).tmod 4096) == 0) = true := by rw [IntKind.wrap_u64, Int.tmod_eq_emod_of_nonneg (by omega)]; simp; omega
 have i9 : ¬ (0 : Int) < ((z : Nat) : Int) := by omega
 have i9' : decide (0 < z) = false := by simp; omega
 clear h5 h4 h7 h8
 rotate_left
 have i1 : ((fl : Nat) : Int) <= 7 := by omega
 have i2 : ((f : Nat) : Int) <= ((z : Nat) : Int) := by omega
 have i3 : decide (((o : Nat) : Int) + ((f : Nat) : Int) <= ((m : Nat) : Int)) = true := by simp; omega
 have ety3 : (((ty : Nat) : Int) == 3) = false := by simp; omega
 have ek1 : (((k : Nat) : Int) == 1) = false := by simp; omega
 have ek2 : (((k : Nat) : Int) == 2) = true := by simp; omega
 have i6 : decide (((a : Nat) : Int) + ((z : Nat) : Int) <= 140737488355328) = false := by simp; omega
 clear h5 h4
 rotate_left
 have i1 : ((fl : Nat) : Int) <= 7 := by omega
 have i2 : ((f : Nat) : Int) <= ((z : Nat) : Int) := by omega
 have i3 : decide (((o : Nat) : Int) + ((f : Nat) : Int) <= ((m : Nat) : Int)) = true := by simp; omega
 have ety3 : (((ty : Nat) : Int) == 3) = false := by simp; omega
 have ek1 : (((k : Nat) : Int) == 1) = false := by simp; omega
 have ek2 : (((k : Nat) : Int) == 2) = false := by simp; omega
 have ek3 : (((k : Nat) : Int) == 3) = true := by simp; omega
 have i6 : decide (((a : Nat) : Int) + ((z : Nat) : Int) <= 140737488355328) = false := by simp; omega
 clear h5 h4
 rotate_left
 have i1 : ((fl : Nat) : Int) <= 7 := by omega
 have i2 : ((f : Nat) : Int) <= ((z : Nat) : Int) := by omega
 have i3 : decide (((o : Nat) : Int) + ((f : Nat) : Int) <= ((m : Nat) : Int)) = true := by simp; omega
 have ety3 : (((ty : Nat) : Int) == 3) = false := by simp; omega
 have ek1 : (((k : Nat) : Int) == 1) = false := by simp; omega
 have ek2 : (((k : Nat) : Int) == 2) = false := by simp; omega
 have ek3 : (((k : Nat) : Int) == 3) = false := by simp; omega
 have ek6 : (((k : Nat) : Int) == 6) = true := by simp; omega
 have i6 : decide (((a : Nat) : Int) + ((z : Nat) : Int) <= 140737488355328) = false := by simp; omega
 clear h5 h4
 rotate_left
 all_goals (
  go_enter Tryz.func47, Tryz.ntmps47
  go_wp2_with (first
   | (go_at_call_of 44 (Value.int IntKind.u64 ((p : Nat) : Int)); refine ((zJ1 G0) _ (zJd (zJ1 HB))).mono ?_; rintro e w1 ⟨rfl, hx⟩; replace HB := zJ2 ((zJ1 HB).trans (hx.mono (zJ1 HB).size)); clear hx)
   | (go_at_call_of 44 (Value.int IntKind.u64 (@HAdd.hAdd Int Int Int instHAdd ((p : Nat) : Int) 4)); refine ((zJ1 G1) _ (zJd (zJ1 HB))).mono ?_; rintro e w1 ⟨rfl, hx⟩; replace HB := zJ2 ((zJ1 HB).trans (hx.mono (zJ1 HB).size)); clear hx)
   | (go_at_call_of 44 (Value.int IntKind.u64 (@HAdd.hAdd Int Int Int instHAdd ((p : Nat) : Int) 8)); refine ((zJ1 G2) _ (zJd (zJ1 HB))).mono ?_; rintro e w1 ⟨rfl, hx⟩; replace HB := zJ2 ((zJ1 HB).trans (hx.mono (zJ1 HB).size)); clear hx)
   | (go_at_call_of 44 (Value.int IntKind.u64 (@HAdd.hAdd Int Int Int instHAdd ((p : Nat) : Int) 16)); refine ((zJ1 G3) _ (zJd (zJ1 HB))).mono ?_; rintro e w1 ⟨rfl, hx⟩; replace HB := zJ2 ((zJ1 HB).trans (hx.mono (zJ1 HB).size)); clear hx)
   | (go_at_call_of 44 (Value.int IntKind.u64 (@HAdd.hAdd Int Int Int instHAdd ((p : Nat) : Int) 32)); refine ((zJ1 G4) _ (zJd (zJ1 HB))).mono ?_; rintro e w1 ⟨rfl, hx⟩; replace HB := zJ2 ((zJ1 HB).trans (hx.mono (zJ1 HB).size)); clear hx)
   | (go_at_call_of 44 (Value.int IntKind.u64 (@HAdd.hAdd Int Int Int instHAdd ((p : Nat) : Int) 40)); refine ((zJ1 G5) _ (zJd (zJ1 HB))).mono ?_; rintro e w1 ⟨rfl, hx⟩; replace HB := zJ2 ((zJ1 HB).trans (hx.mono (zJ1 HB).size)); clear hx; have hn := newblk (zJ1 HB); have hsz := lt_of_block hn; have Hn := zJ2 hn; clear hn)
   | (go_at_call_of 44 (Value.int IntKind.u64 (@HAdd.hAdd Int Int Int instHAdd ((p : Nat) : Int) 48)); refine ((zJ1 G6) _ (zJd (zJ1 HB))).mono ?_; rintro e w1 ⟨rfl, hx⟩; replace HB := zJ2 ((zJ1 HB).trans (hx.mono (zJ1 HB).size)); clear hx)
   | (go_at_call_of 45 (Value.bool true); refine (zJ8 _ _).mono ?_; rintro e w1 ⟨rfl, rfl⟩)
   | (go_at_call_of 45 (Value.bool false); refine (zJe _ _).mono ?_; rintro e w1 ⟨rfl, rfl⟩)
   | (go_at_call_of 46 (Value.int IntKind.u64 ((o : Nat) : Int)); refine (zJk _ _ _ _ (by omega) (by omega) (by omega) (by omega) (by omega)).mono ?_; rintro e w1 ⟨rfl, rfl⟩)
   | (go_at_call_of 46 (Value.int IntKind.u64 ((a : Nat) : Int)); refine (zJk _ _ _ _ (by omega) (by omega) (by omega) (by omega) (by omega)).mono ?_; rintro e w1 ⟨rfl, rfl⟩)
   | ((with_reducible refine (@id (wpList _ _ _ (Oper.mk none (Op.store 58 (.tmp 6) (.tmp 97)) _ _ _ none :: _) _ _) ?_)); refine wpList_store_row rfl 58 (.tmp 6) (.tmp 97) rfl w.heap.size #[.int .u32 k, .int .u8 fl, .int .u64 o, .int .u64 a, .int .u64 f, .int .u64 z] rfl rfl 58 _ ((Below.heap_alloc _ _ _ hsz).trans (zJ1 Hn)) yJy rfl (vJj _ _ _ _ _ _) ?_))
  refine ⟨rfl, rfl, ?_⟩
  go_grown
  all_goals first | exact zJd (zJ1 HB) | (have := (zJd (zJ1 HB)).size; simp; omega))
set_option maxHeartbeats 60000000 in
theorem yJc (A : Option Addr) (m c : Nat) (B : Nat) (b : List UInt8) (p ty : Nat) (w : World) (hB : B <= w.heap.size) (hb : Rd w B 1 A m (u8s b)) (hm : m <= maxLen) (hin : p + 56 <= m) (hp : p <= 4294967296) (hty : ty < 65536)
  (hq : ((Wd.num b (p + 4) 4 <= 7) /\ (Wd.num b (p + 32) 8 <= Wd.num b (p + 40) 8) /\ (Wd.num b (p + 8) 8 + Wd.num b (p + 32) 8 <= m) /\ (ty = 3) /\ (Wd.num b p 4 = 1) /\ (Wd.num b (p + 16) 8 + Wd.num b (p + 40) 8 <= 4294967296) /\ (Wd.num b (p + 48) 8 = 4096) /\ (Wd.num b (p + 8) 8 % 4096 = Wd.num b (p + 16) 8 % 4096) /\ (0 < Wd.num b (p + 40) 8))
  \/ ((Wd.num b (p + 4) 4 <= 7) /\ (Wd.num b (p + 32) 8 <= Wd.num b (p + 40) 8) /\ (Wd.num b (p + 8) 8 + Wd.num b (p + 32) 8 <= m) /\ (ty = 3) /\ (Wd.num b p 4 = 2) /\ (Wd.num b (p + 16) 8 + Wd.num b (p + 40) 8 <= 4294967296))
  \/ ((Wd.num b (p + 4) 4 <= 7) /\ (Wd.num b (p + 32) 8 <= Wd.num b (p + 40) 8) /\ (Wd.num b (p + 8) 8 + Wd.num b (p + 32) 8 <= m) /\ (ty = 3) /\ (Wd.num b p 4 = 3) /\ (Wd.num b (p + 16) 8 + Wd.num b (p + 40) 8 <= 4294967296))
  \/ ((Wd.num b (p + 4) 4 <= 7) /\ (Wd.num b (p + 32) 8 <= Wd.num b (p + 40) 8) /\ (Wd.num b (p + 8) 8 + Wd.num b (p + 32) 8 <= m) /\ (ty = 3) /\ (Wd.num b p 4 = 6) /\ (Wd.num b (p + 16) 8 + Wd.num b (p + 40) 8 <= 4294967296))
  \/ ((Wd.num b (p + 4) 4 <= 7) /\ (Wd.num b (p + 32) 8 <= Wd.num b (p + 40) 8) /\ (Wd.num b (p + 8) 8 + Wd.num b (p + 32) 8 <= m) /\ (¬ ty = 3) /\ (Wd.num b p 4 = 1) /\ (Wd.num b (p + 16) 8 + Wd.num b (p + 40) 8 <= 140737488355328) /\ (Wd.num b (p + 48) 8 = 4096) /\ (Wd.num b (p + 8) 8 % 4096 = Wd.num b (p + 16) 8 % 4096) /\ (0 < Wd.num b (p + 40) 8))
  \/ ((Wd.num b (p + 4) 4 <= 7) /\ (Wd.num b (p + 32) 8 <= Wd.num b (p + 40) 8) /\ (Wd.num b (p + 8) 8 + Wd.num b (p + 32) 8 <= m) /\ (¬ ty = 3) /\ (Wd.num b p 4 = 2) /\ (Wd.num b (p + 16) 8 + Wd.num b (p + 40) 8 <= 140737488355328))
  \/ ((Wd.num b (p + 4) 4 <= 7) /\ (Wd.num b (p + 32) 8 <= Wd.num b (p + 40) 8) /\ (Wd.num b (p + 8) 8 + Wd.num b (p + 32) 8 <= m) /\ (¬ ty = 3) /\ (Wd.num b p 4 = 3) /\ (Wd.num b (p + 16) 8 + Wd.num b (p + 40) 8 <= 140737488355328))
  \/ ((Wd.num b (p + 4) 4 <= 7) /\ (Wd.num b (p + 32) 8 <= Wd.num b (p + 40) 8) /\ (Wd.num b (p + 8) 8 + Wd.num b (p + 32) 8 <= m) /\ (¬ ty = 3) /\ (Wd.num b p 4 = 6) /\ (Wd.num b (p + 16) 8 + Wd.num b (p + 40) 8 <= 140737488355328))
  \/ ((Wd.num b (p + 4) 4 <= 7) /\ (Wd.num b (p + 32) 8 <= Wd.num b (p + 40) 8) /\ (Wd.num b (p + 8) 8 + Wd.num b (p + 32) 8 <= m) /\ (¬ Wd.num b p 4 = 1 /\ ¬ Wd.num b p 4 = 2 /\ ¬ Wd.num b p 4 = 3 /\ ¬ Wd.num b p 4 = 6))) :
  Calls Tryz.prog 47 #[.slice A m c, .int .u64 p, .int .u16 ty] w fun e w' => e = .returned (segVal (El.segAt b p)) /\ Below w.heap.size w w' := by
 unfold El.segAt
 have hbl : b.length = m := by simpa using hb.len1
 have G0 := zJ2 (fun (w' : World) (h : Below w.heap.size w w') => wJn A m c B b p 4 4 rfl w' (Nat.le_trans hB h.size) ((hb).below (h.mono hB)) hm (by omega) (by omega))
 have G1 := zJ2 (fun (w' : World) (h : Below w.heap.size w w') => yJ6 A m c B b p 4 4 4 4 rfl rfl w' (Nat.le_trans hB h.size) ((hb).below (h.mono hB)) hm (by omega) (by omega))
 have G2 := zJ2 (fun (w' : World) (h : Below w.heap.size w w') => yJ6 A m c B b p 8 8 8 8 rfl rfl w' (Nat.le_trans hB h.size) ((hb).below (h.mono hB)) hm (by omega) (by omega))
 have G3 := zJ2 (fun (w' : World) (h : Below w.heap.size w w') => yJ6 A m c B b p 16 8 16 8 rfl rfl w' (Nat.le_trans hB h.size) ((hb).below (h.mono hB)) hm (by omega) (by omega))
 have G4 := zJ2 (fun (w' : World) (h : Below w.heap.size w w') => yJ6 A m c B b p 32 8 32 8 rfl rfl w' (Nat.le_trans hB h.size) ((hb).below (h.mono hB)) hm (by omega) (by omega))
 have G5 := zJ2 (fun (w' : World) (h : Below w.heap.size w w') => yJ6 A m c B b p 40 8 40 8 rfl rfl w' (Nat.le_trans hB h.size) ((hb).below (h.mono hB)) hm (by omega) (by omega))
 have G6 := zJ2 (fun (w' : World) (h : Below w.heap.size w w') => yJ6 A m c B b p 48 8 48 8 rfl rfl w' (Nat.le_trans hB h.size) ((hb).below (h.mono hB)) hm (by omega) (by omega))
 have l0 : Wd.num b p 4 < 4294967296 := Wd.num_lt _ _ _
 have l1 : Wd.num b (p + 4) 4 < 4294967296 := Wd.num_lt _ _ _
 have l2 : Wd.num b (p + 8) 8 < 18446744073709551616 := Wd.num_lt _ _ _
 have l3 : Wd.num b (p + 16) 8 < 18446744073709551616 := Wd.num_lt _ _ _
 have l4 : Wd.num b (p + 32) 8 < 18446744073709551616 := Wd.num_lt _ _ _
 have l5 : Wd.num b (p + 40) 8 < 18446744073709551616 := Wd.num_lt _ _ _
 have l6 : Wd.num b (p + 48) 8 < 18446744073709551616 := Wd.num_lt _ _ _
 generalize Wd.num b p 4 = k at *
 generalize Wd.num b (p + 4) 4 = fl at *
 generalize Wd.num b (p + 8) 8 = o at *
 generalize Wd.num b (p + 16) 8 = a at *
 generalize Wd.num b (p + 32) 8 = f at *
 generalize Wd.num b (p + 40) 8 = z at *
 generalize Wd.num b (p + 48) 8 = al at *
 unfold maxLen at hm
 clear hb hbl
 have HB := zJ2 (Below.refl (w.alloc (.cells #[.int .u32 0, .int .u8 0, .int .u64 0, .int .u64 0, .int .u64 0, .int .u64 0] 58)).heap.size (w.alloc (.cells #[.int .u32 0, .int .u8 0, .int .u64 0, .int .u64 0, .int .u64 0, .int .u64 0] 58)))
 rcases hq with ⟨h1, h2, h3, h4, h5, h6, h7, h8, h9⟩ | ⟨h1, h2, h3, h4, h5, h6⟩ | ⟨h1, h2, h3, h4, h5, h6⟩ | ⟨h1, h2, h3, h4, h5, h6⟩ | ⟨h1, h2, h3, h4, h5, h6, h7, h8, h9⟩ | ⟨h1, h2, h3, h4, h5, h6⟩ | ⟨h1, h2, h3, h4, h5, h6⟩ | ⟨h1, h2, h3, h4, h5, h6⟩ | ⟨h1, h2, h3, h5⟩
 have i1 : ((fl : Nat) : Int) <= 7 := by omega
 have i2 : ((f : Nat) : Int) <= ((z : Nat) : Int) := by omega
 have i3 : decide (((o : Nat) : Int) + ((f : Nat) : Int) <= ((m : Nat) : Int)) = true := by simp; omega
 have ety3 : (((ty : Nat) : Int) == 3) = true := by simp; omega
 have ek1 : (((k : Nat) : Int) == 1) = true := by simp; omega
 have i6 : decide (((a : Nat) : Int) + ((z : Nat) : Int) <= 4294967296) = true := by simp; omega
 have eal4096 : (((al : Nat) : Int) == 4096) = true := by simp; omega
 have i8 : (((IntKind.u64.wrap (((o : Nat) : Int) - ((a : Nat) : Int))).tmod 4096) == 0) = true := by rw [IntKind.wrap_u64, Int.tmod_eq_emod_of_nonneg (by omega)]; simp; omega
 have i9 : (0 : Int) < ((z : Nat) : Int) := by omega
 clear h5 h4 h7 h8
 rotate_left
 have i1 : ((fl : Nat) : Int) <= 7 := by omega
 have i2 : ((f : Nat) : Int) <= ((z : Nat) : Int) := by omega
 have i3 : decide (((o : Nat) : Int) + ((f : Nat) : Int) <= ((m : Nat) : Int)) = true := by simp; omega
 have ety3 : (((ty : Nat) : Int) == 3) = true := by simp; omega
 have ek1 : (((k : Nat) : Int) == 1) = false := by simp; omega
 have ek2 : (((k : Nat) : Int) == 2) = true := by simp; omega
 have i6 : decide (((a : Nat) : Int) + ((z : Nat) : Int) <= 4294967296) = true := by simp; omega
 clear h5 h4
 rotate_left
 have i1 : ((fl : Nat) : Int) <= 7 := by omega
 have i2 : ((f : Nat) : Int) <= ((z : Nat) : Int) := by omega
 have i3 : decide (((o : Nat) : Int) + ((f : Nat) : Int) <= ((m : Nat) : Int)) = true := by simp; omega
 have ety3 : (((ty : Nat) : Int) == 3) = true := by simp; omega
 have ek1 : (((k : Nat) : Int) == 1) = false := by simp; omega
 have ek2 : (((k : Nat) : Int) == 2) = false := by simp; omega
 have ek3 : (((k : Nat) : Int) == 3) = true := by simp; omega
 have i6 : decide (((a : Nat) : Int) + ((z : Nat) : Int) <= 4294967296) = true := by simp; omega
 clear h5 h4
 rotate_left
 have i1 : ((fl : Nat) : Int) <= 7 := by omega
 have i2 : ((f : Nat) : Int) <= ((z : Nat) : Int) := by omega
 have i3 : decide (((o : Nat) : Int) + ((f : Nat) : Int) <= ((m : Nat) : Int)) = true := by simp; omega
 have ety3 : (((ty : Nat) : Int) == 3) = true := by simp; omega
 have ek1 : (((k : Nat) : Int) == 1) = false := by simp; omega
 have ek2 : (((k : Nat) : Int) == 2) = false := by simp; omega
 have ek3 : (((k : Nat) : Int) == 3) = false := by simp; omega
 have ek6 : (((k : Nat) : Int) == 6) = true := by simp; omega
 have i6 : decide (((a : Nat) : Int) + ((z : Nat) : Int) <= 4294967296) = true := by simp; omega
 clear h5 h4
 rotate_left
 have i1 : ((fl : Nat) : Int) <= 7 := by omega
 have i2 : ((f : Nat) : Int) <= ((z : Nat) : Int) := by omega
 have i3 : decide (((o : Nat) : Int) + ((f : Nat) : Int) <= ((m : Nat) : Int)) = true := by simp; omega
 have ety3 : (((ty : Nat) : Int) == 3) = false := by simp; omega
 have ek1 : (((k : Nat) : Int) == 1) = true := by simp; omega
 have i6 : decide (((a : Nat) : Int) + ((z : Nat) : Int) <= 140737488355328) = true := by simp; omega
 have eal4096 : (((al : Nat) : Int) == 4096) = true := by simp; omega
 have i8 : (((IntKind.u64.wrap (((o : Nat) : Int) - ((a : Nat) : Int))).tmod 4096) == 0) = true := by rw [IntKind.wrap_u64, Int.tmod_eq_emod_of_nonneg (by omega)]; simp; omega
 have i9 : (0 : Int) < ((z : Nat) : Int) := by omega
 clear h5 h4 h7 h8
 rotate_left
 have i1 : ((fl : Nat) : Int) <= 7 := by omega
 have i2 : ((f : Nat) : Int) <= ((z : Nat) : Int) := by omega
 have i3 : decide (((o : Nat) : Int) + ((f : Nat) : Int) <= ((m : Nat) : Int)) = true := by simp; omega
 have ety3 : (((ty : Nat) : Int) == 3) = false := by simp; omega
 have ek1 : (((k : Nat) : Int) == 1) = false := by simp; omega
 have ek2 : (((k : Nat) : Int) == 2) = true := by simp; omega
 have i6 : decide (((a : Nat) : Int) + ((z : Nat) : Int) <= 140737488355328) = true := by simp; omega
 clear h5 h4
 rotate_left
 have i1 : ((fl : Nat) : Int) <= 7 := by omega
 have i2 : ((f : Nat) : Int) <= ((z : Nat) : Int) := by omega
 have i3 : decide (((o : Nat) : Int) + ((f : Nat) : Int) <= ((m : Nat) : Int)) = true := by simp; omega
 have ety3 : (((ty : Nat) : Int) == 3) = false := by simp; omega
 have ek1 : (((k : Nat) : Int) == 1) = false := by simp; omega
 have ek2 : (((k : Nat) : Int) == 2) = false := by simp; omega
 have ek3 : (((k : Nat) : Int) == 3) = true := by simp; omega
 have i6 : decide (((a : Nat) : Int) + ((z : Nat) : Int) <= 140737488355328) = true := by simp; omega
 clear h5 h4
 rotate_left
 have i1 : ((fl : Nat) : Int) <= 7 := by omega
 have i2 : ((f : Nat) : Int) <= ((z : Nat) : Int) := by omega
 have i3 : decide (((o : Nat) : Int) + ((f : Nat) : Int) <= ((m : Nat) : Int)) = true := by simp; omega
 have ety3 : (((ty : Nat) : Int) == 3) = false := by simp; omega
 have ek1 : (((k : Nat) : Int) == 1) = false := by simp; omega
 have ek2 : (((k : Nat) : Int) == 2) = false := by simp; omega
 have ek3 : (((k : Nat) : Int) == 3) = false := by simp; omega
 have ek6 : (((k : Nat) : Int) == 6) = true := by simp; omega
 have i6 : decide (((a : Nat) : Int) + ((z : Nat) : Int) <= 140737488355328) = true := by simp; omega
 clear h5 h4
 rotate_left
 have i1 : ((fl : Nat) : Int) <= 7 := by omega
 have i2 : ((f : Nat) : Int) <= ((z : Nat) : Int) := by omega
 have i3 : decide (((o : Nat) : Int) + ((f : Nat) : Int) <= ((m : Nat) : Int)) = true := by simp; omega
 obtain ⟨k1, k2, k3, k6⟩ := h5
 have ek1 : (((k : Nat) : Int) == 1) = false := by simp; omega
 have ek2 : (((k : Nat) : Int) == 2) = false := by simp; omega
 have ek3 : (((k : Nat) : Int) == 3) = false := by simp; omega
 have ek6 : (((k : Nat) : Int) == 6) = false := by simp; omega
 clear k1 k2 k3 k6
 rotate_left
 all_goals (
  go_enter Tryz.func47, Tryz.ntmps47
  go_wp2_with (first
   | (go_at_call_of 44 (Value.int IntKind.u64 ((p : Nat) : Int)); refine ((zJ1 G0) _ (zJd (zJ1 HB))).mono ?_; rintro e w1 ⟨rfl, hx⟩; replace HB := zJ2 ((zJ1 HB).trans (hx.mono (zJ1 HB).size)); clear hx)
   | (go_at_call_of 44 (Value.int IntKind.u64 (@HAdd.hAdd Int Int Int instHAdd ((p : Nat) : Int) 4)); refine ((zJ1 G1) _ (zJd (zJ1 HB))).mono ?_; rintro e w1 ⟨rfl, hx⟩; replace HB := zJ2 ((zJ1 HB).trans (hx.mono (zJ1 HB).size)); clear hx)
   | (go_at_call_of 44 (Value.int IntKind.u64 (@HAdd.hAdd Int Int Int instHAdd ((p : Nat) : Int) 8)); refine ((zJ1 G2) _ (zJd (zJ1 HB))).mono ?_; rintro e w1 ⟨rfl, hx⟩; replace HB := zJ2 ((zJ1 HB).trans (hx.mono (zJ1 HB).size)); clear hx)
   | (go_at_call_of 44 (Value.int IntKind.u64 (@HAdd.hAdd Int Int Int instHAdd ((p : Nat) : Int) 16)); refine ((zJ1 G3) _ (zJd (zJ1 HB))).mono ?_; rintro e w1 ⟨rfl, hx⟩; replace HB := zJ2 ((zJ1 HB).trans (hx.mono (zJ1 HB).size)); clear hx)
   | (go_at_call_of 44 (Value.int IntKind.u64 (@HAdd.hAdd Int Int Int instHAdd ((p : Nat) : Int) 32)); refine ((zJ1 G4) _ (zJd (zJ1 HB))).mono ?_; rintro e w1 ⟨rfl, hx⟩; replace HB := zJ2 ((zJ1 HB).trans (hx.mono (zJ1 HB).size)); clear hx)
   | (go_at_call_of 44 (Value.int IntKind.u64 (@HAdd.hAdd Int Int Int instHAdd ((p : Nat) : Int) 40)); refine ((zJ1 G5) _ (zJd (zJ1 HB))).mono ?_; rintro e w1 ⟨rfl, hx⟩; replace HB := zJ2 ((zJ1 HB).trans (hx.mono (zJ1 HB).size)); clear hx; have hn := newblk (zJ1 HB); have hsz := lt_of_block hn; have Hn := zJ2 hn; clear hn)
   | (go_at_call_of 44 (Value.int IntKind.u64 (@HAdd.hAdd Int Int Int instHAdd ((p : Nat) : Int) 48)); refine ((zJ1 G6) _ (zJd (zJ1 HB))).mono ?_; rintro e w1 ⟨rfl, hx⟩; replace HB := zJ2 ((zJ1 HB).trans (hx.mono (zJ1 HB).size)); clear hx)
   | (go_at_call_of 45 (Value.bool true); refine (zJ8 _ _).mono ?_; rintro e w1 ⟨rfl, rfl⟩)
   | (go_at_call_of 45 (Value.bool false); refine (zJe _ _).mono ?_; rintro e w1 ⟨rfl, rfl⟩)
   | (go_at_call_of 46 (Value.int IntKind.u64 ((o : Nat) : Int)); refine (zJk _ _ _ _ (by omega) (by omega) (by omega) (by omega) (by omega)).mono ?_; rintro e w1 ⟨rfl, rfl⟩)
   | (go_at_call_of 46 (Value.int IntKind.u64 ((a : Nat) : Int)); refine (zJk _ _ _ _ (by omega) (by omega) (by omega) (by omega) (by omega)).mono ?_; rintro e w1 ⟨rfl, rfl⟩)
   | ((with_reducible refine (@id (wpList _ _ _ (Oper.mk none (Op.store 58 (.tmp 6) (.tmp 97)) _ _ _ none :: _) _ _) ?_)); refine wpList_store_row rfl 58 (.tmp 6) (.tmp 97) rfl w.heap.size #[.int .u32 k, .int .u8 fl, .int .u64 o, .int .u64 a, .int .u64 f, .int .u64 z] rfl rfl 58 _ ((Below.heap_alloc _ _ _ hsz).trans (zJ1 Hn)) yJy rfl (vJj _ _ _ _ _ _) ?_))
  refine bodyPost_ret (results_cell_row (P := Tryz.prog) rfl _ _ w.heap.size 58 #[.int .u32 k, .int .u8 fl, .int .u64 o, .int .u64 a, .int .u64 f, .int .u64 z] (0, 0) _ rfl (setRow_heap _ _ _ _ _ _ ((Below.heap_alloc _ _ _ hsz).trans (zJ1 Hn))) Tryz.underlying58 rfl yJy) rfl ⟨rfl, ?_⟩
  exact below_setRow ((zJd (zJ1 HB)).alloc (zJd (zJ1 HB)).size _) (Nat.le_refl _) _)
theorem segment_any (A : Option Addr) (m c : Nat) (B : Nat) (b : List UInt8) (p ty : Nat) (w : World) (hB : B <= w.heap.size) (hb : Rd w B 1 A m (u8s b)) (hm : m <= maxLen) (hin : p + 56 <= m) (hp : p <= 4294967296) (hty : ty < 65536) :
  Calls Tryz.prog 47 #[.slice A m c, .int .u64 p, .int .u16 ty] w fun e w' => e = (if El.segOk b p ty then .returned (segVal (El.segAt b p)) else wrongs 25) /\ Below w.heap.size w w' := by
 have hbl : b.length = m := by simpa using hb.len1
 have yes : El.segOk b p ty = true -> Calls Tryz.prog 47 #[.slice A m c, .int .u64 p, .int .u16 ty] w (fun e w' => e = .returned (segVal (El.segAt b p)) /\ Below w.heap.size w w') -> Calls Tryz.prog 47 #[.slice A m c, .int .u64 p, .int .u16 ty] w fun e w' => e = (if El.segOk b p ty then .returned (segVal (El.segAt b p)) else wrongs 25) /\ Below w.heap.size w w' := fun h c => by rw [h]; exact c
 have no : El.segOk b p ty = false -> Calls Tryz.prog 47 #[.slice A m c, .int .u64 p, .int .u16 ty] w (fun e w' => e = wrongs 25 /\ Below w.heap.size w w') -> Calls Tryz.prog 47 #[.slice A m c, .int .u64 p, .int .u16 ty] w fun e w' => e = (if El.segOk b p ty then .returned (segVal (El.segAt b p)) else wrongs 25) /\ Below w.heap.size w w' := fun h c => by rw [h]; exact c
 by_cases h1 : Wd.num b (p + 4) 4 <= 7
 case neg => exact no (by simp [El.segOk, El.flagsB, El.insideB, El.endB, El.alignB, El.knownB, El.endOf, El.segAt, *] <;> omega) (yJ7 A m c B b p ty w hB hb hm hin hp hty (.inl h1))
 by_cases h2 : Wd.num b (p + 32) 8 <= Wd.num b (p + 40) 8
 case neg => exact no (by simp [El.segOk, El.flagsB, El.insideB, El.endB, El.alignB, El.knownB, El.endOf, El.segAt, *] <;> omega) (yJ7 A m c B b p ty w hB hb hm hin hp hty (.inr (.inl ⟨h1, h2⟩)))
 by_cases h3 : Wd.num b (p + 8) 8 + Wd.num b (p + 32) 8 <= m
 case neg => exact no (by simp [El.segOk, El.flagsB, El.insideB, El.endB, El.alignB, El.knownB, El.endOf, El.segAt, *] <;> omega) (yJ7 A m c B b p ty w hB hb hm hin hp hty (.inr (.inr (.inl ⟨h1, h2, h3⟩))))
 by_cases h5 : ¬ Wd.num b p 4 = 1 /\ ¬ Wd.num b p 4 = 2 /\ ¬ Wd.num b p 4 = 3 /\ ¬ Wd.num b p 4 = 6
 ·exact yes (by simp [El.segOk, El.flagsB, El.insideB, El.endB, El.alignB, El.knownB, El.endOf, El.segAt, *] <;> omega) (yJc A m c B b p ty w hB hb hm hin hp hty (.inr (.inr (.inr (.inr (.inr (.inr (.inr (.inr ⟨h1, h2, h3, h5⟩)))))))))
 have h5' : Wd.num b p 4 = 1 \/ Wd.num b p 4 = 2 \/ Wd.num b p 4 = 3 \/ Wd.num b p 4 = 6 := by omega
 clear h5
 by_cases h4 : ty = 3
 ·by_cases h6 : Wd.num b (p + 16) 8 + Wd.num b (p + 40) 8 <= 4294967296
  ·rcases h5' with h5 | h5 | h5 | h5
   ·by_cases h7 : Wd.num b (p + 48) 8 = 4096
    ·by_cases h8 : Wd.num b (p + 8) 8 % 4096 = Wd.num b (p + 16) 8 % 4096
     ·by_cases h9 : 0 < Wd.num b (p + 40) 8
      ·exact yes (by simp [El.segOk, El.flagsB, El.insideB, El.endB, El.alignB, El.knownB, El.endOf, El.segAt, *] <;> omega) (yJc A m c B b p ty w hB hb hm hin hp hty (.inl ⟨h1, h2, h3, h4, h5, h6, h7, h8, h9⟩))
      ·exact no (by simp [El.segOk, El.flagsB, El.insideB, El.endB, El.alignB, El.knownB, El.endOf, El.segAt, *] <;> omega) (yJ7 A m c B b p ty w hB hb hm hin hp hty (.inr (.inr (.inr (.inr (.inr (.inr (.inl ⟨h1, h2, h3, h4, h5, h6, h7, h8, h9⟩))))))))
     ·exact no (by simp [El.segOk, El.flagsB, El.insideB, El.endB, El.alignB, El.knownB, El.endOf, El.segAt, *] <;> omega) (yJ7 A m c B b p ty w hB hb hm hin hp hty (.inr (.inr (.inr (.inr (.inr (.inl ⟨h1, h2, h3, h4, h5, h6, h7, h8⟩)))))))
    ·exact no (by simp [El.segOk, El.flagsB, El.insideB, El.endB, El.alignB, El.knownB, El.endOf, El.segAt, *] <;> omega) (yJ7 A m c B b p ty w hB hb hm hin hp hty (.inr (.inr (.inr (.inr (.inl ⟨h1, h2, h3, h4, h5, h6, h7⟩))))))
   ·exact yes (by simp [El.segOk, El.flagsB, El.insideB, El.endB, El.alignB, El.knownB, El.endOf, El.segAt, *] <;> omega) (yJc A m c B b p ty w hB hb hm hin hp hty (.inr (.inl ⟨h1, h2, h3, h4, h5, h6⟩)))
   ·exact yes (by simp [El.segOk, El.flagsB, El.insideB, El.endB, El.alignB, El.knownB, El.endOf, El.segAt, *] <;> omega) (yJc A m c B b p ty w hB hb hm hin hp hty (.inr (.inr (.inl ⟨h1, h2, h3, h4, h5, h6⟩))))
   ·exact yes (by simp [El.segOk, El.flagsB, El.insideB, El.endB, El.alignB, El.knownB, El.endOf, El.segAt, *] <;> omega) (yJc A m c B b p ty w hB hb hm hin hp hty (.inr (.inr (.inr (.inl ⟨h1, h2, h3, h4, h5, h6⟩)))))
  ·rcases h5' with h5 | h5 | h5 | h5
   ·exact no (by simp [El.segOk, El.flagsB, El.insideB, El.endB, El.alignB, El.knownB, El.endOf, El.segAt, *] <;> omega) (yJ7 A m c B b p ty w hB hb hm hin hp hty (.inr (.inr (.inr (.inl ⟨h1, h2, h3, h4, h5, h6⟩)))))
   ·exact no (by simp [El.segOk, El.flagsB, El.insideB, El.endB, El.alignB, El.knownB, El.endOf, El.segAt, *] <;> omega) (yJ7 A m c B b p ty w hB hb hm hin hp hty (.inr (.inr (.inr (.inr (.inr (.inr (.inr (.inl ⟨h1, h2, h3, h4, h5, h6⟩)))))))))
   ·exact no (by simp [El.segOk, El.flagsB, El.insideB, El.endB, El.alignB, El.knownB, El.endOf, El.segAt, *] <;> omega) (yJ7 A m c B b p ty w hB hb hm hin hp hty (.inr (.inr (.inr (.inr (.inr (.inr (.inr (.inr (.inl ⟨h1, h2, h3, h4, h5, h6⟩))))))))))
   ·exact no (by simp [El.segOk, El.flagsB, El.insideB, El.endB, El.alignB, El.knownB, El.endOf, El.segAt, *] <;> omega) (yJ7 A m c B b p ty w hB hb hm hin hp hty (.inr (.inr (.inr (.inr (.inr (.inr (.inr (.inr (.inr (.inl ⟨h1, h2, h3, h4, h5, h6⟩)))))))))))
 ·by_cases h6 : Wd.num b (p + 16) 8 + Wd.num b (p + 40) 8 <= 140737488355328
  ·rcases h5' with h5 | h5 | h5 | h5
   ·by_cases h7 : Wd.num b (p + 48) 8 = 4096
    ·by_cases h8 : Wd.num b (p + 8) 8 % 4096 = Wd.num b (p + 16) 8 % 4096
     ·by_cases h9 : 0 < Wd.num b (p + 40) 8
      ·exact yes (by simp [El.segOk, El.flagsB, El.insideB, El.endB, El.alignB, El.knownB, El.endOf, El.segAt, *] <;> omega) (yJc A m c B b p ty w hB hb hm hin hp hty (.inr (.inr (.inr (.inr (.inl ⟨h1, h2, h3, h4, h5, h6, h7, h8, h9⟩))))))
      ·exact no (by simp [El.segOk, El.flagsB, El.insideB, El.endB, El.alignB, El.knownB, El.endOf, El.segAt, *] <;> omega) (uJr A m c B b p ty w hB hb hm hin hp hty (.inl ⟨h1, h2, h3, h4, h5, h6, h7, h8, h9⟩))
     ·exact no (by simp [El.segOk, El.flagsB, El.insideB, El.endB, El.alignB, El.knownB, El.endOf, El.segAt, *] <;> omega) (yJ7 A m c B b p ty w hB hb hm hin hp hty (.inr (.inr (.inr (.inr (.inr (.inr (.inr (.inr (.inr (.inr (.inr (.inr ⟨h1, h2, h3, h4, h5, h6, h7, h8⟩)))))))))))))
    ·exact no (by simp [El.segOk, El.flagsB, El.insideB, El.endB, El.alignB, El.knownB, El.endOf, El.segAt, *] <;> omega) (yJ7 A m c B b p ty w hB hb hm hin hp hty (.inr (.inr (.inr (.inr (.inr (.inr (.inr (.inr (.inr (.inr (.inr (.inl ⟨h1, h2, h3, h4, h5, h6, h7⟩)))))))))))))
   ·exact yes (by simp [El.segOk, El.flagsB, El.insideB, El.endB, El.alignB, El.knownB, El.endOf, El.segAt, *] <;> omega) (yJc A m c B b p ty w hB hb hm hin hp hty (.inr (.inr (.inr (.inr (.inr (.inl ⟨h1, h2, h3, h4, h5, h6⟩)))))))
   ·exact yes (by simp [El.segOk, El.flagsB, El.insideB, El.endB, El.alignB, El.knownB, El.endOf, El.segAt, *] <;> omega) (yJc A m c B b p ty w hB hb hm hin hp hty (.inr (.inr (.inr (.inr (.inr (.inr (.inl ⟨h1, h2, h3, h4, h5, h6⟩))))))))
   ·exact yes (by simp [El.segOk, El.flagsB, El.insideB, El.endB, El.alignB, El.knownB, El.endOf, El.segAt, *] <;> omega) (yJc A m c B b p ty w hB hb hm hin hp hty (.inr (.inr (.inr (.inr (.inr (.inr (.inr (.inl ⟨h1, h2, h3, h4, h5, h6⟩)))))))))
  ·rcases h5' with h5 | h5 | h5 | h5
   ·exact no (by simp [El.segOk, El.flagsB, El.insideB, El.endB, El.alignB, El.knownB, El.endOf, El.segAt, *] <;> omega) (yJ7 A m c B b p ty w hB hb hm hin hp hty (.inr (.inr (.inr (.inr (.inr (.inr (.inr (.inr (.inr (.inr (.inl ⟨h1, h2, h3, h4, h5, h6⟩))))))))))))
   ·exact no (by simp [El.segOk, El.flagsB, El.insideB, El.endB, El.alignB, El.knownB, El.endOf, El.segAt, *] <;> omega) (uJr A m c B b p ty w hB hb hm hin hp hty (.inr (.inl ⟨h1, h2, h3, h4, h5, h6⟩)))
   ·exact no (by simp [El.segOk, El.flagsB, El.insideB, El.endB, El.alignB, El.knownB, El.endOf, El.segAt, *] <;> omega) (uJr A m c B b p ty w hB hb hm hin hp hty (.inr (.inr (.inl ⟨h1, h2, h3, h4, h5, h6⟩))))
   ·exact no (by simp [El.segOk, El.flagsB, El.insideB, El.endB, El.alignB, El.knownB, El.endOf, El.segAt, *] <;> omega) (uJr A m c B b p ty w hB hb hm hin hp hty (.inr (.inr (.inr ⟨h1, h2, h3, h4, h5, h6⟩))))
def sgVals (s : El.Sg) : List Value := [.int .u32 s.kind, .int .u8 s.flags, .int .u64 s.off, .int .u64 s.addr, .int .u64 s.fsz, .int .u64 s.msz]
def segCells (l : List El.Sg) : List Value := l.flatMap sgVals
def SgFit (s : El.Sg) : Prop := s.kind < 4294967296 /\ s.flags < 256 /\ s.off < 18446744073709551616 /\ s.addr < 18446744073709551616 /\ s.fsz < 18446744073709551616 /\ s.msz < 18446744073709551616
theorem yJ4 (l : List El.Sg) : (segCells l).length = l.length * 6 := by
 induction l with
 | nil => rfl
 | cons s r ih =>
  have : segCells (s :: r) = sgVals s ++ segCells r := rfl
  rw [this, List.length_append, ih, List.length_cons]
  simp [sgVals]
  omega
theorem segCells_at (l : List El.Sg) : ∀ (k : Nat) (s : El.Sg), l[k]? = some s -> ∀ j, j < 6 -> (segCells l)[k * 6 + j]? = (sgVals s)[j]? := by
 induction l with
 | nil => intro k s h; simp at h
 | cons a r ih =>
  intro k s h j hj
  have e : segCells (a :: r) = sgVals a ++ segCells r := rfl
  have hl : (sgVals a).length = 6 := rfl
  cases k with
  | zero =>
   simp at h
   subst h
   rw [e, List.getElem?_append_left (by omega)]
   congr 1
   omega
  | succ k =>
   simp at h
   rw [e, List.getElem?_append_right (by omega), hl, show (k + 1) * 6 + j - 6 = k * 6 + j from by omega]
   exact ih k s h j hj
theorem wJz {w : World} {B n : Nat} {A : Option Addr} {l : List El.Sg} (h : Rd w B 6 A n (segCells l)) {k : Nat} {s : El.Sg} (hk : l[k]? = some s) :
  ∃ b off, A = some ⟨b, off, none⟩ /\ b < B /\ w.cell? ⟨b, off + k * 6, none⟩ = some (.int .u32 s.kind) /\ w.cell? ⟨b, off + k * 6 + 1, none⟩ = some (.int .u8 s.flags) /\ w.cell? ⟨b, off + k * 6 + 2, none⟩ = some (.int .u64 s.off) /\
   w.cell? ⟨b, off + k * 6 + 3, none⟩ = some (.int .u64 s.addr) /\ w.cell? ⟨b, off + k * 6 + 4, none⟩ = some (.int .u64 s.fsz) /\ w.cell? ⟨b, off + k * 6 + 5, none⟩ = some (.int .u64 s.msz) := by
 have hc := segCells_at l k s hk
 obtain ⟨b, off, e, hb, hx⟩ := h.open_ (by
  intro e0
  have := hc 0 (by omega)
  rw [e0] at this
  simp [sgVals] at this)
 have key : ∀ j u, j < 6 -> (sgVals s)[j]? = some u -> w.cell? ⟨b, off + k * 6 + j, none⟩ = some u := fun j u hj hu => by
  have := hx (k * 6 + j) u ((hc j hj).trans hu)
  rwa [<- Nat.add_assoc] at this
 exact ⟨b, off, e, hb, key 0 _ (by omega) rfl, key 1 _ (by omega) rfl, key 2 _ (by omega) rfl, key 3 _ (by omega) rfl, key 4 _ (by omega) rfl, key 5 _ (by omega) rfl⟩
theorem xJ6 (o : List El.Sg) (s : El.Sg) : segCells (o ++ [s]) = segCells o ++ [.int .u32 s.kind, .int .u8 s.flags, .int .u64 s.off, .int .u64 s.addr, .int .u64 s.fsz, .int .u64 s.msz] := by simp [segCells, sgVals]
theorem wJp (s : El.Sg) : ∀ u ∈ sgVals s, u.oneCell' = true := by
 intro u hu
 simp [sgVals] at hu
 rcases hu with rfl | rfl | rfl | rfl | rfl | rfl <;> rfl
theorem segTy : SlTy Tryz.prog 42 58 6 40 := yJx (z := .agg #[.int .u32 0, .int .u8 0, .int .u64 0, .int .u64 0, .int .u64 0, .int .u64 0]) Tryz.underlying42 (by kernel_rfl) rfl (by omega) (by omega)
set_option maxHeartbeats 1000000 in
theorem vJw (A : Option Addr) (n c B : Nat) (l : List El.Sg) (ty en ph : Int) (w : World) (hB : B <= w.heap.size) (hl : Rd w B 6 A n (segCells l)) (hn : n <= 4294967296) :
  Calls Tryz.prog 17 #[.agg #[.int .u16 ty, .int .u64 en, .int .u64 ph, .slice A n c]] w fun e w' => ∃ A' c', e = .returned (.slice A' (El.loads l).length c') /\
   w'.ownsRow w.heap.size 58 6 (.slice A' (El.loads l).length c') (El.loads l).length (segCells (El.loads l)) /\ Below w.heap.size w w' := by
 have hln : l.length = n := by have := hl.1; rw [yJ4] at this; omega
 have Hl := zJ2 hl
 have Hln := zJ2 hln
 clear hl hln
 go_enter Tryz.func17, Tryz.ntmps17
 go_wp2
 go_loopw [2, 8] (fun out i wr => ∃ (k : Nat) (A' : Option Addr) (c' : Nat) (o : List El.Sg), k <= n /\ i = .int .i64 k /\ out = .slice A' o.length c' /\ o = El.loads (l.take k) /\ o.length <= k /\
  wr.ownsRow w.heap.size 58 6 (.slice A' o.length c') o.length (segCells o) /\ Below w.heap.size w wr) (fun _ i _ => n - (intOf i).toNat)
 case atStart => exact ⟨0, none, 0, [], Nat.zero_le _, rfl, rfl, rfl, Nat.le_refl _, World.ownsRow_nil _ _ _ _, (Below.refl _ _).alloc (Nat.le_refl _) _⟩
 case round =>
  obtain ⟨k, A', c', o, hk, rfl, rfl, ho, hok, hown, hb⟩ := hrel
  have Ho := zJ2 ho
  have hsz := hb.size
  clear ho
  by_cases hlt : k < n
  ·obtain ⟨s, hs⟩ : ∃ s, l[k]? = some s := ⟨_, List.getElem?_eq_getElem (by rw [zJ1 Hln]; exact hlt)⟩
   obtain ⟨b1, o1, rfl, hbb, c0, c1, c2, c3, c4, c5⟩ := wJz ((zJ1 Hl).below (hb.mono hB)) hs
   by_cases hc : s.kind = 1
   ·have hbq : (((s.kind : Nat) : Int) == 1) = true := by rw [hc]; rfl
    have ho2 : o ++ [s] = El.loads (l.take (k + 1)) := by
     rw [List.take_add_one, hs, zJ1 Ho]
     simp [El.loads, El.isLoad, hc]
    have Ho2 := zJ2 ho2
    clear ho2 hs hc
    go_wp2_with (at_builtin; refine zJl segTy rfl _ _ rfl w.heap.size (.slice A' o.length c') o.length (segCells o) rfl (hown.alloc _) #[.int .u32 s.kind, .int .u8 s.flags, .int .u64 s.off, .int .u64 s.addr, .int .u64 s.fsz, .int .u64 s.msz] _ rfl (by simp) rfl (wJp s) (by omega) (by simp; omega) ?_; intro A2 c2 w1 hown' hgrow hat; have hb1 := zJ2 ((hb.alloc hsz _).grown hgrow (by simp; omega) (fun k hk => (hown.lt k hk).1)); have Hown' := zJ2 hown'; clear hgrow hat hown')
    go_roundw
    case rel =>
     refine ⟨k + 1, A2, c2, o ++ [s], by omega, by go_num, by simp, zJ1 Ho2, by simp; omega, ?_, zJ1 hb1⟩
     rw [xJ6]
     simpa using zJ1 Hown'
    case measure => simp [intOf]; omega
   ·have hbq : (((s.kind : Nat) : Int) == 1) = false := by simp; omega
    have ho2 : o = El.loads (l.take (k + 1)) := by
     rw [List.take_add_one, hs, zJ1 Ho]
     simp [El.loads, El.isLoad, hc]
    have Ho2 := zJ2 ho2
    clear ho2 hs hc
    go_wp2
    go_roundw
    case rel => exact ⟨k + 1, A', c', o, by omega, by go_num, rfl, zJ1 Ho2, by omega, hown.alloc _, hb.alloc hsz _⟩
    case measure => simp [intOf]; omega
  ·have ho2 : o = El.loads l := by
    have := zJ1 Ho
    rwa [List.take_of_length_le (by have := zJ1 Hln; omega)] at this
   have Ho2 := zJ2 ho2
   clear ho2
   go_wp2
   go_ret
   rw [<- zJ1 Ho2]
   exact ⟨A', c', rfl, hown, hb⟩
structure MapG (w : World) (g : Nat) (d : TypeDesc) (m : List (Value × Value)) : Prop where
 there : ∃ es clk, w.heap[g]? = some (.map es clk) /\ es.toList.map (fun e => (e.key, e.val)) = m
 keys : ∀ p ∈ m, Go.MapKept.IsKey d p.1
 once : m.Pairwise (fun p q => p.1 ≠ q.1)
section
variable {P : Program} {t kt e : TypeId} {d : TypeDesc} {w : World} {g : Nat} {m : List (Value × Value)} {x v : Value}
theorem findG_no (hx : Go.MapKept.IsKey d x) : ∀ (es : List MapEntry) (m : List (Value × Value)) (i : Nat), es.map (fun e => (e.key, e.val)) = m -> (∀ p ∈ m, Go.MapKept.IsKey d p.1) -> (∀ p ∈ m, p.1 ≠ x) -> Instr.findNow d x es i = some none := by
 intro es
 induction es with
 | nil => intro m i h hk hn; rfl
 | cons e es ih =>
  intro m i h hk hn
  subst h
  simp only [List.map_cons, List.mem_cons, forall_eq_or_imp] at hk hn
  obtain ⟨r, hr, hiff⟩ := Go.MapKept.sameNow_of_keys hx hk.1
  have hrf : r = false := by
   cases r with
   | false => rfl
   | true => exact absurd (hiff.1 rfl).symm hn.1
  unfold Instr.findNow
  rw [hr, hrf]
  exact ih _ _ rfl hk.2 hn.2
theorem findG_yes (hx : Go.MapKept.IsKey d x) : ∀ (es : List MapEntry) (m : List (Value × Value)) (i : Nat), es.map (fun e => (e.key, e.val)) = m -> (∀ p ∈ m, Go.MapKept.IsKey d p.1) -> m.Pairwise (fun p q => p.1 ≠ q.1) -> (x, v) ∈ m -> ∃ j, Instr.findNow d x es i = some (some (j, v)) := by
 intro es
 induction es with
 | nil => intro m i h hk hp hm; subst h; cases hm
 | cons e es ih =>
  intro m i h hk hp hm
  subst h
  simp only [List.map_cons, List.mem_cons, forall_eq_or_imp] at hk hm
  rw [List.map_cons, List.pairwise_cons] at hp
  obtain ⟨r, hr, hiff⟩ := Go.MapKept.sameNow_of_keys hx hk.1
  unfold Instr.findNow
  rw [hr]
  rcases hm with hm | hm
  ·injection hm with h1 h2
   rw [hiff.2 h1]
   exact ⟨i, by rw [h2]⟩
  ·have hrf : r = false := by
    cases r with
    | false => rfl
    | true => exact absurd (hiff.1 rfl).symm (hp.1 _ hm)
   rw [hrf]
   exact ih _ _ rfl hk.2 hp.2 hm
theorem uJs (ht : P.underlying t = some (.map kt e)) (hk : P.underlying kt = some d) (hik : Go.MapKept.IsKey d x) (h : MapG w g d m) (hx : (x, v) ∈ m) :
  (Instr.lookup t (.map (some g)) x true).run P w = .ok (.tuple #[v, .bool true]) w /\ (Instr.lookup t (.map (some g)) x false).run P w = .ok v w := by
 obtain ⟨⟨es, clk, hg, hm⟩, hks, hone⟩ := h
 obtain ⟨j, hr⟩ := findG_yes hik es.toList m 0 hm hks hone hx
 constructor <;> simp [Instr.lookup, run_underlying ht, Go.MapKept.run_getObj_map hg, Go.MapKept.run_checkKey hk hik, Go.MapKept.run_findKey hk hr, Result.andThen]
theorem run_lookG_no (ht : P.underlying t = some (.map kt e)) (hk : P.underlying kt = some d) (hik : Go.MapKept.IsKey d x) {z : Value} (hz : (zeroValue e).run P w = .ok z w) (h : MapG w g d m) (hx : ∀ p ∈ m, p.1 ≠ x) :
  (Instr.lookup t (.map (some g)) x true).run P w = .ok (.tuple #[z, .bool false]) w /\ (Instr.lookup t (.map (some g)) x false).run P w = .ok z w := by
 obtain ⟨⟨es, clk, hg, hm⟩, hks, hone⟩ := h
 have hr := findG_no hik es.toList m 0 hm hks hx
 constructor <;> simp [Instr.lookup, run_underlying ht, Go.MapKept.run_getObj_map hg, Go.MapKept.run_checkKey hk hik, Go.MapKept.run_findKey hk hr, hz, Result.andThen]
theorem MapG.nil (w : World) (d : TypeDesc) : MapG (w.alloc (.map #[] 0)) w.heap.size d [] := ⟨⟨#[], 0, heap_alloc_new _ _, rfl⟩, by simp, by simp⟩
theorem MapG.keep {w' : World} (h : MapG w g d m) (hk : w'.heap[g]? = w.heap[g]?) : MapG w' g d m := by
 obtain ⟨⟨es, clk, hg, hm⟩, hks, hone⟩ := h
 exact ⟨⟨es, clk, hk.trans hg, hm⟩, hks, hone⟩
theorem MapG.lt (h : MapG w g d m) : g < w.heap.size := by
 obtain ⟨⟨es, clk, hg, hm⟩, hks, hone⟩ := h
 exact (Array.getElem?_eq_some_iff.1 hg).1
theorem MapG.below {w' : World} {B : Nat} (h : MapG w g d m) (hb : Below B w w') (hg : g < B) : MapG w' g d m := h.keep (hb.block g hg)
theorem MapG.belowSz {w' : World} (h : MapG w g d m) (hb : Below w.heap.size w w') : MapG w' g d m := h.below hb h.lt
end
open Go.RowKit
structure MapB (w : World) (g : Nat) (d : TypeDesc) (m : List (Value × Value)) : Prop where
 there : ∃ es clk, w.heap[g]? = some (.map es clk) /\ es.toList.map (fun e => (e.key, e.val)) = m /\ (∀ x ∈ es.toList, x.born < clk) /\ (es.toList.map (·.born)).Nodup
 keys : ∀ p ∈ m, Go.MapKept.IsKey d p.1
 once : m.Pairwise (fun p q => p.1 ≠ q.1)
section
variable {P : Program} {t kt e : TypeId} {d : TypeDesc} {w : World} {g : Nat} {m : List (Value × Value)} {x v : Value}
theorem MapB.toG (h : MapB w g d m) : MapG w g d m := by
 obtain ⟨⟨es, clk, h1, h2, _⟩, h3, h4⟩ := h
 exact ⟨⟨es, clk, h1, h2⟩, h3, h4⟩
theorem MapB.nil (w : World) (d : TypeDesc) : MapB (w.alloc (.map #[] 0)) w.heap.size d [] := ⟨⟨#[], 0, heap_alloc_new _ _, rfl, by simp, by simp⟩, by simp, by simp⟩
theorem MapB.keep {w' : World} (h : MapB w g d m) (hk : w'.heap[g]? = w.heap[g]?) : MapB w' g d m := by
 obtain ⟨⟨es, clk, h1, r⟩, h3, h4⟩ := h
 exact ⟨⟨es, clk, hk.trans h1, r⟩, h3, h4⟩
theorem MapB.lt (h : MapB w g d m) : g < w.heap.size := h.toG.lt
theorem MapB.below {w' : World} {B : Nat} (h : MapB w g d m) (hb : Below B w w') (hg : g < B) : MapB w' g d m := h.keep (hb.block g hg)
theorem MapB.belowSz {w' : World} (h : MapB w g d m) (hb : Below w.heap.size w w') : MapB w' g d m := h.below hb h.lt
theorem run_putB (ht : P.underlying t = some (.map kt e)) (hk : P.underlying kt = some d) (hik : Go.MapKept.IsKey d x) (h : MapB w g d m) (hx : ∀ p ∈ m, p.1 ≠ x) :
  ∃ w', (Instr.mapUpdate t (.map (some g)) x v).run P w = .ok () w' /\ MapB w' g d (m ++ [(x, v)]) /\ w.grownBy w' (some g) /\ w'.heap.size = w.heap.size := by
 obtain ⟨⟨es, clk, hg, hm, hb, hn⟩, hks, hone⟩ := h
 have hr := findG_no hik es.toList m 0 hm hks hx
 have hlt : g < w.heap.size := (Array.getElem?_eq_some_iff.1 hg).1
 refine ⟨{ w with heap := w.heap.setIfInBounds g (.map (es.push { key := x, val := v, born := clk }) (clk + 1)) }, ?_, ⟨?_, ?_, ?_⟩, ?_, by simp⟩
 ·simp [Instr.mapUpdate, run_underlying ht, Go.MapKept.run_getObj_map hg, Go.MapKept.run_checkKey hk hik, Go.MapKept.run_findKey hk hr, Go.MapKept.run_setObj_map _ hg, Result.andThen]
 ·refine ⟨_, _, (Go.MapKept.heap_set hg).1, ?_, ?_, ?_⟩
  ·simp [hm]
  ·intro y hy
   simp only [Array.toList_push, List.mem_append, List.mem_singleton] at hy
   rcases hy with hy | hy
   ·have := hb y hy; omega
   ·subst hy; simp
  ·rw [Array.toList_push, List.map_append, List.nodup_append]
   refine ⟨hn, by simp, ?_⟩
   intro a ha b hb2
   obtain ⟨y, hy, rfl⟩ := List.mem_map.1 ha
   simp at hb2
   subst hb2
   have := hb y hy
   omega
 ·intro p hp
  rcases List.mem_append.1 hp with hp | hp
  ·exact hks p hp
  ·rw [List.mem_singleton] at hp
   subst hp
   exact hik
 ·rw [List.pairwise_append]
  refine ⟨hone, by simp, fun a ha b hb => ?_⟩
  rw [List.mem_singleton] at hb
  subst hb
  exact hx a ha
 ·exact ⟨rfl, rfl, rfl, by simp, fun i _ hi => (Go.MapKept.heap_set hg).2 i (fun e => hi (by rw [e]))⟩
theorem xJ8 (ht : P.underlying t = some (.map kt e)) (hk : P.underlying kt = some d) (hik : Go.MapKept.IsKey d x) (h : MapB w g d m) (hx : (x, v) ∈ m) :
  (Instr.lookup t (.map (some g)) x true).run P w = .ok (.tuple #[v, .bool true]) w /\ (Instr.lookup t (.map (some g)) x false).run P w = .ok v w := uJs ht hk hik h.toG hx
theorem xJf (ht : P.underlying t = some (.map kt e)) (hk : P.underlying kt = some d) (hik : Go.MapKept.IsKey d x) {z : Value} (hz : (zeroValue e).run P w = .ok z w) (h : MapB w g d m) (hx : ∀ p ∈ m, p.1 ≠ x) :
  (Instr.lookup t (.map (some g)) x true).run P w = .ok (.tuple #[z, .bool false]) w /\ (Instr.lookup t (.map (some g)) x false).run P w = .ok z w := run_lookG_no ht hk hik hz h.toG hx
theorem wpList_insB {ops : Array Oper} {rest : List Oper} {o : Oper} {a : Act} {Q : Exit -> Act -> World -> Prop} (hgd : o.guard = none) (mo xo vo : Operand) (ho : o.op = .insert t mo xo vo)
  (ht : P.underlying t = some (.map kt e)) (hk : P.underlying kt = some d) (hik : Go.MapKept.IsKey d x) (hmo : a.eval mo = .map (some g)) (hxo : a.eval xo = x) (hvo : a.eval vo = v) (h : MapB w g d m) (hx : ∀ p ∈ m, p.1 ≠ x)
  (hK : ∀ w', MapB w' g d (m ++ [(x, v)]) -> w.grownBy w' (some g) -> w'.heap.size = w.heap.size -> wpList P ops Q rest (a.put o.dst undef) w') : wpList P ops Q (o :: rest) a w := by
 obtain ⟨w', hrun, h1, h2, h3⟩ := run_putB (v := v) ht hk hik h hx
 refine wpList_plain hgd fun K hK' => ?_
 unfold Oper.wp
 simp [execOp, ho, hmo, hxo, hvo, hrun, Result.andThen]
 exact hK' _ _ (hK w' h1 h2 h3)
theorem wpList_insC {ops : Array Oper} {rest : List Oper} {o : Oper} {a : Act} {Q : Exit -> Act -> World -> Prop} (hgd : o.guard = none) (mo : Operand) (x v : Value) (ho : o.op = .insert t mo (.const x) (.const v)) (hdst : o.dst = none)
  (ht : P.underlying t = some (.map kt e)) (hk : P.underlying kt = some d) (hmo : a.eval mo = .map (some g)) (hik : Go.MapKept.IsKey d x) (h : MapB w g d m) (hx : ∀ p ∈ m, p.1 ≠ x)
  (hK : ∀ w', MapB w' g d (m ++ [(x, v)]) -> w.grownBy w' (some g) -> w'.heap.size = w.heap.size -> wpList P ops Q rest a w') : wpList P ops Q (o :: rest) a w :=
 wpList_insB hgd mo (.const x) (.const v) ho ht hk hik hmo rfl rfl h hx (by rw [hdst]; exact hK)
theorem vJc {ops : Array Oper} {rest : List Oper} {o : Oper} {a : Act} {Q : Exit -> Act -> World -> Prop} (hgd : o.guard = none) (mo xo vo : Operand) (ho : o.op = .mapUpdate t mo xo vo)
  (ht : P.underlying t = some (.map kt e)) (hk : P.underlying kt = some d) (hik : Go.MapKept.IsKey d x) (hmo : a.eval mo = .map (some g)) (hxo : a.eval xo = x) (hvo : a.eval vo = v) (h : MapB w g d m) (hx : ∀ p ∈ m, p.1 ≠ x)
  (hK : ∀ w', MapB w' g d (m ++ [(x, v)]) -> w.grownBy w' (some g) -> w'.heap.size = w.heap.size -> wpList P ops Q rest (a.put o.dst undef) w') : wpList P ops Q (o :: rest) a w := by
 obtain ⟨w', hrun, h1, h2, h3⟩ := run_putB (v := v) ht hk hik h hx
 refine wpList_plain hgd fun K hK' => ?_
 unfold Oper.wp
 simp [execOp, ho, hmo, hxo, hvo, hrun, Result.andThen]
 exact hK' _ _ (hK w' h1 h2 h3)
end
end Go.Proofs.YtnbecdahfgkffaaGreat
namespace Go.Proofs.YtnbecdahfgkffaaGreat
end Go.Proofs.YtnbecdahfgkffaaGreat
namespace Go.Proofs.YtnbecdahfgkffaaGreat
open Go.RowKit
structure Ds where
 Ab : Option Addr
 m : Nat
 cb : Nat
 b : List UInt8
 ty : Int
 en : Int
 ph : Int
 As : Option Addr
 n : Nat
 c : Nat
 segs : List El.Sg
 Al : Option Addr
 k : Nat
 cl : Nat
 L : List (Nat × Nat)
 gm : Nat
def entC (l : List (Nat × Nat)) : List Value := l.flatMap fun e => [.int .u64 (e.1 : Nat), .int .u64 (e.2 : Nat)]
def Dy.tagsV (l : List (Nat × Nat)) : List (Value × Value) := (l.filter fun e => Dy.once e.1).map fun e => (.int .u64 (e.1 : Nat), .int .u64 (e.2 : Nat))
structure DsM (w : World) (B g : Nat) (d : Ds) (T : List (Nat × Nat)) : Prop where
 hB : B <= g
 blk : Blk w g 178 [.slice d.Ab d.m d.cb, .int .u16 d.ty, .int .u64 d.en, .int .u64 d.ph, .slice d.As d.n d.c, .slice d.Al d.k d.cl, .map (some d.gm)]
 b : Rd w B 1 d.Ab d.m (bys d.b)
 segs : Rd w B 6 d.As d.n (segCells d.segs)
 list : w.ownsRow B 182 2 (.slice d.Al d.k d.cl) d.k (entC d.L)
 tags : MapB w d.gm (.int .u64) (Dy.tagsV T)
 tagsB : B <= d.gm
structure DsOk (d : Ds) : Prop where
 m : d.m <= 4294967296
 mc : d.m <= d.cb
 n : d.n <= 4294967296
 fit : ∀ s ∈ d.segs, SgFit s
 ent : ∀ e ∈ d.L, e.1 < 18446744073709551616 /\ e.2 < 18446744073709551616
section
variable {w w' : World} {B g : Nat} {d : Ds} {T : List (Nat × Nat)}
theorem DsM.belowSz (h : DsM w B g d T) (hb : Below w.heap.size w w') : DsM w' B g d T :=
 ⟨h.hB, h.blk.belowSz hb, h.b.below (hb.mono (Nat.le_trans h.hB (Nat.le_of_lt h.blk.lt))), h.segs.below (hb.mono (Nat.le_trans h.hB (Nat.le_of_lt h.blk.lt))), own_below h.list hb, h.tags.belowSz hb, h.tagsB⟩
theorem DsM.sz (h : DsM w B g d T) : B <= w.heap.size := Nat.le_trans h.hB (Nat.le_of_lt h.blk.lt)
theorem DsM.drewN (h : DsM w B g d T) (j : Nat) : DsM (w.drewN j) B g d T := h.belowSz (below_drewN' (Below.refl _ _) j)
theorem DsM.cells (h : DsM w B g d T) : w.cell? ⟨g, 0, none⟩ = some (.slice d.Ab d.m d.cb) /\ w.cell? ⟨g, 1, none⟩ = some (.int .u16 d.ty) /\ w.cell? ⟨g, 2, none⟩ = some (.int .u64 d.en) /\ w.cell? ⟨g, 3, none⟩ = some (.int .u64 d.ph) /\ w.cell? ⟨g, 4, none⟩ = some (.slice d.As d.n d.c) /\ w.cell? ⟨g, 5, none⟩ = some (.slice d.Al d.k d.cl) /\ w.cell? ⟨g, 6, none⟩ = some (.map (some d.gm)) :=
 ⟨h.blk.cell rfl, h.blk.cell rfl, h.blk.cell rfl, h.blk.cell rfl, h.blk.cell rfl, h.blk.cell rfl, h.blk.cell rfl⟩
end
namespace Dy
def laidP (addr size : Nat) (s : El.Sg) : Bool := decide (s.addr <= addr) && decide (addr - s.addr + size <= s.fsz)
def laidAt (n : Nat) (s : El.Sg) (addr size : Nat) : Option Nat := if s.off + (addr - s.addr) < 18446744073709551616 /\ s.off + (addr - s.addr) + size <= n then some (s.off + (addr - s.addr)) else none
theorem laid_eq (n : Nat) (l : List El.Sg) (addr size : Nat) : laid n l addr size = match l.find? (laidP addr size) with
  | none => none
  | some s => laidAt n s addr size := rfl
theorem laid_cons (n : Nat) (s : El.Sg) (r : List El.Sg) (addr size : Nat) : laid n (s :: r) addr size = if laidP addr size s = true then laidAt n s addr size else laid n r addr size := by
 rw [laid_eq, laid_eq, List.find?_cons]
 cases laidP addr size s <;> rfl
theorem laid_in {n : Nat} {l : List El.Sg} {addr size off : Nat} (h : laid n l addr size = some off) : off + size <= n /\ off < 18446744073709551616 := by
 induction l with
 | nil => cases h
 | cons s r ih =>
  rw [laid_cons] at h
  split at h
  ·unfold laidAt at h
   split at h
   ·next h2 => injection h with h; subst h; exact ⟨h2.2, h2.1⟩
   ·cases h
  ·exact ih h
end Dy
def LaidE (o : Option Nat) (size B : Nat) (b : List UInt8) (w : World) (e : Ending) (w' : World) : Prop :=
 ((o = none /\ e = .returned (.tuple #[.slice none 0 0, .bool false])) \/ ∃ off A' c', o = some off /\ e = .returned (.tuple #[.slice A' size c', .bool true]) /\ Rd w' B 1 A' size (bys (Dy.cut b off size)) /\ size <= c') /\ Below w.heap.size w w'
set_option maxRecDepth 100000 in
set_option maxHeartbeats 4000000 in
theorem laid_any (B g : Nat) (d : Ds) (T : List (Nat × Nat)) (addr size : Nat) (w : World) (hd : DsM w B g d T) (ho : DsOk d) (ha : addr < 18446744073709551616) (hs : size < 18446744073709551616) :
  Calls Tryz.prog 102 #[.pointer (some ⟨g, 0, none⟩), .int .u64 addr, .int .u64 size] w (LaidE (Dy.laid d.m (El.loads d.segs) addr size) size B d.b w) := by
 obtain ⟨x0, x1, x2, x3, x4, -, -⟩ := hd.cells
 have KL := vJw d.As d.n d.c w.heap.size d.segs d.ty d.en d.ph w (Nat.le_refl _) (hd.segs.more hd.sz) ho.n
 obtain ⟨R, hR⟩ : ∃ R, Dy.laid d.m (El.loads d.segs) addr size = R := ⟨_, rfl⟩
 rw [hR]
 have hfit : ∀ s ∈ El.loads d.segs, SgFit s := fun s hm => ho.fit s (List.mem_filter.1 hm).1
 have hll : (El.loads d.segs).length <= 4294967296 := by
  have h1 : (El.loads d.segs).length <= d.segs.length := List.length_filter_le _ _
  have h2 := hd.segs.1
  rw [yJ4] at h2
  have := ho.n
  omega
 obtain ⟨ls, hls⟩ : ∃ l, El.loads d.segs = l := ⟨_, rfl⟩
 rw [hls] at KL hR hfit hll
 have hm := ho.m
 have hmc := ho.mc
 have hbd := hd.b
 have hszB := hd.sz
 have kf := fun (w' : World) (j : Nat) (h : j <= d.m) (k : Nat) (h2 : k <= j) => wJ0 (P := Tryz.prog) Tryz.underlying24 (e := 5) (by kernel_rfl) .u64 .u64 d.Ab d.m d.cb k j h2 (Nat.le_trans h hmc) w'
 obtain ⟨Ab, m, cb, b, ty, en, ph, As, n, c, segs, Al, k0, cl, L, gm⟩ := d
 dsimp only at *
 have HKL := zJ2 KL
 have HR := zJ2 hR
 have Hfit := zJ2 hfit
 have Hbd := zJ2 hbd
 have Hkf := zJ2 kf
 have hdb := hd.blk
 have Hdb := zJ2 hdb
 clear KL hR hfit hbd kf hd ho hls hdb
 go_enter Tryz.func102, Tryz.ntmps102
 go_wp2_with fail
 refine (zJ1 HKL).mono ?_
 rintro e w1 ⟨A1, c1, rfl, ho1, hb1⟩
 have Hb1 := zJ2 hb1
 have Hr1 := zJ2 (Rd.of_own ho1)
 obtain ⟨kk, hkk⟩ : ∃ k, ls.length = k := ⟨_, rfl⟩
 rw [hkk] at hll Hr1 ⊢
 have Hkk := zJ2 hkk
 clear hb1 ho1 hkk x0 x1 x2 x3 x4 HKL
 go_wp2_with fail
 go_loopg [18] kk (fun gk iv wr => ∃ j : Nat, gk = kk - j /\ j <= kk /\ iv = .int .i64 j /\ Dy.laid m (ls.drop j) addr size = R /\ Below w1.heap.size w1 wr)
 case atStart => exact ⟨0, by omega, Nat.zero_le _, rfl, by simpa using zJ1 HR, Below.refl _ _⟩
 case round =>
 obtain ⟨j, hgk, hj, rfl, hlj, hbr⟩ := hrel
 have Hgk := zJ2 hgk
 have Hlj := zJ2 hlj
 have Hbr := zJ2 hbr
 clear hgk hlj hbr HR
 by_cases hlt : j < kk
 case neg =>
  have h0 := zJ1 Hlj
  rw [List.drop_of_length_le (by rw [zJ1 Hkk]; omega)] at h0
  have h0 : R = none := by rw [<- h0]; rfl
  subst h0
  have ige : ¬ (j : Int) < (kk : Int) := by omega
  go_wp2_with fail
  go_ret2
  exact ⟨.inl ⟨rfl, rfl⟩, (zJ1 Hb1).trans ((zJ1 Hbr).mono (zJ1 Hb1).size)⟩
 obtain ⟨s, hsj⟩ : ∃ s, ls[j]? = some s := ⟨_, List.getElem?_eq_getElem (by rw [zJ1 Hkk]; exact hlt)⟩
 obtain ⟨hf0, hf1, hf2, hf3, hf4, hf5⟩ := (zJ1 Hfit) s (List.mem_of_getElem? hsj)
 obtain ⟨b1, o1, hA1, hbb, c0, c1, c2, c3, c4, c5⟩ := wJz ((zJ1 Hr1).below (zJ1 Hbr)) hsj
 subst hA1
 have hlj := zJ1 Hlj
 rw [List.drop_eq_getElem_cons (by rw [zJ1 Hkk]; exact hlt), show ls[j]'(by rw [zJ1 Hkk]; exact hlt) = s from (List.getElem?_eq_some_iff.1 hsj).2, Dy.laid_cons] at hlj
 have hB2 : Blk (wr.alloc (.cells #[.int .u32 (s.kind : Nat), .int .u8 (s.flags : Nat), .int .u64 (s.off : Nat), .int .u64 (s.addr : Nat), .int .u64 (s.fsz : Nat), .int .u64 (s.msz : Nat)] 58)) wr.heap.size 58 [.int .u32 (s.kind : Nat), .int .u8 (s.flags : Nat), .int .u64 (s.off : Nat), .int .u64 (s.addr : Nat), .int .u64 (s.fsz : Nat), .int .u64 (s.msz : Nat)] := Blk.new wr 58 [.int .u32 (s.kind : Nat), .int .u8 (s.flags : Nat), .int .u64 (s.off : Nat), .int .u64 (s.addr : Nat), .int .u64 (s.fsz : Nat), .int .u64 (s.msz : Nat)]
 have HB2 := zJ2 hB2
 clear hB2
 have Hb2 := zJ2 ((zJ1 Hbr).alloc (zJ1 Hbr).size (.cells #[.int .u32 (s.kind : Nat), .int .u8 (s.flags : Nat), .int .u64 (s.off : Nat), .int .u64 (s.addr : Nat), .int .u64 (s.fsz : Nat), .int .u64 (s.msz : Nat)] 58))
 have KI := fun w' (h : s.addr <= addr) => zJk ((addr : Int) - (s.addr : Int)) size s.fsz w' (by omega) (by omega) (by omega) (by omega) (by omega)
 have ilt : (j : Int) < (kk : Int) := by omega
 by_cases ha2 : s.addr <= addr
 case neg =>
  have hno : ¬ Dy.laidP addr size s = true := by unfold Dy.laidP; simp; omega
  rw [if_neg hno] at hlj
  have Hlj2 := zJ2 hlj
  have g1 : decide (addr < s.addr) = true := by simp; omega
  clear hlj hno KI ha2 Hlj
  go_wp2_with fail
  go_roundg (kk - (j + 1))
  case measure => have := zJ1 Hgk; omega
  case rel => exact ⟨j + 1, rfl, by omega, by go_num, zJ1 Hlj2, zJ1 Hb2⟩
 have g1 : decide (addr < s.addr) = false := by simp; omega
 have KI1 := fun w' => KI w' ha2
 obtain ⟨ib, hib⟩ : ∃ b, decide ((addr : Int) - (s.addr : Int) + (size : Int) <= (s.fsz : Int)) = b := ⟨_, rfl⟩
 rw [hib] at KI1
 have hpl : Dy.laidP addr size s = ib := by
  rw [<- hib]
  unfold Dy.laidP
  rw [decide_eq_true ha2, Bool.true_and, decide_eq_decide]
  omega
 rw [hpl] at hlj
 have HKI := zJ2 KI1
 have Hlj2 := zJ2 hlj
 have ha3 : (s.addr : Int) <= (addr : Int) := by omega
 clear KI KI1 hib hpl hlj Hlj
 cases ib with
 | false =>
  have hlj := zJ1 Hlj2
  rw [if_neg (by decide)] at hlj
  have Hlj3 := zJ2 hlj
  clear hlj Hlj2
  go_wp2_with fail
  refine ((zJ1 HKI) _).mono ?_
  rintro e w2 ⟨rfl, rfl⟩
  go_wp2_with fail
  go_roundg (kk - (j + 1))
  case measure => have := zJ1 Hgk; omega
  case rel => exact ⟨j + 1, rfl, by omega, by go_num, zJ1 Hlj3, zJ1 Hb2⟩
 | true =>
 have hlj := zJ1 Hlj2
 rw [if_pos rfl] at hlj
 unfold Dy.laidAt at hlj
 have Hlj3 := zJ2 hlj
 have hda := (zJ1 Hdb).belowSz ((zJ1 Hb1).trans ((zJ1 Hb2).mono (zJ1 Hb1).size))
 have HD2 := zJ2 hda
 obtain ⟨z0, z1, z2, z3, z4, z5⟩ := And.intro ((zJ1 HB2).cell (i := 0) rfl) (And.intro ((zJ1 HB2).cell (i := 1) rfl) (And.intro ((zJ1 HB2).cell (i := 2) rfl) (And.intro ((zJ1 HB2).cell (i := 3) rfl) (And.intro ((zJ1 HB2).cell (i := 4) rfl) ((zJ1 HB2).cell (i := 5) rfl)))))
 have x0 := hda.cell (i := 0) rfl
 have hBel := (zJ1 Hb1).trans ((zJ1 Hb2).mono (zJ1 Hb1).size)
 have HBel := zJ2 hBel
 clear hlj Hlj2 hda hBel
 go_wp2_with fail
 refine ((zJ1 HKI) _).mono ?_
 rintro e w2 ⟨rfl, rfl⟩
 by_cases hof : s.off + (addr - s.addr) < 18446744073709551616
 case neg =>
  have hR := zJ1 Hlj3
  rw [if_neg (fun h => hof h.1)] at hR
  subst hR
  have KA := zJ2 (fun w' => add_no (s.off : Int) ((addr : Int) - (s.addr : Int)) w' (by omega) (by omega) (by omega) (by omega))
  clear Hlj3 hof HKI
  go_wp2_with fail
  refine ((zJ1 KA) _).mono ?_
  rintro e w3 ⟨rfl, rfl⟩
  go_wp2_with fail
  go_ret2
  exact ⟨.inl ⟨rfl, rfl⟩, zJ1 HBel⟩
 have KA := zJ2 (fun w' => add_yes (s.off : Int) ((addr : Int) - (s.addr : Int)) w' (by omega) (by omega) (by omega))
 obtain ⟨off, hoff⟩ : ∃ o, s.off + (addr - s.addr) = o := ⟨_, rfl⟩
 have hoi : (s.off : Int) + ((addr : Int) - (s.addr : Int)) = (off : Int) := by omega
 rw [hoff] at hof
 have KA1 := zJ1 KA
 rw [hoi] at KA1
 have HKA := zJ2 KA1
 have KI3 := zJ2 (fun w' => zJk (off : Int) size m w' (by omega) (by omega) (by omega) (by omega) (by omega))
 have hlj := zJ1 Hlj3
 rw [hoff] at hlj
 clear KA KA1 hoi hoff HKI Hlj3
 by_cases hin : off + size <= m
 case neg =>
  rw [if_neg (fun h => hin h.2)] at hlj
  subst hlj
  have ki := zJ1 KI3
  rw [show decide (((off : Nat) : Int) + ((size : Nat) : Int) <= ((m : Nat) : Int)) = false by simp; omega] at ki
  have HKI3 := zJ2 ki
  clear KI3 ki hin
  go_wp2_with fail
  refine ((zJ1 HKA) _).mono ?_
  rintro e w3 ⟨rfl, rfl⟩
  go_wp2_with fail
  refine ((zJ1 HKI3) _).mono ?_
  rintro e w4 ⟨rfl, rfl⟩
  go_wp2_with fail
  go_ret2
  exact ⟨.inl ⟨rfl, rfl⟩, zJ1 HBel⟩
 rw [if_pos ⟨hof, hin⟩] at hlj
 subst hlj
 have ki := zJ1 KI3
 rw [show decide (((off : Nat) : Int) + ((size : Nat) : Int) <= ((m : Nat) : Int)) = true by simp; omega] at ki
 have HKI3 := zJ2 ki
 have kf := fun w' => (zJ1 Hkf) w' (off + size) hin off (by omega)
 rw [Nat.add_sub_cancel_left] at kf
 have hsum : ((off + size : Nat) : Int) = (off : Int) + (size : Int) := by omega
 rw [hsum] at kf
 have hres := ((zJ1 Hbd).below ((zJ1 HBel).mono hszB)).cut (k := off) (j := off + size) (by omega) hin hmc
 rw [Nat.add_sub_cancel_left, show ((bys b).drop off).take size = bys (Dy.cut b off size) by unfold bys Dy.cut; rw [List.map_take, List.map_drop]] at hres
 have Hres := zJ2 hres
 have hcs : size <= cb - off := by omega
 have hin2 : (off : Int) + (size : Int) <= (m : Int) := by omega
 clear KI3 ki hsum hres
 go_wp2_with fail
 refine ((zJ1 HKA) _).mono ?_
 rintro e w3 ⟨rfl, rfl⟩
 go_wp2_with fail
 refine ((zJ1 HKI3) _).mono ?_
 rintro e w4 ⟨rfl, rfl⟩
 go_wp2_with fail
 go_ret2
 exact ⟨.inr ⟨off, _, _, rfl, rfl, zJ1 Hres, hcs⟩, zJ1 HBel⟩
open Go.RowKit
namespace Dy
theorem val_mem {L : List (Nat × Nat)} {t v : Nat} (h : val L t = some v) : (t, v) ∈ L := by
 induction L with
 | nil => cases h
 | cons e r ih =>
  unfold val at h
  split at h
  ·next h2 => injection h with h; subst h h2; simp
  ·simp [ih h]
theorem val_none {L : List (Nat × Nat)} {t : Nat} (h : val L t = none) : ∀ e ∈ L, e.1 ≠ t := by
 induction L with
 | nil => intro e he; cases he
 | cons e r ih =>
  unfold val at h
  split at h
  ·cases h
  ·next h2 =>
   intro x hx
   rcases List.mem_cons.1 hx with rfl | hx
   ·exact h2
   ·exact ih h x hx
theorem tagsV_yes {L : List (Nat × Nat)} {t v : Nat} (h : val L t = some v) (ho : once t = true) : (Value.int .u64 (t : Nat), Value.int .u64 (v : Nat)) ∈ tagsV L := by
 unfold tagsV
 rw [List.mem_map]
 exact ⟨(t, v), List.mem_filter.2 ⟨val_mem h, ho⟩, rfl⟩
theorem tagsV_no {L : List (Nat × Nat)} {t : Nat} (h : val L t = none) : ∀ p ∈ tagsV L, p.1 ≠ Value.int .u64 (t : Nat) := by
 intro p hp e
 unfold tagsV at hp
 obtain ⟨x, hx, rfl⟩ := List.mem_map.1 hp
 have hm := (List.mem_filter.1 hx).1
 have h2 := val_none h x hm
 simp at e
 exact h2 (by omega)
end Dy
theorem zero_u64 (w : World) : (zeroValue 23).run Tryz.prog w = .ok (.int .u64 0) w := by kernel_rfl
theorem yJv {w : World} {B g : Nat} {d : Ds} (h : DsM w B g d d.L) {t : Nat} (ho : Dy.once t = true) :
  (Instr.lookup 175 (.map (some d.gm)) (.int .u64 (t : Nat)) true).run Tryz.prog w = .ok (.tuple #[.int .u64 ((Dy.val d.L t).getD 0 : Nat), .bool (Dy.val d.L t).isSome]) w /\
  (Instr.lookup 175 (.map (some d.gm)) (.int .u64 (t : Nat)) false).run Tryz.prog w = .ok (.int .u64 ((Dy.val d.L t).getD 0 : Nat)) w := by
 cases hv : Dy.val d.L t with
 | none => exact xJf Tryz.underlying175 Tryz.underlying23 (by simp [Go.MapKept.IsKey]) (zero_u64 w) h.tags (Dy.tagsV_no hv)
 | some v => exact xJ8 Tryz.underlying175 Tryz.underlying23 (by simp [Go.MapKept.IsKey]) h.tags (Dy.tagsV_yes hv ho)
theorem uJ8 {d : Ds} (h : DsOk d) (t : Nat) : (Dy.val d.L t).getD 0 < 18446744073709551616 := by
 cases hv : Dy.val d.L t with
 | none => decide
 | some v => exact (h.ent _ (Dy.val_mem hv)).2
def TableE (o : Option (Nat × Nat)) (B : Nat) (b : List UInt8) (w : World) (e : Ending) (w' : World) : Prop :=
 ((o = none /\ e = .returned (.tuple #[.slice none 0 0, .bool false])) \/ ∃ p n A' c', o = some (p, n) /\ e = .returned (.tuple #[.slice A' n c', .bool true]) /\ Rd w' B 1 A' n (bys (Dy.cut b p n)) /\ n <= c') /\ Below w.heap.size w w'
set_option maxRecDepth 100000 in
set_option maxHeartbeats 1000000 in
theorem vJg (B g : Nat) (d : Ds) (t1 t2 : Nat) (w : World) (hd : DsM w B g d d.L) (ho : DsOk d) (h1 : Dy.once t1 = true) (h2 : Dy.once t2 = true) :
  Calls Tryz.prog 56 #[.pointer (some ⟨g, 0, none⟩), .int .u64 (t1 : Nat), .int .u64 (t2 : Nat)] w (TableE (Dy.table d.m (El.loads d.segs) d.L t1 t2) B d.b w) := by
 obtain ⟨-, -, -, -, -, -, x6⟩ := hd.cells
 have l1 := (yJv hd h1).1
 have l2 := (yJv hd h2).2
 have KL := laid_any B g d d.L ((Dy.val d.L t1).getD 0) ((Dy.val d.L t2).getD 0) w hd ho (uJ8 ho t1) (uJ8 ho t2)
 have ht : Dy.table d.m (El.loads d.segs) d.L t1 t2 = match Dy.val d.L t1 with
  | none => some (0, 0)
  | some a => (Dy.laid d.m (El.loads d.segs) a ((Dy.val d.L t2).getD 0)).map fun o => (o, (Dy.val d.L t2).getD 0) := rfl
 rw [ht]
 obtain ⟨gm, hgm⟩ : ∃ g, d.gm = g := ⟨_, rfl⟩
 rw [hgm] at x6 l1 l2
 obtain ⟨v2, hv2⟩ : ∃ v, (Dy.val d.L t2).getD 0 = v := ⟨_, rfl⟩
 rw [hv2] at l2 KL ⊢
 obtain ⟨bb, hbb⟩ : ∃ b, d.b = b := ⟨_, rfl⟩
 rw [hbb] at KL ⊢
 clear hd ho ht hgm h1 h2 hv2 hbb
 cases hv : Dy.val d.L t1 with
 | none =>
  rw [hv] at l1
  have l1' : (Instr.lookup 175 (.map (some gm)) (.int .u64 (t1 : Nat)) true).run Tryz.prog w = .ok (.tuple #[.int .u64 0, .bool false]) w := l1
  clear l1 KL hv
  go_enter Tryz.func56, Tryz.ntmps56
  go_wp2_with fail
  go_ret2
  exact ⟨.inr ⟨0, 0, none, 0, rfl, rfl, Rd.none_ _ _ _ _, Nat.le_refl _⟩, Below.refl _ _⟩
 | some a =>
  rw [hv] at l1 KL
  have l1' : (Instr.lookup 175 (.map (some gm)) (.int .u64 (t1 : Nat)) true).run Tryz.prog w = .ok (.tuple #[.int .u64 (a : Nat), .bool true]) w := l1
  have KL' : Calls Tryz.prog 102 #[.pointer (some ⟨g, 0, none⟩), .int .u64 (a : Nat), .int .u64 (v2 : Nat)] w (LaidE (Dy.laid d.m (El.loads d.segs) a v2) v2 B bb w) := KL
  dsimp only
  obtain ⟨R, hR⟩ : ∃ R, Dy.laid d.m (El.loads d.segs) a v2 = R := ⟨_, rfl⟩
  rw [hR] at KL' ⊢
  have HKL := zJ2 KL'
  clear l1 KL KL' hv hR
  go_enter Tryz.func56, Tryz.ntmps56
  go_wp2_with fail
  refine (zJ1 HKL).mono ?_
  rintro e w1 ⟨⟨rfl, rfl⟩ | ⟨off, A', c', rfl, rfl, hr, hc⟩, hb1⟩
  ·go_wp2_with fail
   go_ret2
   exact ⟨.inl ⟨rfl, rfl⟩, hb1⟩
  ·have Hr := zJ2 hr
   clear hr
   go_wp2_with fail
   go_ret2
   exact ⟨.inr ⟨off, v2, A', c', rfl, rfl, zJ1 Hr, hc⟩, hb1⟩
end Go.Proofs.YtnbecdahfgkffaaGreat
namespace Go.Proofs.YtnbecdahfgkffaaGreat.Dy
def mustV (t : Nat) : Int := if t = 2 then 23 else if t = 4 then 6 else if t = 5 then 10 else if t = 6 then 4 else if t = 7 then 8 else if t = 8 then 7 else if t = 9 then -24 else if t = 10 then 5 else if t = 11 then -24 else if t = 20 then -7 else if t = 23 then 2 else 0
def okE (T : List (Nat × Nat)) (e : Nat × Nat) : Bool := !once e.1 || ((val T e.1).isNone && (decide (0 <= mustV e.1) || decide ((e.2 : Int) = -mustV e.1)))
theorem val_cons (e : Nat × Nat) (r : List (Nat × Nat)) (t : Nat) : val (e :: r) t = if e.1 = t then some e.2 else val r t := rfl
theorem val_app {a b : List (Nat × Nat)} {t : Nat} : val (a ++ b) t = (val a t).or (val b t) := by
 induction a with
 | nil => rfl
 | cons e r ih =>
  rw [List.cons_append, val_cons, val_cons]
  split
  ·rfl
  ·exact ih
theorem uJ9 {L : List (Nat × Nat)} {t v : Nat} (h : (t, v) ∈ L) : (val L t).isSome = true := by
 induction L with
 | nil => cases h
 | cons e r ih =>
  rw [val_cons]
  split
  ·rfl
  ·rename_i h2
   rcases List.mem_cons.1 h with rfl | h
   ·exact absurd rfl h2
   ·exact ih h
theorem val_first {L : List (Nat × Nat)} {k : Nat} {e : Nat × Nat} (he : L[k]? = some e) (hn : val (L.take k) e.1 = none) : val L e.1 = some e.2 := by
 have hk := (List.getElem?_eq_some_iff.1 he).1
 have : L = L.take k ++ (e :: L.drop (k + 1)) := by
  conv => lhs; rw [<- List.take_append_drop k L]
  rw [List.drop_eq_getElem_cons hk, (List.getElem?_eq_some_iff.1 he).2]
 rw [this, val_app, hn, val_cons, if_pos rfl]
 rfl
theorem twice_no {L : List (Nat × Nat)} (h : ∀ k e, L[k]? = some e -> once e.1 = true -> val (L.take k) e.1 = none) : twice L = false := by
 induction L with
 | nil => rfl
 | cons x r ih =>
  unfold twice
  rw [Bool.or_eq_false_iff]
  refine ⟨?_, ih fun k e hk ho => ?_⟩
  ·cases ho : once x.1 with
   | false => rfl
   | true =>
    rw [Bool.true_and]
    cases hv : val r x.1 with
    | none => rfl
    | some v =>
     exfalso
     obtain ⟨j, hj⟩ := List.getElem?_of_mem (show (x.1, v) ∈ r by
      clear h ih
      induction r with
      | nil => cases hv
      | cons y q ih =>
       rw [val_cons] at hv
       split at hv
       ·next h2 => injection hv with hv; subst hv; rw [<- h2]; simp
       ·exact List.mem_cons_of_mem _ (ih hv))
     have := h (j + 1) (x.1, v) (by simpa using hj) ho
     rw [List.take_succ_cons, val_cons, if_pos rfl] at this
     cases this
  ·have := h (k + 1) e (by simpa using hk) ho
   rw [List.take_succ_cons, val_cons] at this
   split at this
   ·cases this
   ·exact this
theorem twice_yes {L : List (Nat × Nat)} {k : Nat} {e : Nat × Nat} (he : L[k]? = some e) (ho : once e.1 = true) (hv : val (L.take k) e.1 ≠ none) : twice L = true := by
 induction L generalizing k with
 | nil => simp at he
 | cons x r ih =>
  cases k with
  | zero => exact absurd rfl hv
  | succ k =>
   rw [List.take_succ_cons, val_cons] at hv
   have hr : r[k]? = some e := by simpa using he
   unfold twice
   by_cases h2 : x.1 = e.1
   ·have : (val r x.1).isSome = true := by
     rw [h2]
     exact uJ9 (v := e.2) (List.mem_of_getElem? hr)
    rw [h2] at this ⊢
    rw [ho, this]
    rfl
   ·rw [if_neg h2] at hv
    rw [ih hr hv, Bool.or_true]
theorem once_cases {t : Nat} (h : once t = true) : t = 2 \/ t = 4 \/ t = 5 \/ t = 6 \/ t = 7 \/ t = 8 \/ t = 9 \/ t = 10 \/ t = 11 \/ t = 14 \/ t = 15 \/ t = 20 \/ t = 23 \/ t = 29 := by
 unfold once at h
 simpa using h
theorem fits_bad {L : List (Nat × Nat)} {k : Nat} {e : Nat × Nat} (he : L[k]? = some e) (h : okE (L.take k) e = false) : fits L = false := by
 unfold okE at h
 rw [Bool.or_eq_false_iff, Bool.and_eq_false_iff, Bool.not_eq_false'] at h
 obtain ⟨ho, h⟩ := h
 unfold fits
 rcases h with h | h
 ·rw [twice_yes he ho (by intro h2; rw [h2] at h; cases h)]
  rfl
 ·rw [Bool.or_eq_false_iff, decide_eq_false_iff_not, decide_eq_false_iff_not] at h
  obtain ⟨hneg, hne⟩ := h
  by_cases hv : val (L.take k) e.1 = none
  ·have hval := val_first he hv
   have ht : e.1 = 9 \/ e.1 = 11 \/ e.1 = 20 := by
    have hm : mustV e.1 < 0 := by omega
    clear hneg hne hval hv
    rcases once_cases ho with h | h | h | h | h | h | h | h | h | h | h | h | h | h <;> rw [h] at hm <;> first | exact absurd hm (by decide) | exact .inl h | exact .inr (.inl h) | exact .inr (.inr h)
   rcases ht with ht | ht | ht
   ·rw [ht] at hval hne
    have : isV (val L 9) 24 = false := by rw [hval]; unfold isV; simp only [decide_eq_false_iff_not]; intro h2; exact hne (by rw [h2]; rfl)
    rw [this]
    simp
   ·rw [ht] at hval hne
    have : isV (val L 11) 24 = false := by rw [hval]; unfold isV; simp only [decide_eq_false_iff_not]; intro h2; exact hne (by rw [h2]; rfl)
    rw [this]
    simp
   ·rw [ht] at hval hne
    have : isV (val L 20) 7 = false := by rw [hval]; unfold isV; simp only [decide_eq_false_iff_not]; intro h2; exact hne (by rw [h2]; rfl)
    rw [this]
    simp
  ·rw [twice_yes he ho hv]
   rfl
def okT (L : List (Nat × Nat)) (t : Nat) : Bool := decide (mustV t <= 0) || (val L (mustV t).toNat).isSome
theorem wJx {L : List (Nat × Nat)} {t v : Nat} (h : val L t = some v) : (t, v) ∈ L := by
 induction L with
 | nil => cases h
 | cons e r ih =>
  rw [val_cons] at h
  split at h
  ·next h2 => injection h with h; subst h h2; simp
  ·exact List.mem_cons_of_mem _ (ih h)
theorem uJw {L : List (Nat × Nat)} {a b : Nat} (h1 : mustV a = (b : Nat)) (h2 : mustV b = (a : Nat)) (ha : 0 < a) (hb : 0 < b) (h : ∀ e ∈ L, once e.1 = true -> okT L e.1 = true) (oa : once a = true) (ob : once b = true) : pair L a b = true := by
 have key : ∀ x y, mustV x = (y : Nat) -> 0 < y -> once x = true -> (val L x).isSome = true -> (val L y).isSome = true := by
  intro x y hxy hy hx hs
  obtain ⟨v, hv⟩ := Option.isSome_iff_exists.1 hs
  have := h (x, v) (wJx hv) hx
  unfold okT at this
  rw [Bool.or_eq_true] at this
  rcases this with h3 | h3
  ·simp only [decide_eq_true_eq] at h3
   omega
  ·simp only [hxy] at h3
   simpa using h3
 unfold pair
 rw [beq_iff_eq]
 cases hx : (val L a).isSome with
 | true => rw [key a b h1 hb oa hx]
 | false =>
  cases hy : (val L b).isSome with
  | false => rfl
  | true => rw [key b a h2 ha ob hy] at hx; cases hx
theorem fits_good {L : List (Nat × Nat)} (h : ∀ k e, L[k]? = some e -> okE (L.take k) e = true) (h2 : ∀ e ∈ L, once e.1 = true -> okT L e.1 = true) : fits L = true := by
 have ho : ∀ k e, L[k]? = some e -> once e.1 = true -> val (L.take k) e.1 = none /\ (mustV e.1 < 0 -> (e.2 : Int) = -mustV e.1) := by
  intro k e hk hoe
  have := h k e hk
  unfold okE at this
  rw [hoe] at this
  simp only [Bool.not_true, Bool.false_or, Bool.and_eq_true, Option.isNone_iff_eq_none, Bool.or_eq_true, decide_eq_true_eq] at this
  exact ⟨this.1, fun hm => by rcases this.2 with h3 | h3; omega; exact h3⟩
 have hv : ∀ t v, once t = true -> mustV t = -(v : Nat) -> 0 < v -> isV (val L t) v = true := by
  intro t v hot hm hpos
  cases hvt : val L t with
  | none => rfl
  | some x =>
   unfold isV
   obtain ⟨k, hk⟩ := List.getElem?_of_mem (wJx hvt)
   have := (ho k (t, x) hk hot).2 (by rw [hm]; omega)
   simp only [hm] at this
   simp only [decide_eq_true_eq]
   omega
 unfold fits
 rw [twice_no (fun k e hk hoe => (ho k e hk hoe).1), hv 11 24 rfl rfl (by omega), hv 9 24 rfl rfl (by omega), hv 20 7 rfl rfl (by omega),
  uJw (a := 5) (b := 10) rfl rfl (by omega) (by omega) h2 rfl rfl, uJw (a := 4) (b := 6) rfl rfl (by omega) (by omega) h2 rfl rfl, uJw (a := 7) (b := 8) rfl rfl (by omega) (by omega) h2 rfl rfl, uJw (a := 23) (b := 2) rfl rfl (by omega) (by omega) h2 rfl rfl]
 rfl
theorem yJs {L : List (Nat × Nat)} {a b : Nat} (h1 : (val L a).isSome = true) (h2 : (val L b).isSome = false) : pair L a b = false /\ pair L b a = false := by
 unfold pair
 rw [h1, h2]
 exact ⟨rfl, rfl⟩
theorem fits_pair {L : List (Nat × Nat)} {e : Nat × Nat} (he : e ∈ L) (ho : once e.1 = true) (h : okT L e.1 = false) : fits L = false := by
 unfold okT at h
 rw [Bool.or_eq_false_iff, decide_eq_false_iff_not] at h
 obtain ⟨hm, hv⟩ := h
 have hs : (val L e.1).isSome = true := uJ9 (v := e.2) he
 unfold fits
 have hm2 : ¬ mustV e.1 <= 0 := hm
 rcases once_cases ho with h | h | h | h | h | h | h | h | h | h | h | h | h | h <;> rw [h] at hm2 hs hv
 ·have hv' : (val L 23).isSome = false := hv
  rw [(yJs hs hv').2]; simp
 ·have hv' : (val L 6).isSome = false := hv
  rw [(yJs hs hv').1]; simp
 ·have hv' : (val L 10).isSome = false := hv
  rw [(yJs hs hv').1]; simp
 ·have hv' : (val L 4).isSome = false := hv
  rw [(yJs hs hv').2]; simp
 ·have hv' : (val L 8).isSome = false := hv
  rw [(yJs hs hv').1]; simp
 ·have hv' : (val L 7).isSome = false := hv
  rw [(yJs hs hv').2]; simp
 ·exact absurd (by decide) hm2
 ·have hv' : (val L 5).isSome = false := hv
  rw [(yJs hs hv').2]; simp
 ·exact absurd (by decide) hm2
 ·exact absurd (by decide) hm2
 ·exact absurd (by decide) hm2
 ·exact absurd (by decide) hm2
 ·have hv' : (val L 2).isSome = false := hv
  rw [(yJs hs hv').1]; simp
 ·exact absurd (by decide) hm2
theorem many_take {L : List (Nat × Nat)} {k : Nat} {e : Nat × Nat} (he : L[k]? = some e) : many (L.take (k + 1)) = many (L.take k) + if e.1 = 1 then 1 else 0 := by
 unfold many
 rw [List.take_add_one, he, List.filter_append, List.length_append]
 simp only [Option.toList_some, List.filter_cons, List.filter_nil]
 by_cases h : e.1 = 1
 ·simp [h]
 ·simp [h]
theorem many_le (L : List (Nat × Nat)) : many L <= L.length := List.length_filter_le _ _
end Go.Proofs.YtnbecdahfgkffaaGreat.Dy
namespace Go.Proofs.YtnbecdahfgkffaaGreat
open Go.RowKit
def Dy.kn (t : Nat) (v : Int) : Value × Value := (.int .u64 (t : Nat), .int .i64 v)
def Dy.knownV : List (Value × Value) := [Dy.kn 1 0, Dy.kn 2 23, Dy.kn 4 6, Dy.kn 5 10, Dy.kn 6 4, Dy.kn 7 8, Dy.kn 8 7, Dy.kn 9 (-24), Dy.kn 10 5, Dy.kn 11 (-24), Dy.kn 14 0, Dy.kn 15 0, Dy.kn 20 (-7), Dy.kn 23 2, Dy.kn 29 0]
theorem tJ4 : Tryz.prog.underlying 203 = some (.map 23 3) := Tryz.underlying203
theorem zJg (w : World) : (zeroValue 3).run Tryz.prog w = .ok (.int .i64 0) w := by kernel_rfl
set_option maxRecDepth 100000 in
set_option maxHeartbeats 4000000 in
theorem known_any (w : World) : Calls Tryz.prog 120 #[] w fun e w' => ∃ g, e = .returned (.map (some g)) /\ MapB w' g (.int .u64) Dy.knownV /\ w.heap.size <= g /\ Below w.heap.size w w' := by
 have hmm := @run_makeMap Tryz.prog
 have HM := zJ2 (MapB.nil w (.int .u64))
 have HB : Hid (Below w.heap.size w (w.alloc (.map #[] 0))) := zJ2 ((Below.refl _ _).alloc (Nat.le_refl _) _)
 go_enter Tryz.func120, Tryz.ntmps120
 go_wp2_with ((with_reducible refine (@id (wpList _ _ _ (Oper.mk none (Op.insert 203 (.tmp 1) _ _) _ _ _ none :: _) _ _) ?_)); refine wpList_insC (g := w.heap.size) rfl _ _ _ rfl rfl tJ4 Tryz.underlying23 rfl (by simp [Go.MapKept.IsKey]) (zJ1 HM) (by simp) ?_; intro w2 hm2 hg2 hs2; have hb2 := (zJ1 HB).grown hg2 (zJ1 HB).size (fun k hk => by injection hk with hk; omega); clear HM HB hg2 hs2; have HM := zJ2 hm2; have HB := zJ2 hb2; clear hm2 hb2)
 go_ret
 exact ⟨w.heap.size, rfl, by simpa [Dy.knownV, Dy.kn] using zJ1 HM, Nat.le_refl _, zJ1 HB⟩
theorem setRow_same {w : World} {g : Nat} {cs : Array Value} {t : TypeId} {fr : Nat × Nat} (h : w.heap[g]? = some (.cells cs t fr)) : w.setRow g cs = w := by
 have h1 := setRow_heap w g cs cs t fr h
 have h2 : (w.setRow g cs).heap = w.heap := by
  apply Array.ext_getElem?
  intro i
  by_cases e : i = g
  ·subst e; rw [h1, h]
  ·exact setRow_other w g i cs e
 unfold World.setRow at h2 ⊢
 simp only at h2
 rw [h2]
section
variable {P : Program} {ops : Array Oper} {W : World} {o : Oper} {a : Act}
variable {S : World -> Prop}
end
theorem takeD {P : Program} {md : Region.Mode} {ops : Array Oper} {Q : Exit -> Act -> World -> Prop} {S : World -> Prop} {i : Nat} {oi : Oper} {v : Value} {d : Option Tmp} {fuel : Nat} {listed : Array Bool} {a : Act} {w : World} (hi : ops[i]? = some oi) (hd : oi.dst = d)
  (hs : Region.noSelect ops = true) (hf : Region.free md ops listed i = true) (hr : (Region.ready md ops listed).contains i = true)
  (hQ : ∀ c a w, Q (.panic c) (a.put d v) w -> Q (.panic c) a w) (hy : YieldsIf P ops S oi v a) (hS : S w)
  (h : wpAnyH P md ops Q S fuel (listed.setIfInBounds i true) (a.put d v) w) : wpAnyH P md ops Q S (fuel + 1) listed a w := by
 subst hd
 exact wpAnyH_take hi hs hf hr hQ hy hS h
section
variable {ops : Array Oper} {W : World} {o : Oper} {a : Act} {S : World -> Prop}
end
open Go.RowKit
namespace Dy
theorem mustV_once {t : Nat} (h : once t = false) : mustV t = 0 := by
 unfold mustV
 have h2 : t ≠ 2 /\ t ≠ 4 /\ t ≠ 5 /\ t ≠ 6 /\ t ≠ 7 /\ t ≠ 8 /\ t ≠ 9 /\ t ≠ 10 /\ t ≠ 11 /\ t ≠ 20 /\ t ≠ 23 := by
  refine ⟨?_, ?_, ?_, ?_, ?_, ?_, ?_, ?_, ?_, ?_, ?_⟩ <;> (rintro rfl; exact absurd h (by decide))
 simp [h2]
theorem mustV_bd (t : Nat) : -24 <= mustV t /\ mustV t <= 23 := by
 cases h : once t with
 | false => rw [mustV_once h]; omega
 | true => rcases once_cases h with h | h | h | h | h | h | h | h | h | h | h | h | h | h <;> rw [h] <;> decide
theorem mustV_pos {t : Nat} (h : 0 < mustV t) : once (mustV t).toNat = true := by
 cases ho : once t with
 | false => rw [mustV_once ho] at h; omega
 | true => rcases once_cases ho with h2 | h2 | h2 | h2 | h2 | h2 | h2 | h2 | h2 | h2 | h2 | h2 | h2 | h2 <;> rw [h2] at h ⊢ <;> first | rfl | exact absurd h (by decide)
end Dy
theorem kn_mem {t : Nat} (h : Dy.once t = true) : (Value.int .u64 (t : Nat), Value.int .i64 (Dy.mustV t)) ∈ Dy.knownV := by
 rcases Dy.once_cases h with h | h | h | h | h | h | h | h | h | h | h | h | h | h <;> subst h <;> simp [Dy.knownV, Dy.kn, Dy.mustV]
theorem kn_none {t : Nat} (h : Dy.once t = false) (h1 : t ≠ 1) : ∀ p ∈ Dy.knownV, p.1 ≠ Value.int .u64 (t : Nat) := by
 intro p hp e
 have h2 : t ≠ 2 /\ t ≠ 4 /\ t ≠ 5 /\ t ≠ 6 /\ t ≠ 7 /\ t ≠ 8 /\ t ≠ 9 /\ t ≠ 10 /\ t ≠ 11 /\ t ≠ 14 /\ t ≠ 15 /\ t ≠ 20 /\ t ≠ 23 /\ t ≠ 29 := by
  refine ⟨?_, ?_, ?_, ?_, ?_, ?_, ?_, ?_, ?_, ?_, ?_, ?_, ?_, ?_⟩ <;> (rintro rfl; exact absurd h (by decide))
 unfold Dy.knownV Dy.kn at hp
 simp only [List.mem_cons, List.not_mem_nil, or_false] at hp
 rcases hp with rfl | rfl | rfl | rfl | rfl | rfl | rfl | rfl | rfl | rfl | rfl | rfl | rfl | rfl | rfl <;> (simp at e; omega)
theorem uJh {w : World} {g t : Nat} (h : MapB w g (.int .u64) Dy.knownV) (h1 : t ≠ 1) :
  (Instr.lookup 203 (.map (some g)) (.int .u64 (t : Nat)) true).run Tryz.prog w = .ok (.tuple #[.int .i64 (Dy.mustV t), .bool (Dy.once t)]) w /\
  (Instr.lookup 203 (.map (some g)) (.int .u64 (t : Nat)) false).run Tryz.prog w = .ok (.int .i64 (Dy.mustV t)) w := by
 cases ho : Dy.once t with
 | true => exact xJ8 tJ4 Tryz.underlying23 (by simp [Go.MapKept.IsKey]) h (kn_mem ho)
 | false =>
  rw [Dy.mustV_once ho]
  exact xJf tJ4 Tryz.underlying23 (by simp [Go.MapKept.IsKey]) (zJg w) h (kn_none ho h1)
theorem look_tagT {w : World} {B g : Nat} {d : Ds} {T : List (Nat × Nat)} (h : DsM w B g d T) {t : Nat} (ho : Dy.once t = true) :
  (Instr.lookup 175 (.map (some d.gm)) (.int .u64 (t : Nat)) true).run Tryz.prog w = .ok (.tuple #[.int .u64 ((Dy.val T t).getD 0 : Nat), .bool (Dy.val T t).isSome]) w := by
 cases hv : Dy.val T t with
 | none => exact (xJf Tryz.underlying175 Tryz.underlying23 (by simp [Go.MapKept.IsKey]) (zero_u64 w) h.tags (Dy.tagsV_no hv)).1
 | some v => exact (xJ8 Tryz.underlying175 Tryz.underlying23 (by simp [Go.MapKept.IsKey]) h.tags (Dy.tagsV_yes hv ho)).1
section
variable {w w' : World} {B g : Nat} {d : Ds} {T T' : List (Nat × Nat)}
theorem DsM.put (h : DsM w B g d T) (hg : w.grownBy w' (some d.gm)) (hm : MapB w' d.gm (.int .u64) (Dy.tagsV T')) : DsM w' B g d T' := by
 obtain ⟨⟨es, clk, hmap, _⟩, _, _⟩ := h.tags
 have hne : ∀ k cs t fz, w.heap[k]? = some (.cells cs t fz) -> k ≠ d.gm := by
  intro k cs t fz hk e
  rw [e, hmap] at hk
  cases hk
 refine ⟨h.hB, (hg.block g h.blk.lt (fun e => hne g _ _ _ h.blk (Option.some.inj e))).trans h.blk, h.b.keep ?_, h.segs.keep ?_, ?_, hm, h.tagsB⟩
 ·intro p hp
  have := h.tagsB
  exact World.cell?_of_block (hg.block p.block (Nat.lt_of_lt_of_le hp h.sz) (fun e => by injection e with e; omega))
 ·intro p hp
  have := h.tagsB
  exact World.cell?_of_block (hg.block p.block (Nat.lt_of_lt_of_le hp h.sz) (fun e => by injection e with e; omega))
 ·refine ⟨h.list.1, h.list.2.imp id ?_⟩
  rintro ⟨q, cap, cur, e1, e2, e3, r⟩
  exact ⟨q, cap, cur, e1, e2, (hg.block q (Array.getElem?_eq_some_iff.1 e3).1 (fun e => hne q _ _ _ e3 (Option.some.inj e))).trans e3, r⟩
theorem DsM.same (h : DsM w B g d T) (ht : Dy.tagsV T' = Dy.tagsV T) : DsM w B g d T' := ⟨h.hB, h.blk, h.b, h.segs, h.list, by rw [ht]; exact h.tags, h.tagsB⟩
end
open Go.RowKit
theorem entC_len (l : List (Nat × Nat)) : (entC l).length = l.length * 2 := by
 induction l with
 | nil => rfl
 | cons a r ih =>
  unfold entC at ih ⊢
  rw [List.flatMap_cons, List.length_append, ih]
  simp
  omega
theorem entC_at (l : List (Nat × Nat)) : ∀ (k : Nat) (e : Nat × Nat), l[k]? = some e -> (entC l)[k * 2]? = some (.int .u64 (e.1 : Nat)) /\ (entC l)[k * 2 + 1]? = some (.int .u64 (e.2 : Nat)) := by
 induction l with
 | nil => intro k e h; simp at h
 | cons a r ih =>
  intro k e h
  have e0 : entC (a :: r) = [.int .u64 (a.1 : Nat), .int .u64 (a.2 : Nat)] ++ entC r := rfl
  cases k with
  | zero =>
   simp at h
   subst h
   exact ⟨rfl, rfl⟩
  | succ k =>
   simp at h
   rw [e0, List.getElem?_append_right (by simp; omega), List.getElem?_append_right (by simp; omega)]
   have := ih k e h
   simp only [List.length_cons, List.length_nil]
   rw [show (k + 1) * 2 - (0 + 1 + 1) = k * 2 from by omega, show (k + 1) * 2 + 1 - (0 + 1 + 1) = k * 2 + 1 from by omega]
   exact this
theorem ent_at {w : World} {B n : Nat} {A : Option Addr} {l : List (Nat × Nat)} (h : Rd w B 2 A n (entC l)) {k : Nat} {e : Nat × Nat} (hk : l[k]? = some e) :
  ∃ b off, A = some ⟨b, off, none⟩ /\ b < B /\ w.cell? ⟨b, off + k * 2, none⟩ = some (.int .u64 (e.1 : Nat)) /\ w.cell? ⟨b, off + k * 2 + 1, none⟩ = some (.int .u64 (e.2 : Nat)) := by
 have hc := entC_at l k e hk
 obtain ⟨b, off, ea, hb, hx⟩ := h.open_ (by
  intro e0
  have := hc.1
  rw [e0] at this
  simp at this)
 refine ⟨b, off, ea, hb, ?_, ?_⟩
 ·exact hx _ _ hc.1
 ·rw [Nat.add_assoc]
  exact hx _ _ hc.2
theorem tagsV_snoc (T : List (Nat × Nat)) (e : Nat × Nat) : Dy.tagsV (T ++ [e]) = Dy.tagsV T ++ if Dy.once e.1 = true then [(.int .u64 (e.1 : Nat), .int .u64 (e.2 : Nat))] else [] := by
 unfold Dy.tagsV
 rw [List.filter_append, List.map_append]
 congr 1
 by_cases h : Dy.once e.1 = true <;> simp [h]
theorem uJb {L : List (Nat × Nat)} {k : Nat} {e : Nat × Nat} (he : L[k]? = some e) : Dy.tagsV (L.take (k + 1)) = Dy.tagsV (L.take k) ++ if Dy.once e.1 = true then [(.int .u64 (e.1 : Nat), .int .u64 (e.2 : Nat))] else [] := by
 rw [List.take_add_one, he]
 exact tagsV_snoc _ _
theorem DsM.len {w : World} {B g : Nat} {d : Ds} {T : List (Nat × Nat)} (h : DsM w B g d T) : d.k = d.L.length := by
 have := h.list.1
 rw [entC_len] at this
 omega
theorem next_below {P : Program} {w : World} {r gm clk : Nat} {seen : Array Nat} {es : Array MapEntry} (ty : TypeId) (hr : w.heap[r]? = some (.mapIter (some gm) clk seen clk)) (hm : w.heap[gm]? = some (.map es clk)) (hold : ∀ x ∈ es.toList, x.born < clk) :
  ((leftOf es seen).size = 0 /\ (Instr.next (.pointer (some ⟨r, 0, none⟩)) false ty).run P w = .ok (.tuple #[.bool false]) w) \/
  ∃ e ∈ (leftOf es seen).toList, ∃ w2 : World, Below r w w2 /\ w2.heap[r]? = some (.mapIter (some gm) clk (seen.push e.born) clk) /\ (Instr.next (.pointer (some ⟨r, 0, none⟩)) false ty).run P w = .ok (.tuple #[.bool true, e.key, e.val]) w2 := by
 rcases run_next_at (P := P) w ty r gm clk clk seen es clk hr hm hold (Nat.le_refl _) with h | ⟨e, he, w1, h1, hrun⟩
 ·exact .inl h
 ·have hlt : r < w.heap.size := (Array.getElem?_eq_some_iff.1 hr).1
  have hb1 : Below r w w1 := by
   rcases h1 with rfl | rfl
   ·exact Below.refl _ _
   ·exact zJ5 (Below.refl _ _)
  have hlt1 : r < w1.heap.size := Nat.lt_of_lt_of_le hlt hb1.size
  refine .inr ⟨e, he, Go.ChangeMaps.setBlock w1 r (.mapIter (some gm) clk (seen.push e.born) clk), ⟨hb1.os, hb1.tape, hb1.output, by simpa [Go.ChangeMaps.setBlock] using hb1.size, ?_⟩, ?_, hrun⟩
  ·intro k hk
   rw [<- hb1.block k hk]
   unfold Go.ChangeMaps.setBlock
   dsimp only
   rw [Array.getElem?_setIfInBounds, if_neg (by omega)]
  ·unfold Go.ChangeMaps.setBlock
   dsimp only
   rw [Array.getElem?_setIfInBounds, if_pos rfl, if_pos hlt1]
theorem es_tag {L : List (Nat × Nat)} {es : Array MapEntry} (h : es.toList.map (fun e => (e.key, e.val)) = Dy.tagsV L) {e : MapEntry} (he : e ∈ es.toList) : ∃ x ∈ L, Dy.once x.1 = true /\ e.key = .int .u64 (x.1 : Nat) /\ e.val = .int .u64 (x.2 : Nat) := by
 have hm : (e.key, e.val) ∈ Dy.tagsV L := by rw [<- h]; exact List.mem_map.2 ⟨e, he, rfl⟩
 unfold Dy.tagsV at hm
 obtain ⟨x, hx, he2⟩ := List.mem_map.1 hm
 obtain ⟨h1, h2⟩ := List.mem_filter.1 hx
 injection he2 with h3 h4
 exact ⟨x, h1, h2, h3.symm, h4.symm⟩
theorem tag_es {L : List (Nat × Nat)} {es : Array MapEntry} (h : es.toList.map (fun e => (e.key, e.val)) = Dy.tagsV L) {x : Nat × Nat} (hx : x ∈ L) (ho : Dy.once x.1 = true) : ∃ e ∈ es.toList, e.key = .int .u64 (x.1 : Nat) := by
 have hm : (Value.int .u64 (x.1 : Nat), Value.int .u64 (x.2 : Nat)) ∈ Dy.tagsV L := by
  unfold Dy.tagsV
  exact List.mem_map.2 ⟨x, List.mem_filter.2 ⟨hx, ho⟩, rfl⟩
 rw [<- h] at hm
 obtain ⟨e, he, h2⟩ := List.mem_map.1 hm
 injection h2 with h3 h4
 exact ⟨e, he, h3⟩
def CheckE (B g : Nat) (d : Ds) (w : World) (e : Ending) (w' : World) : Prop := e = .returned (.int .i64 (Dy.may d.L)) /\ (Dy.may d.L = 0 -> DsM w' B g d d.L) /\ Below B w w'
theorem check_bad {B g : Nat} {d : Ds} {w w' : World} {j : Nat} {e : Nat × Nat} (he : d.L[j]? = some e) (h : Dy.okE (d.L.take j) e = false) (hb : Below B w w') : CheckE B g d w (.returned (.int .i64 25)) w' := by
 have hm : Dy.may d.L = 25 := by unfold Dy.may; rw [if_pos (Dy.fits_bad he h)]
 refine ⟨by rw [hm], fun h0 => ?_, hb⟩
 rw [hm] at h0
 exact absurd h0 (by decide)
structure ChkR (w wr : World) (B g gkn : Nat) (d : Ds) (j : Nat) : Prop where
 ok : ∀ i e, i < j -> d.L[i]? = some e -> Dy.okE (d.L.take i) e = true
 ds : DsM wr B g d (d.L.take j)
 kn : MapB wr gkn (.int .u64) Dy.knownV
 b : Below B w wr
section
variable {w wr w2 : World} {B g gkn : Nat} {d : Ds} {j : Nat} {e : Nat × Nat}
theorem ChkR.keep (h : ChkR w wr B g gkn d j) (hb : Below wr.heap.size wr w2) : ChkR w w2 B g gkn d j :=
 ⟨h.ok, h.ds.belowSz hb, h.kn.belowSz hb, h.b.trans (hb.mono h.ds.sz)⟩
theorem ChkR.next (h : ChkR w wr B g gkn d j) (he : d.L[j]? = some e) (ho : Dy.once e.1 = false) : ChkR w wr B g gkn d (j + 1) := by
 refine ⟨?_, h.ds.same ?_, h.kn, h.b⟩
 ·intro i x hi hx
  by_cases hij : i < j
  ·exact h.ok i x hij hx
  ·obtain rfl : i = j := by omega
   rw [he] at hx
   cases hx
   unfold Dy.okE
   rw [ho]
   rfl
 ·rw [uJb he, ho]
  simp
theorem ChkR.put (h : ChkR w wr B g gkn d j) (hgk : d.gm < gkn) (he : d.L[j]? = some e) (hok : Dy.okE (d.L.take j) e = true) (ho : Dy.once e.1 = true) (hm : MapB w2 d.gm (.int .u64) (Dy.tagsV (d.L.take j) ++ [(.int .u64 (e.1 : Nat), .int .u64 (e.2 : Nat))])) (hg : wr.grownBy w2 (some d.gm)) : ChkR w w2 B g gkn d (j + 1) := by
 refine ⟨?_, h.ds.put hg ?_, h.kn.keep (hg.block _ h.kn.lt (fun e => by have := Option.some.inj e; omega)), h.b.trans ((Below.refl B wr).grown hg h.ds.sz (fun k hk => by have := Option.some.inj hk; have := h.ds.tagsB; omega))⟩
 ·intro i x hi hx
  by_cases hij : i < j
  ·exact h.ok i x hij hx
  ·obtain rfl : i = j := by omega
   rw [he] at hx
   cases hx
   exact hok
 ·rw [uJb he, if_pos ho]
  exact hm
end
set_option maxRecDepth 100000 in
set_option maxHeartbeats 4000000 in
theorem dcheck_any (B g : Nat) (d : Ds) (w : World) (hd : DsM w B g d []) (ho : DsOk d) (hkm : d.k <= 4294967296) :
  Calls Tryz.prog 101 #[.pointer (some ⟨g, 0, none⟩)] w (CheckE B g d w) := by
 have KK := zJ2 (known_any w)
 have hlen := hd.len
 have hgmw := hd.tags.lt
 obtain ⟨kk, hkk⟩ : ∃ k, d.k = k := ⟨_, rfl⟩
 obtain ⟨Al, hAl⟩ : ∃ k, d.Al = k := ⟨_, rfl⟩
 obtain ⟨cl, hcl⟩ : ∃ k, d.cl = k := ⟨_, rfl⟩
 obtain ⟨gm, hgm⟩ : ∃ k, d.gm = k := ⟨_, rfl⟩
 have hcells : ∀ wr j, DsM wr B g d (d.L.take j) -> wr.cell? ⟨g, 5, none⟩ = some (.slice Al kk cl) /\ wr.cell? ⟨g, 6, none⟩ = some (.map (some gm)) := by
  intro wr j h
  obtain ⟨-, -, -, -, -, h5, h6⟩ := h.cells
  rw [hAl, hkk, hcl] at h5
  rw [hgm] at h6
  exact ⟨h5, h6⟩
 have hents : ∀ wr j e, DsM wr B g d (d.L.take j) -> d.L[j]? = some e -> ∃ b off, Al = some ⟨b, off, none⟩ /\ wr.cell? ⟨b, off + j * 2, none⟩ = some (.int .u64 (e.1 : Nat)) /\ wr.cell? ⟨b, off + j * 2 + 1, none⟩ = some (.int .u64 (e.2 : Nat)) := by
  intro wr j e h he
  obtain ⟨b, off, h1, _, h2⟩ := ent_at (Rd.of_own h.list) he
  exact ⟨b, off, hAl ▸ h1, h2⟩
 rw [hkk] at hlen hkm
 rw [hgm] at hgmw
 obtain ⟨x5, x6⟩ := hcells w 0 (by simpa using hd)
 have Hlen := zJ2 hlen
 have Hcells := zJ2 hcells
 have Hents := zJ2 hents
 have Hd := zJ2 hd
 have Ho := zJ2 ho
 have Hgm := zJ2 hgm
 clear hlen hcells hents hd ho hgm hkk hAl hcl
 go_enter Tryz.func101, Tryz.ntmps101
 go_wp2_with fail
 refine (zJ1 KK).mono ?_
 rintro e w1 ⟨gkn, rfl, hkn, hgk, hb1⟩
 have HR1 : Hid (ChkR w w1 B g gkn d 0) := zJ2 ⟨fun i e hi => by omega, by simpa using (zJ1 Hd).belowSz hb1, hkn, hb1.mono (zJ1 Hd).sz⟩
 have hgkn : gm < gkn := by omega
 obtain ⟨y5, y6⟩ := (zJ1 Hcells) w1 0 (zJ1 HR1).ds
 clear x5 x6 hkn hb1 KK Hd
 go_wp2_with fail
 clear y5 y6
 go_loopg [4, 21] kk (fun gk nv iv wr => ∃ j : Nat, gk = kk - j /\ j <= kk /\ iv = .int .i64 j /\ nv = .int .i64 (Dy.many (d.L.take j) : Nat) /\ ChkR w wr B g gkn d j)
 case atStart => exact ⟨0, by omega, Nat.zero_le _, rfl, rfl, zJ1 HR1⟩
 case round =>
 obtain ⟨j, hgk2, hj, rfl, rfl, hr⟩ := hrel
 have HR := zJ2 hr
 clear hr HR1
 by_cases hlt : j < kk
 case neg =>
  obtain rfl : j = kk := by omega
  have ige : ¬ (j : Int) < (j : Int) := by omega
  rename World => w5
  have hR := zJ1 HR
  have htk : d.L.take j = d.L := by rw [List.take_of_length_le]; rw [<- zJ1 Hlen]; exact Nat.le_refl _
  have hds := hR.ds
  obtain ⟨-, z6⟩ := (zJ1 Hcells) w5 j hds
  rw [htk] at hds ⊢
  obtain ⟨⟨es, clk, hmap, hes, hold, hnd⟩, -, -⟩ := hds.tags
  rw [zJ1 Hgm] at hmap
  have hrg := run_range_map (P := Tryz.prog) w5 175 23 23 gm es clk Tryz.underlying175 hmap
  have hgmr : gm < w5.heap.size := (Array.getElem?_eq_some_iff.1 hmap).1
  have hmany : Dy.many d.L <= 4294967296 := Nat.le_trans (Dy.many_le _) (by rw [<- zJ1 Hlen]; exact hkm)
  obtain ⟨mn, hmn⟩ : ∃ m, Dy.many d.L = m := ⟨_, rfl⟩
  rw [hmn] at hmany ⊢
  have Hds := zJ2 hds
  have Hmap := zJ2 hmap
  have Hes := zJ2 hes
  have Hold := zJ2 hold
  have Hnd := zJ2 hnd
  have Hok := zJ2 hR.ok
  have Hkn := zJ2 hR.kn
  have Hb := zJ2 hR.b
  have Hmn := zJ2 hmn
  clear HR hR hds hmap hes hold hnd hmn hgk2 Hents Ho
  go_wp2_with fail
  clear hrg z6 ige
  go_loopg [] (leftOf es #[]).size (fun gk w' => ∃ seen : Array Nat, gk = (leftOf es seen).size /\ w'.heap[w5.heap.size]? = some (.mapIter (some gm) clk seen clk) /\ Below w5.heap.size w5 w' /\ ∀ x ∈ es.toList, seen.contains x.born = true -> ∀ t : Nat, x.key = .int .u64 (t : Nat) -> Dy.okT d.L t = true)
  case atStart => exact ⟨#[], rfl, heap_alloc_new _ _, (Below.refl _ _).alloc (Nat.le_refl _) _, fun x _ h => by simp at h⟩
  case round =>
  obtain ⟨seen, hgk3, hit, hbq, hno⟩ := hrel
  have hmq := (hbq.block gm hgmr).trans (zJ1 Hmap)
  have law := fun ty => next_below (P := Tryz.prog) ty hit hmq (zJ1 Hold)
  rcases law 0 with ⟨h0, hrun⟩ | ⟨x, hx, w6, hb6, hi6, hrun⟩
  ·have hnx : ∀ ty, (Instr.next (.pointer (some ⟨w5.heap.size, 0, none⟩)) false ty).run Tryz.prog wr = _ := fun _ => hrun
   have hfits : Dy.fits d.L = true := by
    refine Dy.fits_good (fun k e hk => (zJ1 Hok) k e ?_ hk) (fun x hx hxo => ?_)
    ·have := (List.getElem?_eq_some_iff.1 hk).1
     have := zJ1 Hlen
     omega
    ·obtain ⟨y, hy, hk⟩ := tag_es (zJ1 Hes) hx hxo
     exact hno y hy (all_seen es seen h0 y hy) _ hk
   have hmay : Dy.may d.L = if 8 < mn then 12 else 0 := by
    unfold Dy.may
    rw [hfits, zJ1 Hmn]
    rfl
   have Hmay := zJ2 hmay
   have hfin : Below B w wr := (zJ1 Hb).trans (hbq.mono (zJ1 Hds).sz)
   have Hfin := zJ2 hfin
   have Hds2 := zJ2 ((zJ1 Hds).belowSz hbq)
   clear law hno hfits hmay hfin hit hmq hbq Hes Hold Hnd Hok
   by_cases h8 : 8 < mn
   ·have h9 : (8 : Int) < (mn : Int) := by omega
    go_wp2_with fail
    go_ret
    have hm := zJ1 Hmay
    rw [if_pos h8] at hm
    exact ⟨by rw [hm]; rfl, fun h => by rw [hm] at h; exact absurd h (by decide), zJ1 Hfin⟩
   ·have h9 : ¬ (8 : Int) < (mn : Int) := by omega
    go_wp2_with fail
    go_ret
    have hm := zJ1 Hmay
    rw [if_neg h8] at hm
    exact ⟨by rw [hm]; rfl, fun _ => zJ1 Hds2, zJ1 Hfin⟩
  ·obtain ⟨⟨t, v⟩, hxm, hxo, hk, hv⟩ := es_tag (zJ1 Hes) (mem_left hx).1
   dsimp only at hxo hk hv
   have hshr := left_shrinks es seen x hx
   have hbw6 := hbq.trans hb6
   have hm6 := (hbw6.block gm hgmr).trans (zJ1 Hmap)
   have hen := run_entry_at (P := Tryz.prog) w6 w5.heap.size gm clk seen es clk x hi6 hm6 (mem_left hx).1 (zJ1 Hnd)
   rw [hk, hv] at hrun hen
   have hnx : ∀ ty, (Instr.next (.pointer (some ⟨w5.heap.size, 0, none⟩)) false ty).run Tryz.prog wr = _ := fun _ => hrun
   have hds6 := (zJ1 Hds).belowSz hbw6
   have hkn6 := (zJ1 Hkn).belowSz hbw6
   have ht1 : t ≠ 1 := by rintro rfl; exact absurd hxo (by decide)
   have hlk := (uJh hkn6 ht1).2
   have hlt6 := fun a (h : Dy.once a = true) => (yJv hds6 (t := a) h).1
   rw [zJ1 Hgm] at hlt6
   obtain ⟨-, z6⟩ := (zJ1 Hcells) w6 j (by rw [htk]; exact hds6)
   have hmp := Dy.mustV_pos (t := t)
   have hmb := Dy.mustV_bd t
   have hnext : Dy.okT d.L t = true -> ∀ y ∈ es.toList, (seen.push x.born).contains y.born = true -> ∀ t2 : Nat, y.key = .int .u64 (t2 : Nat) -> Dy.okT d.L t2 = true := by
    intro ho y hy hc t2 hk2
    rw [contains_push] at hc
    rcases Bool.or_eq_true _ _ ▸ hc with h1 | h1
    ·exact hno y hy h1 t2 hk2
    ·have : y = x := born_inj (zJ1 Hnd) hy (mem_left hx).1 (beq_iff_eq.1 h1)
     subst this
     rw [hk] at hk2
     have e2 : ((t : Nat) : Int) = ((t2 : Nat) : Int) := by injection hk2
     have : t = t2 := by omega
     rw [<- this]
     exact ho
   have hbad : Dy.okT d.L t = false -> CheckE B g d w (.returned (.int .i64 25)) w6 := by
    intro h
    have hm : Dy.may d.L = 25 := by unfold Dy.may; rw [if_pos (Dy.fits_pair hxm hxo h)]
    refine ⟨by rw [hm], fun h0 => ?_, (zJ1 Hb).trans (hbw6.mono (zJ1 Hds).sz)⟩
    rw [hm] at h0
    exact absurd h0 (by decide)
   have hokT : Dy.okT d.L t = (decide (Dy.mustV t <= 0) || (Dy.val d.L (Dy.mustV t).toNat).isSome) := rfl
   obtain ⟨u, hu⟩ : ∃ x, Dy.mustV t = x := ⟨_, rfl⟩
   rw [hu] at hlk hmp hmb hokT
   have Hnext := zJ2 hnext
   have Hbad := zJ2 hbad
   have Hbw6 := zJ2 hbw6
   have Hi6 := zJ2 hi6
   have Hshr := zJ2 hshr
   have Hgk3 := zJ2 hgk3
   clear law hx hnext hbad hbw6 hi6 hshr hgk3 hds6 hkn6 hm6 hb6 hit hmq hbq hno hk hv hu hxm Hes Hold Hnd Hok Hcells Hds Hkn Hb Hmn
   by_cases hu0 : 0 < u
   case neg =>
    have hok : Dy.okT d.L t = true := by rw [hokT, decide_eq_true (show u <= 0 by omega)]; rfl
    have Hok2 := zJ2 hok
    clear hok hokT hlt6 z6 Hbad
    go_wp2_with fail
    go_roundg (leftOf es (seen.push x.born)).size
    case measure => rw [zJ1 Hgk3]; exact zJ1 Hshr
    case rel => exact ⟨seen.push x.born, rfl, zJ1 Hi6, zJ1 Hbw6, (zJ1 Hnext) (zJ1 Hok2)⟩
   obtain ⟨a, rfl⟩ : ∃ a : Nat, u = (a : Int) := ⟨u.toNat, by omega⟩
   have hlt7 := hlt6 a (hmp hu0)
   rw [Int.toNat_natCast] at hokT
   obtain ⟨ov, hov⟩ : ∃ o, Dy.val d.L a = o := ⟨_, rfl⟩
   rw [hov] at hlt7 hokT
   have hnu : decide ((a : Int) <= 0) = false := by simp; omega
   rw [hnu, Bool.false_or] at hokT
   clear hlt6 hmp hov hnu
   cases ov with
   | none =>
    have hb := (zJ1 Hbad) hokT
    have Hb2 := zJ2 hb
    clear hb hokT Hbad Hnext
    go_wp2_with fail
    go_ret
    exact zJ1 Hb2
   | some z =>
    have Hok2 := zJ2 hokT
    clear hokT Hbad
    go_wp2_with fail
    go_roundg (leftOf es (seen.push x.born)).size
    case measure => rw [zJ1 Hgk3]; exact zJ1 Hshr
    case rel => exact ⟨seen.push x.born, rfl, zJ1 Hi6, zJ1 Hbw6, (zJ1 Hnext) (zJ1 Hok2)⟩
 have ilt : (j : Int) < (kk : Int) := by omega
 obtain ⟨⟨t, v⟩, hej⟩ : ∃ e, d.L[j]? = some e := ⟨_, List.getElem?_eq_getElem (by rw [<- zJ1 Hlen]; exact hlt)⟩
 obtain ⟨b1, o1, hA1, c0, c1⟩ := (zJ1 Hents) wr j _ (zJ1 HR).ds hej
 subst hA1
 have hmt := Dy.many_take hej
 have hml : Dy.many (d.L.take j) <= j := Nat.le_trans (Dy.many_le _) (by rw [List.length_take]; omega)
 obtain ⟨ht64, hv64⟩ := (zJ1 Ho).ent _ (List.mem_of_getElem? hej)
 obtain ⟨mj, hmj⟩ : ∃ m, Dy.many (d.L.take j) = m := ⟨_, rfl⟩
 rw [hmj] at hmt hml
 rw [hmj]
 dsimp only at c0 c1 ht64 hv64 hmt
 have HE : Hid (Blk (wr.alloc (.cells #[.int .u64 (t : Nat), .int .u64 (v : Nat)] 182)) wr.heap.size 182 [.int .u64 (t : Nat), .int .u64 (v : Nat)]) := zJ2 (Blk.new wr 182 [.int .u64 (t : Nat), .int .u64 (v : Nat)])
 have HR2 : Hid (ChkR w (wr.alloc (.cells #[.int .u64 (t : Nat), .int .u64 (v : Nat)] 182)) B g gkn d j) := zJ2 ((zJ1 HR).keep ((Below.refl _ _).alloc (Nat.le_refl _) _))
 have Hej := zJ2 hej
 clear HR hej hmj
 by_cases ht1 : t = 1
 case pos =>
  subst ht1
  have hmt2 : Dy.many (d.L.take (j + 1)) = mj + 1 := hmt
  have Hmt := zJ2 hmt2
  clear hmt hmt2
  go_wp2_with fail
  go_roundg (kk - (j + 1))
  case measure => omega
  case rel => exact ⟨j + 1, rfl, by omega, by go_num, by rw [zJ1 Hmt]; go_num, (zJ1 HR2).next (zJ1 Hej) rfl⟩
 have n1 : ¬ (t : Int) = 1 := by omega
 have hlk := (uJh (t := t) (zJ1 HR2).kn ht1).1
 have hmt2 : Dy.many (d.L.take (j + 1)) = mj := by rw [hmt, if_neg ht1, Nat.add_zero]
 have Hmt := zJ2 hmt2
 have hmb := Dy.mustV_bd t
 clear hmt hmt2
 cases hon : Dy.once t with
 | false =>
  rw [hon] at hlk
  go_wp2_with fail
  go_roundg (kk - (j + 1))
  case measure => omega
  case rel => exact ⟨j + 1, rfl, by omega, by go_num, by rw [zJ1 Hmt], (zJ1 HR2).next (zJ1 Hej) hon⟩
 | true =>
 rw [hon] at hlk
 have htl := look_tagT (zJ1 HR2).ds hon
 rw [zJ1 Hgm] at htl
 obtain ⟨z5, z6⟩ := (zJ1 Hcells) _ j (zJ1 HR2).ds
 obtain ⟨T, hT⟩ : ∃ T, d.L.take j = T := ⟨_, rfl⟩
 obtain ⟨ov, hov⟩ : ∃ o, Dy.val T t = o := ⟨_, rfl⟩
 rw [hT, hov] at htl
 obtain ⟨W, hW⟩ : ∃ x, wr.alloc (.cells #[.int .u64 (t : Nat), .int .u64 (v : Nat)] 182) = x := ⟨_, rfl⟩
 obtain ⟨r, hr⟩ : ∃ x, wr.heap.size = x := ⟨_, rfl⟩
 have hE := zJ1 HE
 have hR2 := zJ1 HR2
 rw [hr, hW] at hE
 rw [hW] at hR2 htl z5 z6
 have HSK : ∀ w', ChkR w w' B g gkn d j -> Blk w' r 182 [.int .u64 (t : Nat), .int .u64 (v : Nat)] -> (ChkR w w' B g gkn d j /\ Blk w' r 182 [.int .u64 (t : Nat), .int .u64 (v : Nat)] /\ w'.cell? ⟨g, 6, none⟩ = some (.map (some gm)) /\ w'.cell? ⟨r, 0, none⟩ = some (.int .u64 (t : Nat)) /\ (Instr.lookup 175 (.map (some gm)) (.int .u64 (t : Nat)) true).run Tryz.prog w' = .ok (.tuple #[.int .u64 (ov.getD 0 : Nat), .bool ov.isSome]) w') := by
  intro w' hR hE
  have h3 := look_tagT hR.ds hon
  rw [zJ1 Hgm, hT, hov] at h3
  exact ⟨hR, hE, ((zJ1 Hcells) _ j hR.ds).2, hE.cell (i := 0) rfl, h3⟩
 have HSK' := zJ2 HSK
 have HR3 := zJ2 hR2
 have HE3 := zJ2 hE
 have zt := hE.cell (i := 0) rfl
 rw [hW] at hlk
 clear HSK HR2 HE hE hR2 htl z5 z6
 go_wp2_with fail
 clear hW hr hlk zt
 refine wp_region_held_drew (S := fun w' => ChkR w w' B g gkn d j /\ Blk w' r 182 [.int .u64 (t : Nat), .int .u64 (v : Nat)] /\ w'.cell? ⟨g, 6, none⟩ = some (.map (some gm)) /\ w'.cell? ⟨r, 0, none⟩ = some (.int .u64 (t : Nat)) /\ (Instr.lookup 175 (.map (some gm)) (.int .u64 (t : Nat)) true).run Tryz.prog w' = .ok (.tuple #[.int .u64 (ov.getD 0 : Nat), .bool ov.isSome]) w') (by kernel_rfl) ((zJ1 HSK') _ ((zJ1 HR3).keep (zJ5 (Below.refl _ _))) ((zJ1 HE3).drew)) (fun HS0 => ?_)
 refine takeD (i := 0) (d := some 40) (v := ?_) rfl rfl (by kernel_rfl) (by kernel_rfl) (by kernel_rfl) (fun _ _ _ h => h) (Or.inl ⟨by rfl, ?y0⟩) HS0 ?_
 case y0 => (intro w' hSw; (try dsimp only at hSw); go_simp; (try with_reducible rfl))
 simp only [Act.put, List.setIfInBounds_toArray, List.set_cons_zero, List.set_cons_succ]
 refine takeD (i := 1) (d := some 41) (v := ?_) rfl rfl (by kernel_rfl) (by kernel_rfl) (by kernel_rfl) (fun _ _ _ h => h) (Or.inl ⟨by rfl, ?y1⟩) HS0 ?_
 case y1 => (intro w' hSw; (try dsimp only at hSw); go_simp; (try with_reducible rfl))
 simp only [Act.put, List.setIfInBounds_toArray, List.set_cons_zero, List.set_cons_succ]
 refine takeD (i := 2) (d := some 42) (v := ?_) rfl rfl (by kernel_rfl) (by kernel_rfl) (by kernel_rfl) (fun _ _ _ h => h) (Or.inl ⟨by rfl, ?y2⟩) HS0 ?_
 case y2 => (intro w' hSw; (try dsimp only at hSw); go_simp; (try with_reducible rfl))
 simp only [Act.put, List.setIfInBounds_toArray, List.set_cons_zero, List.set_cons_succ]
 refine takeD (i := 3) (d := some 43) (v := ?_) rfl rfl (by kernel_rfl) (by kernel_rfl) (by kernel_rfl) (fun _ _ _ h => h) (Or.inl ⟨by rfl, ?y3⟩) HS0 ?_
 case y3 => (intro w' hSw; (try dsimp only at hSw); go_simp; (try with_reducible rfl))
 simp only [Act.put, List.setIfInBounds_toArray, List.set_cons_zero, List.set_cons_succ]
 refine takeD (i := 4) (d := some 44) (v := ?_) rfl rfl (by kernel_rfl) (by kernel_rfl) (by kernel_rfl) (fun _ _ _ h => h) (Or.inl ⟨by rfl, ?y4⟩) HS0 ?_
 case y4 => (intro w' hSw; (try dsimp only at hSw); go_simp; (try with_reducible rfl))
 simp only [Act.put, List.setIfInBounds_toArray, List.set_cons_zero, List.set_cons_succ]
 refine takeD (i := 5) (d := some 45) (v := ?_) rfl rfl (by kernel_rfl) (by kernel_rfl) (by kernel_rfl) (fun _ _ _ h => h) (Or.inl ⟨by rfl, ?y5⟩) HS0 ?_
 case y5 => (intro w' hSw; (try dsimp only at hSw); go_simp; (try with_reducible rfl))
 simp only [Act.put, List.setIfInBounds_toArray, List.set_cons_zero, List.set_cons_succ]
 refine takeD (i := 6) (d := some 46) (v := ?_) rfl rfl (by kernel_rfl) (by kernel_rfl) (by kernel_rfl) (fun _ _ _ h => h) (Or.inl ⟨by rfl, ?y6⟩) HS0 ?_
 case y6 => (intro w' hSw; (try dsimp only at hSw); go_simp; (try with_reducible rfl))
 simp only [Act.put, List.setIfInBounds_toArray, List.set_cons_zero, List.set_cons_succ]
 refine takeD (i := 7) (d := some 39) (v := ?_) rfl rfl (by kernel_rfl) (by kernel_rfl) (by kernel_rfl) (fun _ _ _ h => h) (Or.inl ⟨by rfl, ?y7⟩) HS0 ?_
 case y7 => (intro w' hSw; (try dsimp only at hSw); go_simp; (try with_reducible rfl))
 simp only [Act.put, List.setIfInBounds_toArray, List.set_cons_zero, List.set_cons_succ]
 refine takeD (i := 8) (d := some 47) (v := ?_) rfl rfl (by kernel_rfl) (by kernel_rfl) (by kernel_rfl) (fun _ _ _ h => h) (Or.inl ⟨by rfl, ?y8⟩) HS0 ?_
 case y8 => (intro w' hSw; (try dsimp only at hSw); go_simp; (try with_reducible rfl))
 simp only [Act.put, List.setIfInBounds_toArray, List.set_cons_zero, List.set_cons_succ]
 refine takeD (i := 9) (d := some 48) (v := ?_) rfl rfl (by kernel_rfl) (by kernel_rfl) (by kernel_rfl) (fun _ _ _ h => h) (Or.inl ⟨by rfl, ?y9⟩) HS0 ?_
 case y9 => (intro w' hSw; (try dsimp only at hSw); go_simp; (try with_reducible rfl))
 simp only [Act.put, List.setIfInBounds_toArray, List.set_cons_zero, List.set_cons_succ]
 refine takeD (i := 10) (d := some 9) (v := ?_) rfl rfl (by kernel_rfl) (by kernel_rfl) (by kernel_rfl) (fun _ _ _ h => h) (Or.inl ⟨by rfl, ?y10⟩) HS0 ?_
 case y10 => (intro w' hSw; (try dsimp only at hSw); go_simp; (try with_reducible rfl))
 simp only [Act.put, List.setIfInBounds_toArray, List.set_cons_zero, List.set_cons_succ]
 refine takeD (i := 11) (d := some 10) (v := ?_) rfl rfl (by kernel_rfl) (by kernel_rfl) (by kernel_rfl) (fun _ _ _ h => h) (Or.inl ⟨by rfl, ?y11⟩) HS0 ?_
 case y11 => (intro w' hSw; (try dsimp only at hSw); go_simp; (try with_reducible rfl))
 simp only [Act.put, List.setIfInBounds_toArray, List.set_cons_zero, List.set_cons_succ]
 refine wpAnyH_done (by kernel_rfl) ?_ _
 have HR4 : Hid (ChkR w W.drew B g gkn d j) := zJ2 ((zJ1 HR3).keep (zJ5 (Below.refl _ _)))
 have HE4 : Hid (Blk W.drew r 182 [.int .u64 (t : Nat), .int .u64 (v : Nat)]) := zJ2 ((zJ1 HE3).drew)
 have hbad : (ov.isSome = true \/ (Dy.mustV t < 0 /\ ¬ (v : Int) = -Dy.mustV t)) -> Dy.okE (d.L.take j) (t, v) = false := by
  intro h
  unfold Dy.okE
  dsimp only
  rw [hon, hT, hov]
  rcases h with h | ⟨h1, h2⟩
  ·obtain ⟨x, rfl⟩ := Option.isSome_iff_exists.1 h
   rfl
  ·have h3 : decide (0 <= Dy.mustV t) = false := by simp; omega
   rw [h3, decide_eq_false h2]
   simp
 have hgood : ov = none -> (0 <= Dy.mustV t \/ (v : Int) = -Dy.mustV t) -> Dy.okE (d.L.take j) (t, v) = true := by
  intro h h2
  unfold Dy.okE
  dsimp only
  rw [hon, hT, hov, h]
  rcases h2 with h2 | h2
  ·rw [decide_eq_true h2]; rfl
  ·rw [decide_eq_true h2]; simp
 have Hbad := zJ2 hbad
 have Hgood := zJ2 hgood
 have hnone : ov = none -> ∀ p ∈ Dy.tagsV T, p.1 ≠ Value.int .u64 (t : Nat) := fun h => Dy.tagsV_no (hov.trans h)
 rw [<- hT] at hnone
 have Hnone := zJ2 hnone
 clear hbad hgood hnone HR3 HE3 HS0 HSK'
 obtain ⟨u, hu⟩ : ∃ x, Dy.mustV t = x := ⟨_, rfl⟩
 rw [hu] at hmb ⊢
 have Hu := zJ2 hu
 clear hu hov hT
 have zv := (zJ1 HE4).cell (i := 1) rfl
 cases ov with
 | some x =>
  have hok := (zJ1 Hbad) (.inl rfl)
  clear Hbad Hgood Hnone Hu
  go_wp2_with fail
  go_ret
  exact check_bad (zJ1 Hej) hok (zJ1 HR4).b
 | none =>
 by_cases hu0 : u < 0
 case neg =>
  have hok := (zJ1 Hgood) rfl (.inl (by have := zJ1 Hu; omega))
  have Hok := zJ2 hok
  clear Hbad Hgood Hu hok zv
  go_wp2_with fail
  obtain ⟨-, q6⟩ := (zJ1 Hcells) _ j (zJ1 HR4).ds
  have q0 := (zJ1 HE4).cell (i := 0) rfl
  have q1 := (zJ1 HE4).cell (i := 1) rfl
  obtain ⟨V, hV⟩ : ∃ x, W.drew = x := ⟨_, rfl⟩
  have hR4 := zJ1 HR4
  rw [hV] at q0 q1 q6 hR4
  have HR5 := zJ2 hR4
  have hmu : MapB V.drew gm (.int .u64) (Dy.tagsV (d.L.take j)) := by
   have := hR4.ds.tags
   rw [zJ1 Hgm] at this
   exact this.belowSz (zJ5 (Below.refl _ _))
  rw [hV]
  have q6' : World.cell? { heap := V.heap, tape := V.tape, drawn := V.drawn + 1, os := V.os, output := V.output } ⟨g, 6, none⟩ = some (.map (some gm)) := q6
  have q0' : World.cell? { heap := V.heap, tape := V.tape, drawn := V.drawn + 1, os := V.os, output := V.output } ⟨r, 0, none⟩ = some (.int .u64 (t : Nat)) := q0
  have q1' : World.cell? { heap := V.heap, tape := V.tape, drawn := V.drawn + 1, os := V.os, output := V.output } ⟨r, 1, none⟩ = some (.int .u64 (v : Nat)) := q1
  have Hmu := zJ2 hmu
  clear hmu hR4 HR4 HE4 hV
  go_still_tail 8, (by kernel_rfl)
  change wpList _ _ _ _ _ V.drew
  refine vJc (x := .int .u64 (t : Nat)) (g := gm) rfl _ _ _ rfl Tryz.underlying175 Tryz.underlying23 (by simp [Go.MapKept.IsKey]) rfl rfl rfl (zJ1 Hmu) ((zJ1 Hnone) (by first | trivial | rfl)) ?_
  intro V2 hm2 hg2 hs2
  have hR6 : ChkR w V2 B g gkn d (j + 1) := ((zJ1 HR5).keep (zJ5 (Below.refl _ _))).put (by rw [zJ1 Hgm]; exact hgkn) (zJ1 Hej) (zJ1 Hok) hon (by rw [zJ1 Hgm]; exact hm2) (by rw [zJ1 Hgm]; exact hg2)
  have HR6 := zJ2 hR6
  clear hm2 hg2 hs2 hR6 HR5 Hmu Hnone q0' q1' q6' q0 q1 q6
  go_wp2_with fail
  go_roundg (kk - (j + 1))
  case measure => omega
  case rel => exact ⟨j + 1, rfl, by omega, by go_num, by rw [zJ1 Hmt], zJ1 HR6⟩
 obtain ⟨a, rfl⟩ : ∃ a : Nat, u = -(a : Int) := ⟨u.natAbs, by omega⟩
 have ha : a <= 24 := by omega
 by_cases hva : v = a
 case neg =>
  have hok := (zJ1 Hbad) (.inr ⟨by have := zJ1 Hu; omega, by have := zJ1 Hu; omega⟩)
  have hva2 : ¬ (v : Int) = (a : Int) := by omega
  have hva3 : ((v : Int) != (a : Int)) = true := by simpa using hva2
  clear Hbad Hgood Hnone Hu
  go_wp2_with fail
  go_ret
  exact check_bad (zJ1 Hej) hok (zJ1 HR4).b
 subst hva
 have hok := (zJ1 Hgood) rfl (.inr (by have := zJ1 Hu; omega))
 have Hok := zJ2 hok
 have hva3 : ((v : Int) != (v : Int)) = false := by simp
 clear Hbad Hgood Hu hok
 go_wp2_with fail
 obtain ⟨-, q6⟩ := (zJ1 Hcells) _ j (zJ1 HR4).ds
 have q0 := (zJ1 HE4).cell (i := 0) rfl
 have q1 := (zJ1 HE4).cell (i := 1) rfl
 obtain ⟨V, hV⟩ : ∃ x, W.drew = x := ⟨_, rfl⟩
 have hR4 := zJ1 HR4
 rw [hV] at q0 q1 q6 hR4
 have HR5 := zJ2 hR4
 have hmu : MapB V.drew gm (.int .u64) (Dy.tagsV (d.L.take j)) := by
  have := hR4.ds.tags
  rw [zJ1 Hgm] at this
  exact this.belowSz (zJ5 (Below.refl _ _))
 rw [hV]
 have q6' : World.cell? { heap := V.heap, tape := V.tape, drawn := V.drawn + 1, os := V.os, output := V.output } ⟨g, 6, none⟩ = some (.map (some gm)) := q6
 have q0' : World.cell? { heap := V.heap, tape := V.tape, drawn := V.drawn + 1, os := V.os, output := V.output } ⟨r, 0, none⟩ = some (.int .u64 (t : Nat)) := q0
 have q1' : World.cell? { heap := V.heap, tape := V.tape, drawn := V.drawn + 1, os := V.os, output := V.output } ⟨r, 1, none⟩ = some (.int .u64 (v : Nat)) := q1
 have Hmu := zJ2 hmu
 clear hmu hR4 HR4 HE4 hV
 go_still_tail 8, (by kernel_rfl)
 change wpList _ _ _ _ _ V.drew
 refine vJc (x := .int .u64 (t : Nat)) (g := gm) rfl _ _ _ rfl Tryz.underlying175 Tryz.underlying23 (by simp [Go.MapKept.IsKey]) rfl rfl rfl (zJ1 Hmu) ((zJ1 Hnone) (by first | trivial | rfl)) ?_
 intro V2 hm2 hg2 hs2
 have hR6 : ChkR w V2 B g gkn d (j + 1) := ((zJ1 HR5).keep (zJ5 (Below.refl _ _))).put (by rw [zJ1 Hgm]; exact hgkn) (zJ1 Hej) (zJ1 Hok) hon (by rw [zJ1 Hgm]; exact hm2) (by rw [zJ1 Hgm]; exact hg2)
 have HR6 := zJ2 hR6
 clear hm2 hg2 hs2 hR6 HR5 Hmu Hnone q0' q1' q6' q0 q1 q6
 go_wp2_with fail
 go_roundg (kk - (j + 1))
 case measure => omega
 case rel => exact ⟨j + 1, rfl, by omega, by go_num, by rw [zJ1 Hmt], zJ1 HR6⟩
open Go.RowKit
theorem enInfo : (Tryz.prog.info? 182).map (·.size) = some 2 := by kernel_rfl
theorem enOne (a b : Int) : (#[.int .u64 a, .int .u64 b] : Array Value).all (·.oneCell') = true := by simp [Value.oneCell']
set_option maxRecDepth 100000 in
theorem entOf_any (A : Option Addr) (c B : Nat) (b : List UInt8) (w : World) (hB : B <= w.heap.size) (h : Rd w B 1 A 16 (bys b)) :
  Calls Tryz.prog 100 #[.slice A 16 c] w fun e w' => e = .returned (.tuple #[.agg #[.int .u64 (Wd.num b 0 8 : Nat), .int .u64 (Wd.num b 8 8 : Nat)], .bool true]) /\ Below w.heap.size w w' := by
 have hb0 : Below w.heap.size w (w.alloc (.cells #[.int .u64 0, .int .u64 0] 182)) := (Below.refl _ _).alloc (Nat.le_refl _) _
 have hk0 : Blk (w.alloc (.cells #[.int .u64 0, .int .u64 0] 182)) w.heap.size 182 [.int .u64 0, .int .u64 0] := Blk.new w 182 _
 have Hk0 := zJ2 hk0
 have Hb0 := zJ2 hb0
 have K1 := zJ2 (yJ8 A 16 c B b 0 8 _ (Nat.le_trans hB hb0.size) (h.below (hb0.mono hB)) (by unfold maxLen; omega) (by omega) (by omega))
 have K2 := zJ2 (fun w' (hb : Below w.heap.size w w') => yJ8 A 16 c B b 8 8 w' (Nat.le_trans hB hb.size) (h.below (hb.mono hB)) (by unfold maxLen; omega) (by omega) (by omega))
 clear h hb0 hk0
 obtain ⟨x, hx⟩ : ∃ x, Wd.num b 0 8 = x := ⟨_, rfl⟩
 obtain ⟨y, hy⟩ : ∃ x, Wd.num b 8 8 = x := ⟨_, rfl⟩
 rw [hx] at K1 ⊢
 rw [hy] at K2 ⊢
 clear hx hy
 go_enter Tryz.func100, Tryz.ntmps100
 go_wp2_with fail
 refine (zJ1 K1).mono ?_
 rintro e w1 ⟨rfl, hb1⟩
 have HB1 := zJ2 ((zJ1 Hb0).trans (hb1.mono (zJ1 Hb0).size))
 have HK1 := zJ2 ((zJ1 Hk0).belowSz hb1)
 have K3 := zJ2 ((zJ1 K2) _ (zJ1 HB1))
 clear hb1 K1 K2 Hk0 Hb0
 go_wp2_with fail
 refine (zJ1 K3).mono ?_
 rintro e w2 ⟨rfl, hb2⟩
 have HB2 := zJ2 ((zJ1 HB1).trans (hb2.mono (zJ1 HB1).size))
 have HK2 := zJ2 ((zJ1 HK1).belowSz hb2)
 clear hb2 K3 HB1 HK1
 go_wp2_with ((with_reducible refine (@id (wpList _ _ _ (Oper.mk none (Op.store 182 (.tmp 2) (.tmp 8)) _ _ _ none :: _) _ _) ?_)); refine wpList_store_row rfl 182 (.tmp 2) (.tmp 8) rfl w.heap.size #[.int .u64 (x : Nat), .int .u64 (y : Nat)] rfl rfl 182 _ (zJ1 HK2) enInfo rfl (enOne _ _) ?_)
 refine bodyPost_ret (results_cell_tmp (P := Tryz.prog) rfl _ _ w.heap.size 182 #[.int .u64 (x : Nat), .int .u64 (y : Nat)] (0, 0) _ rfl (setRow_heap _ _ _ _ _ _ (zJ1 HK2)) Tryz.underlying182 rfl enInfo) rfl ?_
 exact ⟨rfl, below_setRow (zJ1 HB2) (Nat.le_refl _) _⟩
def rowsOf {α : Type} (of : Nat -> Option α) : Nat -> Nat -> Option (List α)
 | 0, _ => some []
 | m + 1, k => match of k with
  | none => none
  | some v => (rowsOf of m (k + 1)).map (v :: ·)
theorem rowsOf_all {α : Type} {o : Option (List α)} : o.map (([] : List α) ++ ·) = o := by cases o <;> rfl
theorem vJm {α : Type} {of : Nat -> Option α} {N k : Nat} {l : List α} (h : rowsOf of N 0 = (rowsOf of (N - k) k).map (l ++ ·)) (hk : k < N) (ho : of k = none) : rowsOf of N 0 = none := by
 rw [h, show N - k = (N - (k + 1)) + 1 from by omega, rowsOf, ho]
 rfl
theorem wJq {α : Type} {of : Nat -> Option α} {N k : Nat} {l : List α} {x : α} (h : rowsOf of N 0 = (rowsOf of (N - k) k).map (l ++ ·)) (hk : k < N) (ho : of k = some x) : rowsOf of N 0 = (rowsOf of (N - (k + 1)) (k + 1)).map ((l ++ [x]) ++ ·) := by
 rw [h, show N - k = (N - (k + 1)) + 1 from by omega, rowsOf, ho]
 dsimp only
 cases rowsOf of (N - (k + 1)) (k + 1) <;> simp
theorem wJr {α : Type} {of : Nat -> Option α} {N k : Nat} {l : List α} (h : rowsOf of N 0 = (rowsOf of (N - k) k).map (l ++ ·)) (hk : k = N) : rowsOf of N 0 = some l := by
 rw [h, hk, Nat.sub_self]
 simp [rowsOf]
theorem enTy : SlTy Tryz.prog 176 182 2 16 := yJx (z := .agg #[.int .u64 0, .int .u64 0]) Tryz.underlying176 (by kernel_rfl) rfl (by omega) (by omega)
def enRowE (o : Option (Nat × Nat)) (w : World) (e : Ending) (w' : World) : Prop := Below w.heap.size w w' /\ match o with
 | none => e = .returned (.tuple #[.agg #[.int .u64 0, .int .u64 0], .bool false])
 | some x => e = .returned (.tuple #[.agg #[.int .u64 (x.1 : Nat), .int .u64 (x.2 : Nat)], .bool true])
def enRowsE (o : Option (List (Nat × Nat))) (w : World) (e : Ending) (w' : World) : Prop :=
 ((o = none /\ e = .returned (.tuple #[.slice none 0 0, .bool false])) \/ ∃ (l : List (Nat × Nat)) (A' : Option Addr) (c' : Nat), o = some l /\ e = .returned (.tuple #[.slice A' l.length c', .bool true]) /\ w'.ownsRow w.heap.size 182 2 (.slice A' l.length c') l.length (entC l)) /\ Below w.heap.size w w'
theorem en_bad {w w' : World} (hb : Below w.heap.size w w') : enRowsE none w (.returned (.tuple #[.slice none 0 0, .bool false])) w' := ⟨.inl ⟨rfl, rfl⟩, hb⟩
set_option maxRecDepth 100000 in
set_option maxHeartbeats 1000000 in
theorem en_rows (A : Option Addr) (n c B : Nat) (b : List UInt8) (of : Nat -> Option (Nat × Nat)) (w : World) (hB : B <= w.heap.size) (h : Rd w B 1 A n (bys b)) (hn : n <= 4294967296) (hc : n <= c)
  (hK : ∀ k A2 c2 w', (k + 1) * 16 <= n -> Below w.heap.size w w' -> Rd w' B 1 A2 16 (bys (Dy.cut b (k * 16) 16)) -> 16 <= c2 -> Calls Tryz.prog 100 #[.slice A2 16 c2] w' (enRowE (of k) w')) :
  Calls Tryz.prog 99 #[.slice A n c, .int .i64 16, .func (.func 100) #[] #[]] w (enRowsE (rowsOf of (n / 16) 0) w) := by
 have Hr := zJ2 h
 have HK := zJ2 hK
 have kt : ∀ (A : Option Addr) (n c : Nat), 16 <= c -> ∀ w' : World, (Instr.slice 24 (.slice A n c) none (some (.int .i64 16)) none).run Tryz.prog w' = .ok (.slice A 16 c) w' := fun A n c h w' => run_toK (P := Tryz.prog) Tryz.underlying24 (e := 5) (by kernel_rfl) .i64 A n c 16 h w'
 have kf : ∀ (A : Option Addr) (n c : Nat), 16 <= n -> ∀ w' : World, (Instr.slice 24 (.slice A n c) (some (.int .i64 16)) none none).run Tryz.prog w' = .ok (.slice (fromA A c 16) (n - 16) (c - 16)) w' := fun A n c h w' => xJ1 (P := Tryz.prog) Tryz.underlying24 (e := 5) (by kernel_rfl) .i64 A n c 16 h w'
 have Hkt := zJ2 kt
 have Hkf := zJ2 kf
 have Hlen := zJ2 h.1
 clear h hK kt kf
 go_enter Tryz.func99, Tryz.ntmps99
 go_wp2_with fail
 go_loopg [0, 6] n (fun gk bv lv wr => ∃ (m k : Nat) (A1 : Option Addr) (c1 : Nat) (A' : Option Addr) (c' : Nat) (l : List (Nat × Nat)), gk = m /\ m + k * 16 = n /\ bv = .slice A1 m c1 /\ m <= c1 /\ Rd wr B 1 A1 m (bys (b.drop (k * 16))) /\ lv = .slice A' l.length c' /\ l.length = k /\ rowsOf of (n / 16) 0 = (rowsOf of (n / 16 - k) k).map (l ++ ·) /\ wr.ownsRow w.heap.size 182 2 (.slice A' l.length c') l.length (entC l) /\ Below w.heap.size w wr)
 case atStart => exact ⟨n, 0, A, c, none, 0, [], rfl, by omega, rfl, hc, by simpa using zJ1 Hr, rfl, rfl, rowsOf_all.symm, World.ownsRow_nil _ _ _ _, Below.refl _ _⟩
 case round =>
 obtain ⟨m, k, A1, c1, A', c', l, hgk, hmk, rfl, hmc, hr1, rfl, hll, hof, hown, hb⟩ := hrel
 have Hr1 := zJ2 hr1
 have Hof := zJ2 hof
 have Hown := zJ2 hown
 have Hb := zJ2 hb
 have Hll := zJ2 hll
 clear hr1 hof hown hb Hr hll
 by_cases hms : 16 <= m
 case neg =>
  have h1 : ¬ (16 : Int) <= (m : Int) := by omega
  have h2 : (m : Int) < 16 := by omega
  have Hend := zJ2 (wJr (zJ1 Hof) (by omega))
  clear Hof HK Hkt Hkf
  go_wp2_with fail
  go_ret2
  exact ⟨.inr ⟨l, A', c', zJ1 Hend, rfl, zJ1 Hown⟩, zJ1 Hb⟩
 have h1 : (16 : Int) <= (m : Int) := by omega
 have kt1 := (zJ1 Hkt) A1 m c1 (by omega)
 have kf1 := (zJ1 Hkf) A1 m c1 (by omega)
 have hkN : k < n / 16 := by omega
 have hcut : (bys (b.drop (k * 16))).take 16 = bys (Dy.cut b (k * 16) 16) := by unfold bys Dy.cut; rw [List.map_take]
 have K1 := zJ2 ((zJ1 HK) k A1 c1 wr (by omega) (zJ1 Hb) (by rw [<- hcut]; exact (zJ1 Hr1).to_ (k := 16) (by omega)) (by omega))
 have hdr : bys (b.drop ((k + 1) * 16)) = (bys (b.drop (k * 16))).drop 16 := by unfold bys; rw [<- List.map_drop, List.drop_drop]; congr 2; omega
 have Hr2 : Hid (Rd wr B 1 (fromA A1 c1 16) (m - 16) (bys (b.drop ((k + 1) * 16)))) := zJ2 (by rw [hdr]; exact (zJ1 Hr1).from_ (k := 16) (by omega) hmc)
 obtain ⟨A2, hA2⟩ : ∃ x, fromA A1 c1 16 = x := ⟨_, rfl⟩
 rw [hA2] at kf1
 have hr2 := zJ1 Hr2
 rw [hA2] at hr2
 have Hr3 := zJ2 hr2
 clear hcut hdr Hr1 Hr2 hr2 hA2 Hkt Hkf
 go_wp2_with fail
 refine (zJ1 K1).mono ?_
 rintro e w2 ⟨hb2, he⟩
 have HB2 := zJ2 ((zJ1 Hb).trans (hb2.mono (zJ1 Hb).size))
 have HO2 := zJ2 (own_below (zJ1 Hown) hb2)
 have HR4 := zJ2 ((zJ1 Hr3).below (hb2.mono (Nat.le_trans hB (zJ1 Hb).size)))
 clear hb2 K1 Hown Hr3
 have hlo : w.heap.size <= w2.heap.size := (zJ1 HB2).size
 cases hof : of k with
 | none =>
  rw [hof] at he
  subst he
  have Hno := zJ2 (vJm (zJ1 Hof) hkN hof)
  have HB3 := zJ2 ((zJ1 HB2).alloc hlo (.cells #[.int .u64 0, .int .u64 0] 182))
  clear Hof hof HK kt1 kf1
  go_wp2_with fail
  go_ret2
  rw [zJ1 Hno]
  exact en_bad (zJ1 HB3)
 | some x =>
  rw [hof] at he
  subst he
  have Hyes := zJ2 (wJq (zJ1 Hof) hkN hof)
  have HB3 := zJ2 ((zJ1 HB2).alloc hlo (.cells #[.int .u64 (x.1 : Nat), .int .u64 (x.2 : Nat)] 182))
  have HO3 := zJ2 (own_below (zJ1 HO2) ((Below.refl w2.heap.size w2).alloc (Nat.le_refl _) (.cells #[.int .u64 (x.1 : Nat), .int .u64 (x.2 : Nat)] 182)))
  clear Hof hof HB2 HO2
  go_wp2_with (at_builtin; refine zJl enTy rfl _ _ rfl w.heap.size (.slice A' l.length c') l.length (entC l) rfl (zJ1 HO3) #[.int .u64 (x.1 : Nat), .int .u64 (x.2 : Nat)] _ rfl (by simp) rfl (by intro u hu; simp at hu; rcases hu with rfl | rfl <;> rfl) (by have := zJ1 Hll; omega) (by simp; omega) ?_; intro A3 c3 w3 hown' hgrow hat; have HB4 := zJ2 ((zJ1 HB3).grown hgrow (zJ1 HB3).size (fun k hk => ((zJ1 HO3).lt k hk).1)); have HR5 := zJ2 ((zJ1 HR4).below (((Below.refl B w2).alloc (Nat.le_trans hB hlo) (.cells #[.int .u64 (x.1 : Nat), .int .u64 (x.2 : Nat)] 182)).grown hgrow (by simp; omega) (fun k hk => Nat.le_trans hB ((zJ1 HO3).lt k hk).1))); have HO4 := zJ2 hown'; clear hgrow hat hown' HB3 HO3 HR4)
  go_roundg (m - 16)
  case measure => omega
  case rel => exact ⟨m - 16, k + 1, A2, c1 - 16, A3, c3, l ++ [x], rfl, by omega, rfl, by omega, zJ1 HR5, by simp, by simp [zJ1 Hll], zJ1 Hyes, by simpa [entC] using zJ1 HO4, zJ1 HB4⟩
def symV (x : Dy.Sym) : List Value := [.string x.name, .int .u64 (x.value : Nat), .int .u64 (x.size : Nat), .int .u8 (x.bind : Nat), .bool x.isdef]
def symC (l : List Dy.Sym) : List Value := l.flatMap symV
def adI (n : Nat) : Int := IntKind.i64.wrap (n : Nat)
def relV (x : Dy.Rel) : List Value := [.int .u64 (x.off : Nat), .int .u32 (x.type : Nat), .int .i64 (x.sym : Nat), .int .i64 (adI x.add)]
def relC (l : List Dy.Rel) : List Value := l.flatMap relV
theorem syTy : SlTy Tryz.prog 26 48 5 40 := yJx (z := .agg #[.string ⟨#[]⟩, .int .u64 0, .int .u64 0, .int .u8 0, .bool false]) Tryz.underlying26 (by kernel_rfl) rfl (by omega) (by omega)
def syRowE (o : Option Dy.Sym) (w : World) (e : Ending) (w' : World) : Prop := Below w.heap.size w w' /\ match o with
 | none => ∃ (z0 : ByteArray) (z1 z2 z3 : Int) (z4 : Bool), e = .returned (.tuple #[.agg #[.string z0, .int .u64 z1, .int .u64 z2, .int .u8 z3, .bool z4], .bool false])
 | some x => e = .returned (.tuple #[.agg #[.string x.name, .int .u64 (x.value : Nat), .int .u64 (x.size : Nat), .int .u8 (x.bind : Nat), .bool x.isdef], .bool true])
def syRowsE (o : Option (List Dy.Sym)) (w : World) (e : Ending) (w' : World) : Prop :=
 ((o = none /\ e = .returned (.tuple #[.slice none 0 0, .bool false])) \/ ∃ (l : List Dy.Sym) (A' : Option Addr) (c' : Nat), o = some l /\ e = .returned (.tuple #[.slice A' l.length c', .bool true]) /\ w'.ownsRow w.heap.size 48 5 (.slice A' l.length c') l.length (symC l)) /\ Below w.heap.size w w'
theorem sy_bad {w w' : World} (hb : Below w.heap.size w w') : syRowsE none w (.returned (.tuple #[.slice none 0 0, .bool false])) w' := ⟨.inl ⟨rfl, rfl⟩, hb⟩
set_option maxRecDepth 100000 in
set_option maxHeartbeats 1000000 in
theorem sy_rows (A : Option Addr) (n c B : Nat) (b : List UInt8) (gt : Nat) (of : Nat -> Option Dy.Sym) (w : World) (hB : B <= w.heap.size) (h : Rd w B 1 A n (bys b)) (hn : n <= 4294967296) (hc : n <= c)
  (hK : ∀ k A2 c2 w', (k + 1) * 24 <= n -> Below w.heap.size w w' -> Rd w' B 1 A2 24 (bys (Dy.cut b (k * 24) 24)) -> 24 <= c2 -> Calls Tryz.prog 61 #[.slice A2 24 c2, .pointer (some ⟨gt, 0, none⟩)] w' (syRowE (of k) w')) :
  Calls Tryz.prog 60 #[.slice A n c, .int .i64 24, .func (.func 61) #[] #[.pointer (some ⟨gt, 0, none⟩)]] w (syRowsE (rowsOf of (n / 24) 0) w) := by
 have Hr := zJ2 h
 have HK := zJ2 hK
 have kt : ∀ (A : Option Addr) (n c : Nat), 24 <= c -> ∀ w' : World, (Instr.slice 24 (.slice A n c) none (some (.int .i64 24)) none).run Tryz.prog w' = .ok (.slice A 24 c) w' := fun A n c h w' => run_toK (P := Tryz.prog) Tryz.underlying24 (e := 5) (by kernel_rfl) .i64 A n c 24 h w'
 have kf : ∀ (A : Option Addr) (n c : Nat), 24 <= n -> ∀ w' : World, (Instr.slice 24 (.slice A n c) (some (.int .i64 24)) none none).run Tryz.prog w' = .ok (.slice (fromA A c 24) (n - 24) (c - 24)) w' := fun A n c h w' => xJ1 (P := Tryz.prog) Tryz.underlying24 (e := 5) (by kernel_rfl) .i64 A n c 24 h w'
 have Hkt := zJ2 kt
 have Hkf := zJ2 kf
 have Hlen := zJ2 h.1
 clear h hK kt kf
 go_enter Tryz.func60, Tryz.ntmps60
 go_wp2_with fail
 go_loopg [0, 6] n (fun gk bv lv wr => ∃ (m k : Nat) (A1 : Option Addr) (c1 : Nat) (A' : Option Addr) (c' : Nat) (l : List Dy.Sym), gk = m /\ m + k * 24 = n /\ bv = .slice A1 m c1 /\ m <= c1 /\ Rd wr B 1 A1 m (bys (b.drop (k * 24))) /\ lv = .slice A' l.length c' /\ l.length = k /\ rowsOf of (n / 24) 0 = (rowsOf of (n / 24 - k) k).map (l ++ ·) /\ wr.ownsRow w.heap.size 48 5 (.slice A' l.length c') l.length (symC l) /\ Below w.heap.size w wr)
 case atStart => exact ⟨n, 0, A, c, none, 0, [], rfl, by omega, rfl, hc, by simpa using zJ1 Hr, rfl, rfl, rowsOf_all.symm, World.ownsRow_nil _ _ _ _, Below.refl _ _⟩
 case round =>
 obtain ⟨m, k, A1, c1, A', c', l, hgk, hmk, rfl, hmc, hr1, rfl, hll, hof, hown, hb⟩ := hrel
 have Hr1 := zJ2 hr1
 have Hof := zJ2 hof
 have Hown := zJ2 hown
 have Hb := zJ2 hb
 have Hll := zJ2 hll
 clear hr1 hof hown hb Hr hll
 by_cases hms : 24 <= m
 case neg =>
  have h1 : ¬ (24 : Int) <= (m : Int) := by omega
  have h2 : (m : Int) < 24 := by omega
  have Hend := zJ2 (wJr (zJ1 Hof) (by omega))
  clear Hof HK Hkt Hkf
  go_wp2_with fail
  go_ret2
  exact ⟨.inr ⟨l, A', c', zJ1 Hend, rfl, zJ1 Hown⟩, zJ1 Hb⟩
 have h1 : (24 : Int) <= (m : Int) := by omega
 have kt1 := (zJ1 Hkt) A1 m c1 (by omega)
 have kf1 := (zJ1 Hkf) A1 m c1 (by omega)
 have hkN : k < n / 24 := by omega
 have hcut : (bys (b.drop (k * 24))).take 24 = bys (Dy.cut b (k * 24) 24) := by unfold bys Dy.cut; rw [List.map_take]
 have K1 := zJ2 ((zJ1 HK) k A1 c1 wr (by omega) (zJ1 Hb) (by rw [<- hcut]; exact (zJ1 Hr1).to_ (k := 24) (by omega)) (by omega))
 have hdr : bys (b.drop ((k + 1) * 24)) = (bys (b.drop (k * 24))).drop 24 := by unfold bys; rw [<- List.map_drop, List.drop_drop]; congr 2; omega
 have Hr2 : Hid (Rd wr B 1 (fromA A1 c1 24) (m - 24) (bys (b.drop ((k + 1) * 24)))) := zJ2 (by rw [hdr]; exact (zJ1 Hr1).from_ (k := 24) (by omega) hmc)
 obtain ⟨A2, hA2⟩ : ∃ x, fromA A1 c1 24 = x := ⟨_, rfl⟩
 rw [hA2] at kf1
 have hr2 := zJ1 Hr2
 rw [hA2] at hr2
 have Hr3 := zJ2 hr2
 clear hcut hdr Hr1 Hr2 hr2 hA2 Hkt Hkf
 go_wp2_with fail
 refine (zJ1 K1).mono ?_
 rintro e w2 ⟨hb2, he⟩
 have HB2 := zJ2 ((zJ1 Hb).trans (hb2.mono (zJ1 Hb).size))
 have HO2 := zJ2 (own_below (zJ1 Hown) hb2)
 have HR4 := zJ2 ((zJ1 Hr3).below (hb2.mono (Nat.le_trans hB (zJ1 Hb).size)))
 clear hb2 K1 Hown Hr3
 have hlo : w.heap.size <= w2.heap.size := (zJ1 HB2).size
 cases hof : of k with
 | none =>
  rw [hof] at he
  obtain ⟨z0, z1, z2, z3, z4, rfl⟩ := he
  have Hno := zJ2 (vJm (zJ1 Hof) hkN hof)
  have HB3 := zJ2 ((zJ1 HB2).alloc hlo (.cells #[.string z0, .int .u64 z1, .int .u64 z2, .int .u8 z3, .bool z4] 48))
  clear Hof hof HK kt1 kf1
  go_wp2_with fail
  go_ret2
  rw [zJ1 Hno]
  exact sy_bad (zJ1 HB3)
 | some x =>
  rw [hof] at he
  subst he
  have Hyes := zJ2 (wJq (zJ1 Hof) hkN hof)
  have HB3 := zJ2 ((zJ1 HB2).alloc hlo (.cells #[.string x.name, .int .u64 (x.value : Nat), .int .u64 (x.size : Nat), .int .u8 (x.bind : Nat), .bool x.isdef] 48))
  have HO3 := zJ2 (own_below (zJ1 HO2) ((Below.refl w2.heap.size w2).alloc (Nat.le_refl _) (.cells #[.string x.name, .int .u64 (x.value : Nat), .int .u64 (x.size : Nat), .int .u8 (x.bind : Nat), .bool x.isdef] 48)))
  clear Hof hof HB2 HO2
  go_wp2_with (at_builtin; refine zJl syTy rfl _ _ rfl w.heap.size (.slice A' l.length c') l.length (symC l) rfl (zJ1 HO3) #[.string x.name, .int .u64 (x.value : Nat), .int .u64 (x.size : Nat), .int .u8 (x.bind : Nat), .bool x.isdef] _ rfl (by simp) rfl (by intro u hu; simp at hu; rcases hu with rfl | rfl | rfl | rfl | rfl <;> rfl) (by have := zJ1 Hll; omega) (by simp; omega) ?_; intro A3 c3 w3 hown' hgrow hat; have HB4 := zJ2 ((zJ1 HB3).grown hgrow (zJ1 HB3).size (fun k hk => ((zJ1 HO3).lt k hk).1)); have HR5 := zJ2 ((zJ1 HR4).below (((Below.refl B w2).alloc (Nat.le_trans hB hlo) (.cells #[.string x.name, .int .u64 (x.value : Nat), .int .u64 (x.size : Nat), .int .u8 (x.bind : Nat), .bool x.isdef] 48)).grown hgrow (by simp; omega) (fun k hk => Nat.le_trans hB ((zJ1 HO3).lt k hk).1))); have HO4 := zJ2 hown'; clear hgrow hat hown' HB3 HO3 HR4)
  go_roundg (m - 24)
  case measure => omega
  case rel => exact ⟨m - 24, k + 1, A2, c1 - 24, A3, c3, l ++ [x], rfl, by omega, rfl, by omega, zJ1 HR5, by simp, by simp [zJ1 Hll], zJ1 Hyes, by simpa [symC, symV] using zJ1 HO4, zJ1 HB4⟩
theorem reTy : SlTy Tryz.prog 27 141 4 32 := yJx (z := .agg #[.int .u64 0, .int .u32 0, .int .i64 0, .int .i64 0]) Tryz.underlying27 (by kernel_rfl) rfl (by omega) (by omega)
def reRowE (o : Option Dy.Rel) (w : World) (e : Ending) (w' : World) : Prop := Below w.heap.size w w' /\ match o with
 | none => ∃ (z0 z1 z2 z3 : Int), e = .returned (.tuple #[.agg #[.int .u64 z0, .int .u32 z1, .int .i64 z2, .int .i64 z3], .bool false])
 | some x => e = .returned (.tuple #[.agg #[.int .u64 (x.off : Nat), .int .u32 (x.type : Nat), .int .i64 (x.sym : Nat), .int .i64 (adI x.add)], .bool true])
def reRowsE (o : Option (List Dy.Rel)) (w : World) (e : Ending) (w' : World) : Prop :=
 ((o = none /\ e = .returned (.tuple #[.slice none 0 0, .bool false])) \/ ∃ (l : List Dy.Rel) (A' : Option Addr) (c' : Nat), o = some l /\ e = .returned (.tuple #[.slice A' l.length c', .bool true]) /\ w'.ownsRow w.heap.size 141 4 (.slice A' l.length c') l.length (relC l)) /\ Below w.heap.size w w'
theorem re_bad {w w' : World} (hb : Below w.heap.size w w') : reRowsE none w (.returned (.tuple #[.slice none 0 0, .bool false])) w' := ⟨.inl ⟨rfl, rfl⟩, hb⟩
set_option maxRecDepth 100000 in
set_option maxHeartbeats 1000000 in
theorem re_rows (A : Option Addr) (n c B : Nat) (b : List UInt8) (gt : Nat) (of : Nat -> Option Dy.Rel) (w : World) (hB : B <= w.heap.size) (h : Rd w B 1 A n (bys b)) (hn : n <= 4294967296) (hc : n <= c)
  (hK : ∀ k A2 c2 w', (k + 1) * 24 <= n -> Below w.heap.size w w' -> Rd w' B 1 A2 24 (bys (Dy.cut b (k * 24) 24)) -> 24 <= c2 -> Calls Tryz.prog 65 #[.slice A2 24 c2, .pointer (some ⟨gt, 0, none⟩)] w' (reRowE (of k) w')) :
  Calls Tryz.prog 64 #[.slice A n c, .int .i64 24, .func (.func 65) #[] #[.pointer (some ⟨gt, 0, none⟩)]] w (reRowsE (rowsOf of (n / 24) 0) w) := by
 have Hr := zJ2 h
 have HK := zJ2 hK
 have kt : ∀ (A : Option Addr) (n c : Nat), 24 <= c -> ∀ w' : World, (Instr.slice 24 (.slice A n c) none (some (.int .i64 24)) none).run Tryz.prog w' = .ok (.slice A 24 c) w' := fun A n c h w' => run_toK (P := Tryz.prog) Tryz.underlying24 (e := 5) (by kernel_rfl) .i64 A n c 24 h w'
 have kf : ∀ (A : Option Addr) (n c : Nat), 24 <= n -> ∀ w' : World, (Instr.slice 24 (.slice A n c) (some (.int .i64 24)) none none).run Tryz.prog w' = .ok (.slice (fromA A c 24) (n - 24) (c - 24)) w' := fun A n c h w' => xJ1 (P := Tryz.prog) Tryz.underlying24 (e := 5) (by kernel_rfl) .i64 A n c 24 h w'
 have Hkt := zJ2 kt
 have Hkf := zJ2 kf
 have Hlen := zJ2 h.1
 clear h hK kt kf
 go_enter Tryz.func64, Tryz.ntmps64
 go_wp2_with fail
 go_loopg [0, 6] n (fun gk bv lv wr => ∃ (m k : Nat) (A1 : Option Addr) (c1 : Nat) (A' : Option Addr) (c' : Nat) (l : List Dy.Rel), gk = m /\ m + k * 24 = n /\ bv = .slice A1 m c1 /\ m <= c1 /\ Rd wr B 1 A1 m (bys (b.drop (k * 24))) /\ lv = .slice A' l.length c' /\ l.length = k /\ rowsOf of (n / 24) 0 = (rowsOf of (n / 24 - k) k).map (l ++ ·) /\ wr.ownsRow w.heap.size 141 4 (.slice A' l.length c') l.length (relC l) /\ Below w.heap.size w wr)
 case atStart => exact ⟨n, 0, A, c, none, 0, [], rfl, by omega, rfl, hc, by simpa using zJ1 Hr, rfl, rfl, rowsOf_all.symm, World.ownsRow_nil _ _ _ _, Below.refl _ _⟩
 case round =>
 obtain ⟨m, k, A1, c1, A', c', l, hgk, hmk, rfl, hmc, hr1, rfl, hll, hof, hown, hb⟩ := hrel
 have Hr1 := zJ2 hr1
 have Hof := zJ2 hof
 have Hown := zJ2 hown
 have Hb := zJ2 hb
 have Hll := zJ2 hll
 clear hr1 hof hown hb Hr hll
 by_cases hms : 24 <= m
 case neg =>
  have h1 : ¬ (24 : Int) <= (m : Int) := by omega
  have h2 : (m : Int) < 24 := by omega
  have Hend := zJ2 (wJr (zJ1 Hof) (by omega))
  clear Hof HK Hkt Hkf
  go_wp2_with fail
  go_ret2
  exact ⟨.inr ⟨l, A', c', zJ1 Hend, rfl, zJ1 Hown⟩, zJ1 Hb⟩
 have h1 : (24 : Int) <= (m : Int) := by omega
 have kt1 := (zJ1 Hkt) A1 m c1 (by omega)
 have kf1 := (zJ1 Hkf) A1 m c1 (by omega)
 have hkN : k < n / 24 := by omega
 have hcut : (bys (b.drop (k * 24))).take 24 = bys (Dy.cut b (k * 24) 24) := by unfold bys Dy.cut; rw [List.map_take]
 have K1 := zJ2 ((zJ1 HK) k A1 c1 wr (by omega) (zJ1 Hb) (by rw [<- hcut]; exact (zJ1 Hr1).to_ (k := 24) (by omega)) (by omega))
 have hdr : bys (b.drop ((k + 1) * 24)) = (bys (b.drop (k * 24))).drop 24 := by unfold bys; rw [<- List.map_drop, List.drop_drop]; congr 2; omega
 have Hr2 : Hid (Rd wr B 1 (fromA A1 c1 24) (m - 24) (bys (b.drop ((k + 1) * 24)))) := zJ2 (by rw [hdr]; exact (zJ1 Hr1).from_ (k := 24) (by omega) hmc)
 obtain ⟨A2, hA2⟩ : ∃ x, fromA A1 c1 24 = x := ⟨_, rfl⟩
 rw [hA2] at kf1
 have hr2 := zJ1 Hr2
 rw [hA2] at hr2
 have Hr3 := zJ2 hr2
 clear hcut hdr Hr1 Hr2 hr2 hA2 Hkt Hkf
 go_wp2_with fail
 refine (zJ1 K1).mono ?_
 rintro e w2 ⟨hb2, he⟩
 have HB2 := zJ2 ((zJ1 Hb).trans (hb2.mono (zJ1 Hb).size))
 have HO2 := zJ2 (own_below (zJ1 Hown) hb2)
 have HR4 := zJ2 ((zJ1 Hr3).below (hb2.mono (Nat.le_trans hB (zJ1 Hb).size)))
 clear hb2 K1 Hown Hr3
 have hlo : w.heap.size <= w2.heap.size := (zJ1 HB2).size
 cases hof : of k with
 | none =>
  rw [hof] at he
  obtain ⟨z0, z1, z2, z3, rfl⟩ := he
  have Hno := zJ2 (vJm (zJ1 Hof) hkN hof)
  have HB3 := zJ2 ((zJ1 HB2).alloc hlo (.cells #[.int .u64 z0, .int .u32 z1, .int .i64 z2, .int .i64 z3] 141))
  clear Hof hof HK kt1 kf1
  go_wp2_with fail
  go_ret2
  rw [zJ1 Hno]
  exact re_bad (zJ1 HB3)
 | some x =>
  rw [hof] at he
  subst he
  have Hyes := zJ2 (wJq (zJ1 Hof) hkN hof)
  have HB3 := zJ2 ((zJ1 HB2).alloc hlo (.cells #[.int .u64 (x.off : Nat), .int .u32 (x.type : Nat), .int .i64 (x.sym : Nat), .int .i64 (adI x.add)] 141))
  have HO3 := zJ2 (own_below (zJ1 HO2) ((Below.refl w2.heap.size w2).alloc (Nat.le_refl _) (.cells #[.int .u64 (x.off : Nat), .int .u32 (x.type : Nat), .int .i64 (x.sym : Nat), .int .i64 (adI x.add)] 141)))
  clear Hof hof HB2 HO2
  go_wp2_with (at_builtin; refine zJl reTy rfl _ _ rfl w.heap.size (.slice A' l.length c') l.length (relC l) rfl (zJ1 HO3) #[.int .u64 (x.off : Nat), .int .u32 (x.type : Nat), .int .i64 (x.sym : Nat), .int .i64 (adI x.add)] _ rfl (by simp) rfl (by intro u hu; simp at hu; rcases hu with rfl | rfl | rfl | rfl <;> rfl) (by have := zJ1 Hll; omega) (by simp; omega) ?_; intro A3 c3 w3 hown' hgrow hat; have HB4 := zJ2 ((zJ1 HB3).grown hgrow (zJ1 HB3).size (fun k hk => ((zJ1 HO3).lt k hk).1)); have HR5 := zJ2 ((zJ1 HR4).below (((Below.refl B w2).alloc (Nat.le_trans hB hlo) (.cells #[.int .u64 (x.off : Nat), .int .u32 (x.type : Nat), .int .i64 (x.sym : Nat), .int .i64 (adI x.add)] 141)).grown hgrow (by simp; omega) (fun k hk => Nat.le_trans hB ((zJ1 HO3).lt k hk).1))); have HO4 := zJ2 hown'; clear hgrow hat hown' HB3 HO3 HR4)
  go_roundg (m - 24)
  case measure => omega
  case rel => exact ⟨m - 24, k + 1, A2, c1 - 24, A3, c3, l ++ [x], rfl, by omega, rfl, by omega, zJ1 HR5, by simp, by simp [zJ1 Hll], zJ1 Hyes, by simpa [relC, relV] using zJ1 HO4, zJ1 HB4⟩
end Go.Proofs.YtnbecdahfgkffaaGreat
