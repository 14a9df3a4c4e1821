/- Texts of the claim LawCloManyCard (Mark, Dy1, MkR1, Nm1, Slc, SlcU, Conv, Dy2, WordsU, Elf1g, Elf2g, Elf3, MapAny, MapB, OwnCap, Dy3, Dy4, DyPure2, Dy7, Held, Dy8): what the functions that the statement reaches compute, and plain laws of it. Conditions: those that each theorem states. -/
import Derived.Test.YtiiiblmhlhikkaaGreatDoorCbK1
import Derived.Laws.IdiomStrings
import Derived.Laws.CopyRow
import Derived.Deep.LoopGhost
import Derived.Laws.BytesArg
import Derived.Test.YtiiiblmhlhikkaaGreatDoorShelf
import Derived.Lib.IndexLaws
import Derived.Lib.SlBytesConst
import Derived.Handy
import Derived.Laws.CopyOwn
import Derived.Maps.Own
import Derived.Laws.IdiomRangeMap
import Derived.Deep.RegionHeld3
import Derived.Test.YtiiiblmhlhikkaaGreatDoorProg
import Derived.WalkSpells
import Derived.WalkLawsBesides
import Derived.StillTailTactics
import Derived.Laws.RangeAny
set_option linter.unusedVariables false
set_option linter.unusedSimpArgs false
namespace Go.Proofs.YtiiiblmhlhikkaaGreatDoor
open Go.RowKit
def OwnM (w : World) (base : Nat) (A : Option Addr) (n c : Nat) (xs : List UInt8) : Prop :=
 xs.length = n /\ ∃ (g : Nat) (cur : Array Value) (fr : Nat × Nat), A = some ⟨g, 0, none⟩ /\ base <= g /\ w.heap[g]? = some (.cells cur 5 fr) /\ (fr = (0, 0) \/ cur.size <= fr.1) /\ n <= c /\ c <= maxLen /\ cur.size = c /\ cur.toList.take n = bys xs
section
variable {w w' : World} {base B n c : Nat} {A : Option Addr} {xs : List UInt8}
theorem OwnM.rd (h : OwnM w base A n c xs) : Rd w w.heap.size 1 A n (bys xs) := by
 obtain ⟨hl, g, cur, fr, rfl, hb, hg, _, hn, _, hc, ht⟩ := h
 refine ⟨by simp [bys]; omega, .inr ⟨g, 0, rfl, lt_of_block hg, fun j u hu => ?_⟩⟩
 have hj : j < n := by have := (List.getElem?_eq_some_iff.1 hu).1; simp [bys] at this; omega
 rw [cell_of_row w g (0 + j) cur _ fr hg, Nat.zero_add]
 rw [<- ht, List.getElem?_take_of_lt hj] at hu
 simpa using hu
theorem OwnM.below (h : OwnM w base A n c xs) (hb : Below w.heap.size w w') : OwnM w' base A n c xs := by
 obtain ⟨hl, g, cur, fr, rfl, h1, hg, r⟩ := h
 exact ⟨hl, g, cur, fr, rfl, h1, (hb.block g (lt_of_block hg)).trans hg, r⟩
theorem OwnM.low (h : OwnM w base A n c xs) (hb : B <= base) : OwnM w B A n c xs := by
 obtain ⟨hl, g, cur, fr, rfl, h1, r⟩ := h
 exact ⟨hl, g, cur, fr, rfl, Nat.le_trans hb h1, r⟩
theorem OwnM.keep (h : OwnM w base A n c xs) {k : Nat} (hk : ∀ g, g < w.heap.size -> g ≠ k -> w'.heap[g]? = w.heap[g]?) (hne : ∀ o, A ≠ some ⟨k, o, none⟩) : OwnM w' base A n c xs := by
 obtain ⟨hl, g, cur, fr, rfl, h1, hg, r⟩ := h
 exact ⟨hl, g, cur, fr, rfl, h1, (hk g (lt_of_block hg) (fun e => hne 0 (by rw [e]))).trans hg, r⟩
theorem OwnM.at_ (h : OwnM w base A n c xs) : ∃ g, A = some ⟨g, 0, none⟩ /\ base <= g /\ g < w.heap.size /\ n <= c := by
 obtain ⟨hl, g, cur, fr, rfl, h1, hg, _, hn, _⟩ := h
 exact ⟨g, rfl, h1, lt_of_block hg, hn⟩
theorem OwnM.conv (w : World) (s : ByteArray) (hs : s.size <= maxLen) : OwnM (w.drew.alloc (.cells (bytesRow s (grownCap w s.size 0 5)) 5 ((bytesRow s (grownCap w s.size 0 5)).size, (bytesRow s (grownCap w s.size 0 5)).size + 1))) w.heap.size (some ⟨w.heap.size, 0, none⟩) s.size (grownCap w s.size 0 5) s.data.toList := by
 have hge := grownCap_ge w s.size 0 5
 refine ⟨rfl, w.heap.size, _, _, rfl, Nat.le_refl _, heap_alloc_new w.drew _, .inr (Nat.le_refl _), hge, grownCap_le_maxLen w s.size 0 5 hs, ?_, ?_⟩
 ·simp [bytesRow]
  omega
 ·unfold bytesRow
  rw [Array.toList_append, List.take_append_of_le_length (by simp), List.take_of_length_le (by simp)]
  simp [bys]
end
open Go.RowKit
namespace Dy
end Dy
namespace Wd
theorem num_cons (b : List UInt8) (q n : Nat) (c : UInt8) (h : b[q]? = some c) : num b q (n + 1) = c.toNat + 256 * num b (q + 1) n := by
 unfold num
 have hl : q < b.length := (List.getElem?_eq_some_iff.1 h).1
 rw [List.drop_eq_getElem_cons hl, (List.getElem?_eq_some_iff.1 h).2]
 rfl
end Wd
theorem yJf (A : Option Addr) (m c B : Nat) (b : List UInt8) (p s : Nat) (w : World) (hB : B <= w.heap.size) (hb : Rd w B 1 A m (bys b)) (hm : m <= maxLen) (hs : s = 1 \/ s = 2 \/ s = 4 \/ s = 8) (hin : p + s <= m) :
  Calls Tryz.prog 96 #[.slice A m c, .int .u64 p, .int .i64 s] w fun e w' => e = .returned (.int .u64 (Wd.num b p s)) /\ Below w.heap.size w w' := by
 have K := zJ2 (get_yes A m c B b p s w hB hb hm hs hin)
 clear hb hs hin
 go_enter Tryz.func96, Tryz.ntmps96
 go_wp2_with fail
 refine (zJ1 K).mono ?_
 rintro e w1 ⟨rfl, hb1⟩
 go_wp2_with fail
 go_ret
 exact ⟨rfl, hb1⟩
open Go.RowKit
set_option maxRecDepth 100000 in
set_option maxHeartbeats 2000000 in
theorem uJ1 (s : ByteArray) (w : World) (hs : s.size <= 4294967296) : Calls Tryz.prog 123 #[.string s] w fun e w' => e = .returned (.bool (Mk.has s)) /\ w = w' := by
 go_enter Tryz.func123, Tryz.ntmps123
 go_wp2_with fail
 go_loopg [3] s.size (fun gk iv wr => ∃ j : Nat, gk = s.size - j /\ j <= s.size /\ iv = .int .i64 j /\ wr = w /\ (s.data.toList.take j).contains 0 = false)
 case atStart => exact ⟨0, by omega, by omega, rfl, rfl, rfl⟩
 case round =>
 obtain ⟨j, hgk, hj, rfl, rfl, hno⟩ := hrel
 have Hgk := zJ2 hgk
 have Hno := zJ2 hno
 clear hgk hno
 by_cases hlt : j < s.size
 case neg =>
  obtain rfl : j = s.size := by omega
  go_wp2_with fail
  go_ret
  have h := zJ1 Hno
  rw [List.take_of_length_le (by simp)] at h
  exact ⟨yJb h.symm, rfl⟩
 have hx : s.data.toList[j]? = some s[j] := by rw [List.getElem?_eq_getElem (by simpa using hlt)]; rfl
 have hnext : (s.data.toList.take (j + 1)).contains 0 = decide (s[j] = 0) := by
  have h := zJ1 Hno
  rw [List.take_add_one, hx]
  simp only [Option.toList, List.contains_append, h, Bool.false_or]
  by_cases e : s[j] = 0
  ·simp [e]
  ·simp [e]; exact fun h2 => e h2.symm
 have hb0 := byte_0 s[j]
 clear hx
 by_cases hz : s[j] = 0
 ·have hyes : Mk.has s = true := by
   unfold Mk.has
   rw [<- List.take_append_drop (j + 1) s.data.toList, List.contains_append, hnext, hz]
   rfl
  rw [decide_eq_true hz] at hb0
  have Hyes := zJ2 hyes
  clear hyes hnext hz
  go_wp2_with fail
  go_ret
  exact ⟨yJb (zJ1 Hyes).symm, rfl⟩
 ·rw [decide_eq_false hz] at hb0 hnext
  have Hnext := zJ2 hnext
  clear hnext hz
  go_wp2_with fail
  go_roundg (s.size - (j + 1))
  case measure => have := zJ1 Hgk; omega
  case rel => exact ⟨j + 1, rfl, by omega, by go_num, rfl, zJ1 Hnext⟩
set_option maxRecDepth 100000 in
theorem rup_any (n : Nat) (w : World) (hn : n <= 4294967296) : Calls Tryz.prog 76 #[.int .i64 n] w fun e w' => e = .returned (.int .i64 ((n + 4095) / 4096 * 4096 : Nat)) /\ w = w' := by
 obtain ⟨q, hq⟩ : ∃ q, (n + 4095) / 4096 = q := ⟨_, rfl⟩
 have h2 : ((n : Int) + 4096 - 1).tdiv 4096 = (q : Int) := by rw [Int.tdiv_eq_ediv_of_nonneg (by omega)]; omega
 have h3 : ((n : Int) + 4096 - 1) / 4096 = (q : Int) := by omega
 have hq2 : q <= 1048577 := by omega
 rw [hq]
 clear hq
 go_enter Tryz.func76, Tryz.ntmps76
 go_wp2_with fail
 go_ret
 exact ⟨ret_int (by omega), rfl⟩
theorem zerosN (s : Nat) : (madeCells (Value.int .u8 0).cells (s * 1)).toList = bys (List.replicate s 0) := by
 simp [bys, Value.cells, toList_madeCells_one]
set_option maxRecDepth 100000 in
set_option maxHeartbeats 4000000 in
theorem xJ3 (x s : Nat) (w : World) (hx : x < 18446744073709551616) (hs : s = 1 \/ s = 2 \/ s = 4 \/ s = 8) :
  Calls Tryz.prog 130 #[.int .u64 x, .int .i64 s] w fun e w' => ∃ A' c', e = .returned (.slice A' s c') /\ w'.ownsRow w.heap.size 5 1 (.slice A' s c') s (bys (Cl.lb x s)) /\ Below w.heap.size w w' := by
 obtain ⟨i, hi, hz0, hz1, hz2⟩ := info_parts yJo
 have Hi := zJ2 hi
 have Hz0 := zJ2 hz0
 have Hz1 := zJ2 hz1
 have Hz2 := zJ2 hz2
 have Hs := zJ2 hs
 have hs8 : s <= 8 := by omega
 clear hi hz0 hz1 hz2 hs
 go_enter Tryz.func130, Tryz.ntmps130
 go_wp2_with (at_make; refine wpList_make_full _ rfl _ _ 64 rfl w.heap.size 5 i (.int .u8 0) 1 Tryz.underlying64 (zJ1 Hi) (zJ1 Hz0) (zJ1 Hz1) _ _ _ _ s rfl rfl rfl rfl (by rw [zJ1 Hz2]; omega) (by unfold maxLen; omega) (Nat.le_refl _) ?_; intro w1 hown hgrow; have hb1 := (Below.refl w.heap.size w).grown hgrow (Nat.le_refl _) (fun k hk => by cases hk); have Hown := zJ2 hown; have Hb1 := zJ2 hb1; clear hown hgrow hb1)
 have ho := zJ1 Hown
 rw [zerosN] at ho
 have K := refSet_yes (some ⟨w.heap.size, 0, none⟩) s s w1.heap.size (List.replicate s 0) 0 s x w1 (Nat.le_refl _) (Rd.of_own ho) (by omega) (zJ1 Hs) (by omega) hx
 rw [setK_all] at K
 replace K := zJ2 K
 clear ho
 refine (zJ1 K).mono ?_
 rintro e w2 ⟨A', c', rfl, ho2, hb2⟩
 have hs1 := (zJ1 Hb1).size
 have Ho2 := zJ2 (zJd ho2 hs1)
 have Hb2 := zJ2 ((zJ1 Hb1).trans (hb2.mono hs1))
 clear ho2 hb2 K
 go_wp2_with fail
 go_ret
 exact ⟨A', c', rfl, zJ1 Ho2, zJ1 Hb2⟩
def nmL (A : Option Addr) (n c : Nat) : List Value := [.int .u16 3, .int .u64 0, .string ⟨#[]⟩, .slice none 0 0, .slice none 0 0, .int .u64 0, .bool true, .slice A n c, .string ⟨#[]⟩, .string ⟨#[]⟩, .slice none 0 0, .slice none 0 0, .int .i64 0]
def nmW (A : Option Addr) (n c : Nat) (w : World) : World := w.alloc (.cells (nmL A n c).toArray 119)
theorem xJr (A : Option Addr) (n c : Nat) (w : World) : Below w.heap.size w (nmW A n c w) := (Below.refl _ _).alloc (Nat.le_refl _) _
theorem vJf (A : Option Addr) (n c : Nat) (w : World) : (nmW A n c w).heap.size = w.heap.size + 1 := by simp [nmW]
theorem nm_blk (A : Option Addr) (n c : Nat) (w : World) : Blk (nmW A n c w) w.heap.size 119 (nmL A n c) := Blk.new _ _ _
theorem zJr {w : World} {g n c : Nat} {A : Option Addr} (h : Blk w g 119 (nmL A n c)) : w.cell? ⟨g, 0, none⟩ = some (.int .u16 3) /\ w.cell? ⟨g, 1, none⟩ = some (.int .u64 0) /\ w.cell? ⟨g, 2, none⟩ = some (.string ⟨#[]⟩) /\ w.cell? ⟨g, 3, none⟩ = some (.slice none 0 0) /\ w.cell? ⟨g, 4, none⟩ = some (.slice none 0 0) /\ w.cell? ⟨g, 5, none⟩ = some (.int .u64 0) /\ w.cell? ⟨g, 6, none⟩ = some (.bool true) /\ w.cell? ⟨g, 7, none⟩ = some (.slice A n c) /\ w.cell? ⟨g, 8, none⟩ = some (.string ⟨#[]⟩) /\ w.cell? ⟨g, 9, none⟩ = some (.string ⟨#[]⟩) /\ w.cell? ⟨g, 10, none⟩ = some (.slice none 0 0) /\ w.cell? ⟨g, 11, none⟩ = some (.slice none 0 0) /\ w.cell? ⟨g, 12, none⟩ = some (.int .i64 0) :=
 ⟨h.cell (i := 0) rfl, h.cell (i := 1) rfl, h.cell (i := 2) rfl, h.cell (i := 3) rfl, h.cell (i := 4) rfl, h.cell (i := 5) rfl, h.cell (i := 6) rfl, h.cell (i := 7) rfl, h.cell (i := 8) rfl, h.cell (i := 9) rfl, h.cell (i := 10) rfl, h.cell (i := 11) rfl, h.cell (i := 12) rfl⟩
theorem wJs : (⟨#[]⟩ : ByteArray).toList.isEmpty = true := by rw [zJl]; rfl
set_option maxRecDepth 100000 in
set_option maxHeartbeats 4000000 in
theorem rrowsN (A : Option Addr) (n c : Nat) (w : World) : Calls Tryz.prog 72 #[.agg (nmL A n c).toArray] w fun e w' => e = .returned (.int .i64 3) /\ Below w.heap.size w w' := by
 have Hnb := zJ2 (xJr A n c w)
 obtain ⟨-, -, a2, a3, a4, a5, a6, -⟩ := zJr (nm_blk A n c w)
 have hem := wJs
 unfold nmW nmL at *
 go_enter Tryz.func72, Tryz.ntmps72
 go_wp2_with fail
 go_ret
 exact ⟨rfl, zJ1 Hnb⟩
set_option maxRecDepth 100000 in
theorem rrelasN (w : World) : Calls Tryz.prog 129 #[.slice none 0 0] w fun e w' => e = .returned (.slice none 0 0) /\ w = w' := by
 go_enter Tryz.func129, Tryz.ntmps129
 go_wp2_with fail
 go_loopg [3, 4] 0 (fun gk bv iv wr => gk = 0 /\ iv = .int .i64 0 /\ bv = .slice none 0 0 /\ wr = w)
 case atStart => exact ⟨rfl, rfl, rfl, rfl⟩
 case round =>
  obtain ⟨-, rfl, rfl, rfl⟩ := hrel
  go_wp2_with fail
  go_ret
  exact ⟨rfl, rfl⟩
set_option maxRecDepth 100000 in
theorem rbase3 (w : World) : Calls Tryz.prog 71 #[.int .u16 3] w fun e w' => e = .returned (.int .u64 0) /\ w = w' := by
 go_enter Tryz.func71, Tryz.ntmps71
 go_wp2_with fail
 go_ret
 exact ⟨rfl, rfl⟩
set_option maxRecDepth 100000 in
set_option maxHeartbeats 4000000 in
theorem rsizeN (At An : Option Addr) (nt ct nn cn : Nat) (w : World) (h1 : nn <= 4294967296) :
  Calls Tryz.prog 124 #[.agg #[.slice none 0 0, .slice none 0 0, .slice none 0 0, .slice none 0 0, .slice At nt ct, .slice An nn cn, .int .u64 0, .int .u64 0]] w fun e w' => e = .returned (.int .i64 (nn + 3 : Nat)) /\ Below w.heap.size w w' := by
 have hb1 : Below w.heap.size w (w.alloc (.cells #[.slice none 0 0, .slice none 0 0, .slice none 0 0, .slice none 0 0, .slice At nt ct, .slice An nn cn, .int .u64 0, .int .u64 0] 171)) := (Below.refl _ _).alloc (Nat.le_refl _) _
 have hbl := Blk.new w 171 [.slice none 0 0, .slice none 0 0, .slice none 0 0, .slice none 0 0, .slice At nt ct, .slice An nn cn, .int .u64 0, .int .u64 0]
 have y1 := hbl.cell (i := 1) rfl
 have y2 := hbl.cell (i := 2) rfl
 have y3 := hbl.cell (i := 3) rfl
 have y5 := hbl.cell (i := 5) rfl
 have y6 := hbl.cell (i := 6) rfl
 have y7 := hbl.cell (i := 7) rfl
 have Hb1 := zJ2 hb1
 clear hb1 hbl
 go_enter Tryz.func124, Tryz.ntmps124
 go_wp2_with fail
 go_ret
 exact ⟨ret_int (by omega), zJ1 Hb1⟩
set_option maxRecDepth 100000 in
set_option maxHeartbeats 8000000 in
theorem rmayN (l : List ByteArray) (A : Option Addr) (n c B : Nat) (w : World) (hB : B <= w.heap.size) (h : Rd w B 1 A n (l.map Value.string)) (hn : n <= 8) (hs : ∀ s ∈ l, s.size <= 4294967296 /\ Mk.has s = false) :
  Calls Tryz.prog 70 #[.agg (nmL A n c).toArray] w fun e w' => e = .returned (.int .i64 0) /\ Below w.heap.size w w' := by
 have Hnb := zJ2 (xJr A n c w)
 obtain ⟨a0, a1, a2, a3, a4, a5, a6, a7, a8, a9, a10, a11, a12⟩ := zJr (nm_blk A n c w)
 have hem := wJs
 have KB := zJ2 (fun W => rbase3 W)
 have KE := zJ2 (fun W => uJ1 ⟨#[]⟩ W (by decide))
 have Hs := zJ2 hs
 have Hh := zJ2 (h.below ((xJr A n c w).mono hB))
 clear hs h
 unfold nmW nmL at *
 go_enter Tryz.func70, Tryz.ntmps70
 go_wp2_with fail
 refine ((zJ1 KB) _).mono ?_
 rintro e w1 ⟨rfl, rfl⟩
 go_wp2_with fail
 refine ((zJ1 KE) _).mono ?_
 rintro e w1 ⟨rfl, rfl⟩
 rw [show Mk.has ⟨#[]⟩ = false from rfl]
 go_wp2_with fail
 refine ((zJ1 KE) _).mono ?_
 rintro e w1 ⟨rfl, rfl⟩
 rw [show Mk.has ⟨#[]⟩ = false from rfl]
 go_wp2_with fail
 have Hb2 := zJ2 ((zJ1 Hnb).trans (((Below.refl _ _).alloc (Nat.le_refl _) (.cells #[.slice A n c, .string ⟨#[]⟩, .string ⟨#[]⟩, .slice none 0 0, .slice none 0 0] 54)).mono (zJ1 Hnb).size))
 have hbd := Blk.new (w.alloc (.cells #[.int .u16 3, .int .u64 0, .string ⟨#[]⟩, .slice none 0 0, .slice none 0 0, .int .u64 0, .bool true, .slice A n c, .string ⟨#[]⟩, .string ⟨#[]⟩, .slice none 0 0, .slice none 0 0, .int .i64 0] 119)) 54 [.slice A n c, .string ⟨#[]⟩, .string ⟨#[]⟩, .slice none 0 0, .slice none 0 0]
 have hx5 := (nm_blk A n c w).alloc (.cells #[.slice A n c, .string ⟨#[]⟩, .string ⟨#[]⟩, .slice none 0 0, .slice none 0 0] 54)
 have Hh2 := zJ2 ((zJ1 Hh).below (((Below.refl _ _).alloc (Nat.le_refl _) (.cells #[.slice A n c, .string ⟨#[]⟩, .string ⟨#[]⟩, .slice none 0 0, .slice none 0 0] 54)).mono (by have := (zJ1 Hnb).size; omega)))
 have e1 := vJf A n c w
 unfold nmW nmL at *
 generalize (w.alloc (.cells (List.toArray [.int .u16 3, .int .u64 0, .string ⟨#[]⟩, .slice none 0 0, .slice none 0 0, .int .u64 0, .bool true, .slice A n c, .string ⟨#[]⟩, .string ⟨#[]⟩, .slice none 0 0, .slice none 0 0, .int .i64 0]) 119)) = W1 at *
 rw [e1] at hbd
 generalize (W1.alloc (.cells (List.toArray [.slice A n c, .string ⟨#[]⟩, .string ⟨#[]⟩, .slice none 0 0, .slice none 0 0]) 54)) = W2 at *
 clear a0 a1 a2 a3 a4 a5 a6 a7 a8 a9 a10 a11 a12 e1 KB KE Hnb Hh
 obtain ⟨d0, d1, d2, d3, d4⟩ : W2.cell? ⟨w.heap.size + 1, 0, none⟩ = some (.slice A n c) /\ W2.cell? ⟨w.heap.size + 1, 1, none⟩ = some (.string ⟨#[]⟩) /\ W2.cell? ⟨w.heap.size + 1, 2, none⟩ = some (.string ⟨#[]⟩) /\ W2.cell? ⟨w.heap.size + 1, 3, none⟩ = some (.slice none 0 0) /\ W2.cell? ⟨w.heap.size + 1, 4, none⟩ = some (.slice none 0 0) := ⟨hbd.cell (i := 0) rfl, hbd.cell (i := 1) rfl, hbd.cell (i := 2) rfl, hbd.cell (i := 3) rfl, hbd.cell (i := 4) rfl⟩
 have x3 := hx5.cell (i := 3) rfl
 have x5 := hx5.cell (i := 5) rfl
 clear hbd hx5
 have hn8 : ¬ ((8 : Int) < (n : Int)) := by omega
 go_loopg [6, 7] n (fun gk bv iv wr => ∃ j : Nat, gk = n - j /\ j <= n /\ iv = .int .i64 j /\ bv = .bool false /\ W2 = wr)
 case atStart => exact ⟨0, by omega, by omega, rfl, rfl, rfl⟩
 case round =>
 obtain ⟨j, hgk, hj, rfl, rfl, rfl⟩ := hrel
 have Hgk := zJ2 hgk
 clear hgk
 by_cases hlt : j < n
 ·have hl : l.length = n := by have := (zJ1 Hh2).len1; rwa [List.length_map] at this
  obtain ⟨b1, o1, rfl, hb1, st⟩ := (zJ1 Hh2).at_ (k := j) (u := .string l[j]) (by rw [List.getElem?_map, List.getElem?_eq_getElem (by omega)]; rfl)
  have hm := (zJ1 Hs) l[j] (List.getElem_mem _)
  obtain ⟨sv, hsv⟩ : ∃ sv, l[j] = sv := ⟨_, rfl⟩
  rw [hsv] at st hm
  have KJ := zJ2 (fun W => uJ1 sv W hm.1)
  rw [hm.2] at KJ
  clear hm hsv hl
  go_wp2_with fail
  refine ((zJ1 KJ) _).mono ?_
  rintro e w1 ⟨rfl, rfl⟩
  go_wp2_with fail
  go_roundg (n - (j + 1))
  case measure => have := zJ1 Hgk; omega
  case rel => exact ⟨j + 1, rfl, by omega, by go_num, rfl, rfl⟩
 obtain rfl : j = n := by omega
 go_wp2_with fail
 go_loopg [6, 8] 0 (fun gk bv iv wr => gk = 0 /\ iv = .int .i64 0 /\ bv = .bool false /\ W2 = wr)
 case atStart => exact ⟨rfl, rfl, rfl, rfl⟩
 case round =>
 obtain ⟨-, rfl, rfl, rfl⟩ := hrel
 go_wp2_with fail
 go_loopg [6, 9] 0 (fun gk bv iv wr => gk = 0 /\ iv = .int .i64 0 /\ bv = .bool false /\ W2 = wr)
 case atStart => exact ⟨rfl, rfl, rfl, rfl⟩
 case round =>
 obtain ⟨-, rfl, rfl, rfl⟩ := hrel
 go_wp2_with fail
 go_ret
 exact ⟨rfl, zJ1 Hb2⟩
def tailA (A : Option Addr) (c : Nat) : Option Addr := if c = 1 then A else A.map (·.add 1)
theorem run_tail {P : Program} {t e : TypeId} (ht : P.underlying t = some (.slice e)) (he : (P.info? e).map (·.size) = some 1) (A : Option Addr) (n c : Nat) (w : World) :
  (Instr.slice t (.slice A (n + 1) c) (some (.int .i64 1)) none none).run P w = .ok (.slice (tailA A c) n (c - 1)) w := by
 have hel : P.elem t = e := by simp [Program.elem, ht]
 have hs : (sizeOf e).run P w = .ok 1 w := by
  cases hi : P.info? e with
  | none => simp [hi] at he
  | some i => simp [hi] at he; simp [sizeOf, typeInfo, hi, he]
 rw [run_slice_l w t A (n + 1) c (by rw [hel]; exact ht) .i64 1 (by omega) (by omega), hel, hs]
 simp only [Result.andThen_ok]
 unfold sliced tailA
 have e1 : (1 : Int).toNat = 1 := rfl
 rw [e1]
 simp
theorem Rd.tail {w : World} {B n c : Nat} {A : Option Addr} {x : Value} {xs : List Value} (h : Rd w B 1 A (n + 1) (x :: xs)) (hc : n + 1 <= c) : Rd w B 1 (tailA A c) n xs := by
 have hl := h.1
 simp only [List.length_cons] at hl
 refine ⟨by omega, ?_⟩
 by_cases h0 : xs = []
 ·exact .inl h0
 ·obtain ⟨b, off, rfl, hb, hcl⟩ := h.open_ (by simp)
  have h1 : 0 < xs.length := List.length_pos_iff.2 h0
  refine .inr ⟨b, off + 1, ?_, hb, fun j u hu => ?_⟩
  ·unfold tailA
   rw [if_neg (by omega)]
   rfl
  ·have := hcl (j + 1) u (by simpa using hu)
   rwa [show off + 1 + j = off + (j + 1) by omega]
theorem xJk {P : Program} {e : TypeId} (he : (P.info? e).map (·.size) = some 1) (w : World) : (sizeOf e).run P w = .ok 1 w := by
 cases hi : P.info? e with
 | none => simp [hi] at he
 | some i => simp [hi] at he; simp [sizeOf, typeInfo, hi, he]
def fromA (A : Option Addr) (c k : Nat) : Option Addr := if c = k then A else A.map (·.add k)
theorem run_from {P : Program} {t e : TypeId} (ht : P.underlying t = some (.slice e)) (he : (P.info? e).map (·.size) = some 1) (A : Option Addr) (n c k : Nat) (hk : k <= n) (w : World) :
  (Instr.slice t (.slice A n c) (some (.int .i64 (k : Nat))) none none).run P w = .ok (.slice (fromA A c k) (n - k) (c - k)) w := by
 have hel : P.elem t = e := by simp [Program.elem, ht]
 rw [run_slice_l w t A n c (by rw [hel]; exact ht) .i64 (k : Nat) (by omega) (by omega), hel, xJk he]
 simp only [Result.andThen_ok, Int.toNat_natCast]
 unfold sliced fromA
 simp
theorem run_to {P : Program} {t e : TypeId} (ht : P.underlying t = some (.slice e)) (he : (P.info? e).map (·.size) = some 1) (A : Option Addr) (n c k : Nat) (hk : k <= c) (w : World) :
  (Instr.slice t (.slice A n c) none (some (.int .i64 (k : Nat))) none).run P w = .ok (.slice A k c) w := by
 have hel : P.elem t = e := by simp [Program.elem, ht]
 rw [run_slice_h w t A n c (by rw [hel]; exact ht) .i64 (k : Nat) (by omega) (by omega), hel, xJk he]
 simp only [Result.andThen_ok, Int.toNat_natCast]
 unfold sliced
 have h0 : ∀ A : Option Addr, A.map (·.add (0 * 1)) = A := by
  intro A
  cases A with
  | none => rfl
  | some a => cases a; rfl
 rw [h0]
 simp
theorem Rd.from_ {w : World} {B n c k : Nat} {A : Option Addr} {xs : List Value} (h : Rd w B 1 A n xs) (hk : k <= n) (hc : n <= c) : Rd w B 1 (fromA A c k) (n - k) (xs.drop k) := by
 have hl := h.1
 refine ⟨by rw [List.length_drop]; omega, ?_⟩
 by_cases h0 : xs.drop k = []
 ·exact .inl h0
 ·have h1 : 0 < (xs.drop k).length := List.length_pos_iff.2 h0
  rw [List.length_drop] at h1
  obtain ⟨b, off, rfl, hb, hcl⟩ := h.open_ (by rintro rfl; simp at h1)
  refine .inr ⟨b, off + k, ?_, hb, fun j u hu => ?_⟩
  ·unfold fromA
   rw [if_neg (by omega), Option.map_some, Addr.add_lit]
  ·rw [List.getElem?_drop] at hu
   have := hcl (k + j) u hu
   rwa [show off + k + j = off + (k + j) by omega]
theorem Rd.to_ {w : World} {B n k : Nat} {A : Option Addr} {xs : List Value} (h : Rd w B 1 A n xs) (hk : k <= n) : Rd w B 1 A k (xs.take k) := by
 have hl := h.1
 refine ⟨by rw [List.length_take]; omega, ?_⟩
 rcases h.2 with h0 | ⟨b, off, e, hb, hc⟩
 ·exact .inl (by rw [h0]; simp)
 ·refine .inr ⟨b, off, e, hb, fun j u hu => hc j u ?_⟩
  rw [List.getElem?_take] at hu
  split at hu
  ·exact hu
  ·cases hu
theorem yJp {P : Program} {t e : TypeId} (ht : P.underlying t = some (.slice e)) (he : (P.info? e).map (·.size) = some 1) (κ : IntKind) (A : Option Addr) (n c k : Nat) (hk : k <= n) (w : World) :
  (Instr.slice t (.slice A n c) (some (.int κ (k : Nat))) none none).run P w = .ok (.slice (fromA A c k) (n - k) (c - k)) w := by
 have hel : P.elem t = e := by simp [Program.elem, ht]
 rw [run_slice_l w t A n c (by rw [hel]; exact ht) κ (k : Nat) (by omega) (by omega), hel, xJk he]
 simp only [Result.andThen_ok, Int.toNat_natCast]
 unfold sliced fromA
 simp
theorem vJ1 {P : Program} {t e : TypeId} (ht : P.underlying t = some (.slice e)) (he : (P.info? e).map (·.size) = some 1) (κ κ2 : IntKind) (A : Option Addr) (n c k j : Nat) (hk : k <= j) (hj : j <= c) (w : World) :
  (Instr.slice t (.slice A n c) (some (.int κ (k : Nat))) (some (.int κ2 (j : Nat))) none).run P w = .ok (.slice (fromA A c k) (j - k) (c - k)) w := by
 have hel : P.elem t = e := by simp [Program.elem, ht]
 rw [run_slice_lh w t A n c (by rw [hel]; exact ht) κ κ2 (k : Nat) (j : Nat) (by omega) (by omega) (by omega), hel, xJk he]
 simp only [Result.andThen_ok, Int.toNat_natCast]
 unfold sliced fromA
 simp
theorem run_toK {P : Program} {t e : TypeId} (ht : P.underlying t = some (.slice e)) (he : (P.info? e).map (·.size) = some 1) (κ : IntKind) (A : Option Addr) (n c k : Nat) (hk : k <= c) (w : World) :
  (Instr.slice t (.slice A n c) none (some (.int κ (k : Nat))) none).run P w = .ok (.slice A k c) w := by
 have hel : P.elem t = e := by simp [Program.elem, ht]
 rw [run_slice_h w t A n c (by rw [hel]; exact ht) κ (k : Nat) (by omega) (by omega), hel, xJk he]
 simp only [Result.andThen_ok, Int.toNat_natCast]
 unfold sliced
 have h0 : ∀ A : Option Addr, A.map (·.add (0 * 1)) = A := by
  intro A
  cases A with
  | none => rfl
  | some a => cases a; rfl
 rw [h0]
 simp
theorem Rd.cut {w : World} {B n c k j : Nat} {A : Option Addr} {xs : List Value} (h : Rd w B 1 A n xs) (hk : k <= j) (hj : j <= n) (hc : n <= c) : Rd w B 1 (fromA A c k) (j - k) ((xs.drop k).take (j - k)) :=
 ((h.from_ (k := k) (by omega) hc).to_ (k := j - k) (by omega))
theorem Rd.sub {w : World} {B n : Nat} {b1 o1 : Nat} {xs : List Value} (h : Rd w B 1 (some ⟨b1, o1, none⟩) n xs) {off k : Nat} (hk : off + k <= n) : Rd w B 1 (some ⟨b1, o1 + off, none⟩) k ((xs.drop off).take k) := by
 have hl := h.len1
 refine ⟨by simp; omega, ?_⟩
 rcases h.2 with h0 | ⟨b, o, e, hb, hc⟩
 ·exact .inl (by simp [h0])
 ·obtain ⟨rfl, rfl⟩ : b1 = b /\ o1 = o := by injection e with e; injection e with h1 h2 h3; exact ⟨h1, h2⟩
  refine .inr ⟨b1, o1 + off, rfl, hb, fun j u hu => ?_⟩
  by_cases hj : j < k
  ·rw [List.getElem?_take_of_lt hj, List.getElem?_drop] at hu
   rw [Nat.add_assoc]
   exact hc _ _ hu
  ·rw [List.getElem?_take_eq_none (by omega)] at hu
   cases hu
theorem conv_any {P : Program} {w : World} {B n c : Nat} {A : Option Addr} {l : List UInt8} {src dst e : TypeId} (h : Rd w B 1 A n (bys l)) (hs : P.underlying src = some (.slice e)) (he : P.underlying e = some (.int .u8)) (hd : P.underlying dst = some .string) :
  (convert src dst (.slice A n c)).run P w = .ok (.string ⟨l.toArray⟩) w := by
 have hl : l.length = n := by simpa [bys] using h.len1
 subst hl
 cases A with
 | none =>
  have h0 : l = [] := by
   rcases h.2 with h0 | ⟨b, o, e1, _⟩
   ·simpa [bys] using h0
   ·cases e1
  subst h0
  exact run_convert_bytes_nil w src e hs he _ c dst hd
 | some ad =>
  refine run_convert_bytes_back w src dst e ad c l hs he hd fun j hj => ?_
  obtain ⟨b, o, e1, _, hc⟩ := h.at_ (k := j) (u := .int .u8 (l[j].toNat : Nat)) (bys_at (List.getElem?_eq_getElem hj))
  injection e1 with e1
  subst e1
  rw [Addr.add_lit]
  exact hc
theorem Rd.from {w : World} {B n : Nat} {b1 o1 k : Nat} {l : List UInt8} (h : Rd w B 1 (some ⟨b1, o1, none⟩) n (bys l)) (hk : k <= n) : Rd w B 1 (some ⟨b1, o1 + k, none⟩) (n - k) (bys (l.drop k)) := by
 have hl : l.length = n := by simpa [bys] using h.len1
 have h1 := h.sub (off := k) (k := n - k) (by omega)
 have e : ((bys l).drop k).take (n - k) = bys (l.drop k) := by
  unfold bys
  rw [<- List.map_drop, <- List.map_take, List.take_of_length_le (by simp; omega)]
 rwa [e] at h1
theorem bytesOf_ints (b : List UInt8) : Lib.bytesOf (b.map fun c => ((c.toNat : Nat) : Int)) = b := by
 unfold Lib.bytesOf
 rw [List.map_map]
 have : ((fun n : Int => UInt8.ofNat n.toNat) ∘ fun c : UInt8 => ((c.toNat : Nat) : Int)) = id := by
  funext c
  simp
 rw [this, List.map_id]
namespace Dy
def nz (c : UInt8) : Bool := c != 0
theorem idx_some {l : List UInt8} {k : Nat} (h : Lib.indexByte l 0 = (k : Int)) : l.contains 0 = true /\ l.takeWhile nz = l.take k /\ k < l.length := by
 obtain ⟨h1, h2⟩ := Lib.indexByte_some h
 have hk := (List.getElem?_eq_some_iff.1 h1).1
 refine ⟨?_, ?_, hk⟩
 ·rw [List.contains_iff_mem]; exact List.mem_of_getElem? h1
 ·clear h
  induction l generalizing k with
  | nil => simp at hk
  | cons x r ih =>
   cases k with
   | zero =>
    obtain rfl : x = 0 := by simpa using h1
    rw [List.takeWhile_cons_of_neg (by decide)]; rfl
   | succ k =>
    have hx : x ≠ 0 := by have := h2 0 (by omega); simpa using this
    rw [List.takeWhile_cons_of_pos (by unfold nz; simpa using hx), List.take_succ_cons, ih (by simpa using h1) (fun j hj => by have := h2 (j + 1) (by omega); simpa using this) (by simpa using hk)]
theorem idx_none {l : List UInt8} (h : Lib.indexByte l 0 < 0) : l.contains 0 = false := by
 have hge := Lib.indexByte_ge l 0
 have h2 := Lib.indexByte_none (show Lib.indexByte l 0 = -1 by omega)
 rw [Bool.eq_false_iff]
 intro hc
 rw [List.contains_iff_mem] at hc
 obtain ⟨k, hk⟩ := List.getElem?_of_mem hc
 exact h2 k hk
theorem text_eq (t : List UInt8) (p : Nat) : text t p = if t.length <= p then none else if (t.drop p).contains 0 = true then some ⟨((t.drop p).takeWhile nz).toArray⟩ else none := rfl
end Dy
theorem dcut_any (b1 o1 n c d p2 B : Nat) (l : List UInt8) (w : World) (hr : Rd w B 1 (some ⟨b1, o1, none⟩) n (bys l)) (hz : w.cell? ⟨p2, 0, none⟩ = some (.int .u8 0)) (hnc : n <= c) (hn : n <= 4294967296) (hpos : 0 < n) :
  Calls Tryz.prog 147 #[.slice (some ⟨b1, o1, none⟩) n c, .slice (some ⟨p2, 0, none⟩) 1 d] w fun e w' => e = .returned (Lib.cutV (some ⟨b1, o1, none⟩) n c 1 (Lib.indexByte l 0)) /\ ∃ q, w' = w.drewN q := by
 have hl : l.length = n := by simpa [bys] using hr.len1
 have hi := Tryz.bytes_Index_one b1 o1 n c p2 0 d (l.map fun c => ((c.toNat : Nat) : Int)) 0 w (by simpa using hl) (fun i hi => by
  obtain ⟨b, o, e, _, hc⟩ := hr.at_ (k := i) (u := .int .u8 ((l[i]'(by omega)).toNat : Nat)) (bys_at (List.getElem?_eq_getElem (by omega)))
  injection e with e
  injection e with e1 e2
  subst e1 e2
  rw [hc]
  simp [List.getD_eq_getElem?_getD, List.getElem?_eq_getElem (show i < l.length by omega)]) hz
 rw [bytesOf_ints] at hi
 have h0 : (0 : Int).toNat.toUInt8 = 0 := rfl
 rw [h0] at hi
 refine Tryz.bytes_Cut_of (some ⟨b1, o1, none⟩) (some ⟨p2, 0, none⟩) n c 1 d (Lib.indexByte l 0) w hnc (Lib.indexByte_ge l 0) (fun h => ?_) (by omega) (hi.mono fun e w' ⟨a, b⟩ => ⟨a, 0, by rw [b]; rfl⟩)
 obtain ⟨k, hk⟩ := Int.eq_ofNat_of_zero_le h
 have := (List.getElem?_eq_some_iff.1 (Lib.indexByte_some hk).1).1
 omega
def TextE (t : Option ByteArray) (w : World) (e : Ending) (w' : World) : Prop :=
 ∃ s b, e = .returned (.tuple #[.string s, .bool b]) /\ ((b = true /\ t = some s) \/ (b = false /\ t = none)) /\ Below w.heap.size w w'
set_option maxRecDepth 100000 in
set_option maxHeartbeats 1000000 in
theorem text_any (A : Option Addr) (m c B : Nat) (t : List UInt8) (p : Nat) (w : World) (hB : B <= w.heap.size) (hb : Rd w B 1 A m (bys t)) (hm : m <= 4294967296) (hmc : m <= c) (hp : p < 18446744073709551616) :
  Calls Tryz.prog 95 #[.slice A m c, .int .u64 p] w (TextE (Dy.text t p) w) := by
 have htl : t.length = m := by simpa [bys] using hb.len1
 rw [Dy.text_eq, htl]
 by_cases hpm : m <= p
 ·rw [if_pos hpm]
  have g1 : (p : Int) ≥ (m : Int) := by omega
  have g2 : decide (m <= p) = true := by simpa using hpm
  clear hb htl
  go_enter Tryz.func95, Tryz.ntmps95
  go_wp2_with fail
  go_ret2
  exact ⟨_, _, rfl, .inr ⟨rfl, rfl⟩, Below.refl _ _⟩
 rw [if_neg hpm]
 obtain ⟨tx, htx⟩ : ∃ tx, (if (t.drop p).contains 0 = true then some (⟨((t.drop p).takeWhile Dy.nz).toArray⟩ : ByteArray) else none) = tx := ⟨_, rfl⟩
 rw [htx]
 have g2 : decide (m <= p) = false := by simpa using hpm
 have kf := fun w' => yJp (P := Tryz.prog) Tryz.underlying64 (e := 5) (by kernel_rfl) .u64 A m c p (by omega) w'
 have hr := hb.from_ (k := p) (by omega) hmc
 have hdr : (bys t).drop p = bys (t.drop p) := by unfold bys; rw [List.map_drop]
 rw [hdr] at hr
 obtain ⟨b1, o1, hA, _, _⟩ := hr.open_ (by intro e; have := hr.len1; rw [e] at this; simp at this; omega)
 rw [hA] at kf hr
 obtain ⟨l, hl⟩ : ∃ l, t.drop p = l := ⟨_, rfl⟩
 rw [hl] at hr htx
 obtain ⟨W, hW⟩ : ∃ W, w.alloc (.cells #[.int .u8 0] 5) = W := ⟨_, rfl⟩
 have hrW : Rd W B 1 (some ⟨b1, o1, none⟩) (m - p) (bys l) := by rw [<- hW]; exact hr.alloc hB _
 have hz : W.cell? ⟨w.heap.size, 0, none⟩ = some (.int .u8 0) := by rw [<- hW]; exact World.cell?_alloc_mark w #[.int .u8 0] 5 (0, 0) 0
 have hbel : Below w.heap.size w W := by rw [<- hW]; exact (Below.refl _ _).alloc (Nat.le_refl _) _
 have K := dcut_any b1 o1 (m - p) (c - p) 1 w.heap.size B l W hrW hz (by omega) (by omega) (by omega)
 have hll : l.length = m - p := by simpa [bys] using hrW.len1
 have H2 : ∀ (k : Nat), Lib.indexByte l 0 = (k : Int) -> tx = some ⟨(l.take k).toArray⟩ /\ k < l.length := fun k h => by
  obtain ⟨a1, a2, a3⟩ := Dy.idx_some h
  rw [<- htx, if_pos a1, a2]
  exact ⟨rfl, a3⟩
 have H3 : Lib.indexByte l 0 < 0 -> tx = none := fun h => by rw [<- htx, if_neg (by rw [Dy.idx_none h]; decide)]
 obtain ⟨ix, hix⟩ : ∃ i, Lib.indexByte l 0 = i := ⟨_, rfl⟩
 rw [hix] at K H2 H3
 have HK := zJ2 K
 have HrW := zJ2 hrW
 have HH2 := zJ2 H2
 have HH3 := zJ2 H3
 have Hbel := zJ2 hbel
 have Hll := zJ2 hll
 clear K hr hrW hz hA hdr hl hix H2 H3 hb htl hll hpm hbel htx
 go_enter Tryz.func95, Tryz.ntmps95
 go_wp2_with fail
 refine (zJ1 HK).mono ?_
 rintro e w2 ⟨rfl, q, rfl⟩
 unfold Lib.cutV
 by_cases hi : 0 <= ix
 ·obtain ⟨k, rfl⟩ := Int.eq_ofNat_of_zero_le hi
  obtain ⟨htx, hkl⟩ := (zJ1 HH2) k rfl
  subst htx
  rw [if_pos hi]
  have hl2 := ((zJ1 HrW).to_ (k := k) (by have := zJ1 Hll; omega)).drewN q
  have e2 : (bys l).take k = bys (l.take k) := by unfold bys; rw [List.map_take]
  rw [e2] at hl2
  have hcv := fun (c' : Nat) => conv_any (c := c') hl2 Tryz.underlying64 Tryz.underlying5 Tryz.underlying9
  obtain ⟨x, hx⟩ : ∃ x, Lib.fromV (some ⟨b1, o1, none⟩) (m - p) (c - p) ((k : Int).toNat + 1) = x := ⟨_, rfl⟩
  rw [hx, Int.toNat_natCast]
  have Hb2 := zJ2 (below_drewN' (zJ1 Hbel) q)
  generalize l.take k = lk at *
  clear hx hl2 e2 HH2 HH3 hi HK HrW
  go_wp2_with fail
  go_ret2
  exact ⟨_, _, rfl, .inl ⟨rfl, rfl⟩, zJ1 Hb2⟩
 ·have htx := (zJ1 HH3) (by omega)
  subst htx
  rw [if_neg hi]
  have hcv := fun (c' : Nat) => conv_any (c := c') ((zJ1 HrW).drewN q) Tryz.underlying64 Tryz.underlying5 Tryz.underlying9
  have Hb2 := zJ2 (below_drewN' (zJ1 Hbel) q)
  clear HH2 HH3 hi HK HrW
  go_wp2_with fail
  go_ret2
  exact ⟨_, _, rfl, .inr ⟨rfl, rfl⟩, zJ1 Hb2⟩
open Go.RowKit
theorem down_any (a : Int) (w : World) (h0 : 0 <= a) (h1 : a <= 18446744073709551615) :
  Calls Tryz.prog 136 #[.int .u64 a] w fun e w' => e = .returned (.int .u64 (a - a % 4096)) /\ w = w' := by
 have hb := zJ2 (Wd.andNot_page a h0 h1)
 go_enter Tryz.func136, Tryz.ntmps136
 go_wp2
 go_ret
 exact ⟨ret_int (zJ1 hb), rfl⟩
theorem up_yes (a : Int) (w : World) (h0 : 0 <= a) (h : a + 4095 <= 18446744073709551615) :
  Calls Tryz.prog 86 #[.int .u64 a] w fun e w' => e = .returned (.tuple #[.int .u64 (a + 4095 - (a + 4095) % 4096), .bool true]) /\ w = w' := by
 go_enter Tryz.func86, Tryz.ntmps86
 go_wp2_with (first
  | (go_at_call 135; refine (add_yes _ _ _ h0 (by omega) h).mono ?_; rintro e w' ⟨rfl, rfl⟩)
  | (go_at_call 136; refine (down_any _ _ (by omega) (by omega)).mono ?_; rintro e w' ⟨rfl, rfl⟩))
 go_ret2
 exact ⟨rfl, rfl⟩
abbrev u8s (b : List UInt8) : List Value := b.map fun c => .int .u8 c.toNat
theorem uJc {w : World} {B n : Nat} {A : Option Addr} {b : List UInt8} (h : Rd w B 1 A n (u8s b)) : Lib.BytesIn w A n (b.map fun c => ((c.toNat : Nat) : Int)) := by
 intro hn
 have hl : b.length = n := by simpa using h.len1
 obtain ⟨b1, o1, e, _, hc⟩ := h.open_ (by intro e; rw [List.map_eq_nil_iff] at e; subst e; simp at hl; omega)
 refine ⟨b1, o1, e, fun i hi => hc i _ ?_⟩
 have hi' : i < b.length := by omega
 simp [List.getElem?_eq_getElem hi', List.getD_eq_getElem?_getD]
theorem bytesOf_map (b : List UInt8) : Lib.bytesOf (b.map fun c => ((c.toNat : Nat) : Int)) = b := by
 unfold Lib.bytesOf
 rw [List.map_map]
 have : ((fun n : Int => UInt8.ofNat n.toNat) ∘ fun c : UInt8 => ((c.toNat : Nat) : Int)) = id := by
  funext c
  simp
 rw [this, List.map_id]
abbrev wrongs (e : Int) : Ending := .panicked [{ v := .iface 178 (.int .i64 e), recovered := false }]
theorem zJ4 (e : Int) (w : World) : Calls Tryz.prog 83 #[.bool true, .int .i64 e] w fun r w' => r = .returned (.tuple #[]) /\ w = w' := by
 go_enter Tryz.func83, Tryz.ntmps83
 go_wp2
 go_end0
 exact ⟨rfl, rfl⟩
theorem zJ9 (e : Int) (w : World) : Calls Tryz.prog 83 #[.bool false, .int .i64 e] w fun r w' => r = wrongs e /\ w = w' := by
 go_enter Tryz.func83, Tryz.ntmps83
 go_wp2
 exact ⟨rfl, rfl, rfl⟩
theorem xJ1 (A : Option Addr) (m c : Nat) (B : Nat) (b : List UInt8) (p s : Nat) (w : World) (hB : B <= w.heap.size) (hb : Rd w B 1 A m (u8s b)) (hm : m <= maxLen) (hs : s = 1 \/ s = 2 \/ s = 4 \/ s = 8) (hin : p + s <= m) :
  Calls Tryz.prog 82 #[.slice A m c, .int .u64 p, .int .i64 s] w fun e w' => e = .returned (.int .u64 (Wd.num b p s)) /\ Below w.heap.size w w' := by
 have hg := get_yes A m c B b p s w hB hb hm hs hin
 have Hg := zJ2 hg
 clear hg hb hs hin
 go_enter Tryz.func82, Tryz.ntmps82
 go_wp2_with (first
  | (go_at_call 134; refine (zJ1 Hg).mono ?_; rintro e w1 ⟨rfl, hb1⟩)
  | (go_at_call 83; refine (zJ4 _ _).mono ?_; rintro e w2 ⟨rfl, rfl⟩))
 go_ret
 exact ⟨rfl, hb1⟩
theorem magic_row (w : World) (fz : Nat × Nat) : Rd (w.alloc (.cells #[.int .u8 127, .int .u8 69, .int .u8 76, .int .u8 70, .int .u8 2, .int .u8 1, .int .u8 1] 5 fz)) (w.heap.size + 1) 1 (some ⟨w.heap.size, 0, none⟩) 7 (u8s El.magic) := Rd.rowF (size := 1) (n := 7) rfl
theorem uJ4 (A A2 : Option Addr) (m c d B B2 : Nat) (b : List UInt8) (W : World) (hmc : m <= c) (h1 : Rd W B 1 A m (u8s b)) (h2 : Rd W B2 1 A2 7 (u8s El.magic)) :
  Calls Tryz.prog 133 #[.slice A m c, .slice A2 7 d] W fun e w' => e = .returned (.bool (Lib.hasPrefix b El.magic)) /\ W = w' := by
 have h := Tryz.bytes_HasPrefix_all A A2 m c 7 d _ _ W (by simpa using h1.len1) rfl hmc (uJc h1) (uJc h2)
 rw [bytesOf_map, bytesOf_map] at h
 exact vJu h
set_option maxHeartbeats 60000000 in
theorem zJq (A : Option Addr) (m c : Nat) (B : Nat) (b : List UInt8) (w : World) (hB : B <= w.heap.size) (hb : Rd w B 1 A m (u8s b)) (hm : m <= maxLen) (hmc : m <= c)
  (hq : ((64 <= m) /\ (Lib.hasPrefix b El.magic = true) /\ (Wd.num b 16 2 = 2) /\ (Wd.num b 18 2 ≠ 62))
  \/ ((64 <= m) /\ (Lib.hasPrefix b El.magic = true) /\ (Wd.num b 16 2 = 2) /\ (Wd.num b 18 2 = 62) /\ (Wd.num b 20 4 ≠ 1))
  \/ ((64 <= m) /\ (Lib.hasPrefix b El.magic = true) /\ (Wd.num b 16 2 = 2) /\ (Wd.num b 18 2 = 62) /\ (Wd.num b 20 4 = 1) /\ (Wd.num b 54 2 ≠ 56))
  \/ ((64 <= m) /\ (Lib.hasPrefix b El.magic = true) /\ (Wd.num b 16 2 = 2) /\ (Wd.num b 18 2 = 62) /\ (Wd.num b 20 4 = 1) /\ (Wd.num b 54 2 = 56) /\ (¬ 0 < Wd.num b 56 2))
  \/ ((64 <= m) /\ (Lib.hasPrefix b El.magic = true) /\ (Wd.num b 16 2 = 2) /\ (Wd.num b 18 2 = 62) /\ (Wd.num b 20 4 = 1) /\ (Wd.num b 54 2 = 56) /\ (0 < Wd.num b 56 2) /\ (¬ Wd.num b 56 2 <= 8))
  \/ ((64 <= m) /\ (Lib.hasPrefix b El.magic = true) /\ (Wd.num b 16 2 = 3) /\ (Wd.num b 18 2 ≠ 62))
  \/ ((64 <= m) /\ (Lib.hasPrefix b El.magic = true) /\ (Wd.num b 16 2 = 3) /\ (Wd.num b 18 2 = 62) /\ (Wd.num b 20 4 ≠ 1))
  \/ ((64 <= m) /\ (Lib.hasPrefix b El.magic = true) /\ (Wd.num b 16 2 = 3) /\ (Wd.num b 18 2 = 62) /\ (Wd.num b 20 4 = 1) /\ (Wd.num b 54 2 ≠ 56))
  \/ ((64 <= m) /\ (Lib.hasPrefix b El.magic = true) /\ (Wd.num b 16 2 = 3) /\ (Wd.num b 18 2 = 62) /\ (Wd.num b 20 4 = 1) /\ (Wd.num b 54 2 = 56) /\ (¬ 0 < Wd.num b 56 2))
  \/ ((64 <= m) /\ (Lib.hasPrefix b El.magic = true) /\ (Wd.num b 16 2 = 3) /\ (Wd.num b 18 2 = 62) /\ (Wd.num b 20 4 = 1) /\ (Wd.num b 54 2 = 56) /\ (0 < Wd.num b 56 2) /\ (¬ Wd.num b 56 2 <= 8))
  \/ ((64 <= m) /\ (Lib.hasPrefix b El.magic = true) /\ (Wd.num b 16 2 ≠ 2) /\ (Wd.num b 16 2 ≠ 3))
  \/ ((64 <= m) /\ (Lib.hasPrefix b El.magic = false))) :
  Calls Tryz.prog 81 #[.slice A m c] w fun e w' => e = wrongs 13 /\ Below w.heap.size w w' := by
 have hbl : b.length = m := by simpa using hb.len1
 have G1 := zJ2 (fun (w' : World) (h : Below w.heap.size w w') => xJ1 A m c B b 16 2 w' (Nat.le_trans hB h.size) ((hb).below (h.mono hB)) hm (by omega) (by omega))
 have G2 := zJ2 (fun (w' : World) (h : Below w.heap.size w w') => xJ1 A m c B b 56 2 w' (Nat.le_trans hB h.size) ((hb).below (h.mono hB)) hm (by omega) (by omega))
 have G3 := zJ2 (fun (w' : World) (h : Below w.heap.size w w') => xJ1 A m c B b 18 2 w' (Nat.le_trans hB h.size) ((hb).below (h.mono hB)) hm (by omega) (by omega))
 have G4 := zJ2 (fun (w' : World) (h : Below w.heap.size w w') => xJ1 A m c B b 20 4 w' (Nat.le_trans hB h.size) ((hb).below (h.mono hB)) hm (by omega) (by omega))
 have G5 := zJ2 (fun (w' : World) (h : Below w.heap.size w w') => xJ1 A m c B b 54 2 w' (Nat.le_trans hB h.size) ((hb).below (h.mono hB)) hm (by omega) (by omega))
 have kc := fun (w : World) (C : Array Value) (n c : Nat) => Lib.run_convert_bytes_const (P := Tryz.prog) w 64 5 C n c Tryz.underlying64 Tryz.underlying5
 have hl16 : Wd.num b 16 2 < 65536 := Wd.num_lt b 16 2
 generalize Wd.num b 16 2 = n16 at *
 generalize Wd.num b 56 2 = n56 at *
 generalize Wd.num b 18 2 = n18 at *
 generalize Wd.num b 20 4 = n20 at *
 generalize Wd.num b 54 2 = n54 at *
 have Hb := zJ2 hb
 clear hb hbl
 rcases hq with ⟨h64, h2, h3, h4⟩ | ⟨h64, h2, h3, h4, h5⟩ | ⟨h64, h2, h3, h4, h5, h6⟩ | ⟨h64, h2, h3, h4, h5, h6, h7⟩ | ⟨h64, h2, h3, h4, h5, h6, h7, h8⟩ | ⟨h64, h2, h3, h4⟩ | ⟨h64, h2, h3, h4, h5⟩ | ⟨h64, h2, h3, h4, h5, h6⟩ | ⟨h64, h2, h3, h4, h5, h6, h7⟩ | ⟨h64, h2, h3, h4, h5, h6, h7, h8⟩ | ⟨h64, h2, h3, h3'⟩ | ⟨h64, h2⟩
 have i64 : (64 : Int) <= (m : Int) := by omega
 have H2 := zJ2 h2
 clear h2
 have e162 : (((n16 : Nat) : Int) == 2) = true := by simp; omega
 have e1862 : (((n18 : Nat) : Int) == 62) = false := by simp; omega
 clear h3 h4
 rotate_left
 have i64 : (64 : Int) <= (m : Int) := by omega
 have H2 := zJ2 h2
 clear h2
 have e162 : (((n16 : Nat) : Int) == 2) = true := by simp; omega
 have e1862 : (((n18 : Nat) : Int) == 62) = true := by simp; omega
 have e201 : (((n20 : Nat) : Int) == 1) = false := by simp; omega
 clear h3 h4 h5
 rotate_left
 have i64 : (64 : Int) <= (m : Int) := by omega
 have H2 := zJ2 h2
 clear h2
 have e162 : (((n16 : Nat) : Int) == 2) = true := by simp; omega
 have e1862 : (((n18 : Nat) : Int) == 62) = true := by simp; omega
 have e201 : (((n20 : Nat) : Int) == 1) = true := by simp; omega
 have e5456 : (((n54 : Nat) : Int) == 56) = false := by simp; omega
 clear h3 h4 h5 h6
 rotate_left
 have i64 : (64 : Int) <= (m : Int) := by omega
 have H2 := zJ2 h2
 clear h2
 have e162 : (((n16 : Nat) : Int) == 2) = true := by simp; omega
 have e1862 : (((n18 : Nat) : Int) == 62) = true := by simp; omega
 have e201 : (((n20 : Nat) : Int) == 1) = true := by simp; omega
 have e5456 : (((n54 : Nat) : Int) == 56) = true := by simp; omega
 have i7 : ¬ (0 : Int) < ((n56 : Nat) : Int) := by omega
 clear h3 h4 h5 h6 h7
 rotate_left
 have i64 : (64 : Int) <= (m : Int) := by omega
 have H2 := zJ2 h2
 clear h2
 have e162 : (((n16 : Nat) : Int) == 2) = true := by simp; omega
 have e1862 : (((n18 : Nat) : Int) == 62) = true := by simp; omega
 have e201 : (((n20 : Nat) : Int) == 1) = true := by simp; omega
 have e5456 : (((n54 : Nat) : Int) == 56) = true := by simp; omega
 have i7 : (0 : Int) < ((n56 : Nat) : Int) := by omega
 have i8 : decide (((n56 : Nat) : Int) <= 8) = false := by simp; omega
 clear h3 h4 h5 h6 h7 h8
 rotate_left
 have i64 : (64 : Int) <= (m : Int) := by omega
 have H2 := zJ2 h2
 clear h2
 have e162 : (((n16 : Nat) : Int) == 2) = false := by simp; omega
 have e163 : (((n16 : Nat) : Int) == 3) = true := by simp; omega
 have e1862 : (((n18 : Nat) : Int) == 62) = false := by simp; omega
 clear h3 h4
 rotate_left
 have i64 : (64 : Int) <= (m : Int) := by omega
 have H2 := zJ2 h2
 clear h2
 have e162 : (((n16 : Nat) : Int) == 2) = false := by simp; omega
 have e163 : (((n16 : Nat) : Int) == 3) = true := by simp; omega
 have e1862 : (((n18 : Nat) : Int) == 62) = true := by simp; omega
 have e201 : (((n20 : Nat) : Int) == 1) = false := by simp; omega
 clear h3 h4 h5
 rotate_left
 have i64 : (64 : Int) <= (m : Int) := by omega
 have H2 := zJ2 h2
 clear h2
 have e162 : (((n16 : Nat) : Int) == 2) = false := by simp; omega
 have e163 : (((n16 : Nat) : Int) == 3) = true := by simp; omega
 have e1862 : (((n18 : Nat) : Int) == 62) = true := by simp; omega
 have e201 : (((n20 : Nat) : Int) == 1) = true := by simp; omega
 have e5456 : (((n54 : Nat) : Int) == 56) = false := by simp; omega
 clear h3 h4 h5 h6
 rotate_left
 have i64 : (64 : Int) <= (m : Int) := by omega
 have H2 := zJ2 h2
 clear h2
 have e162 : (((n16 : Nat) : Int) == 2) = false := by simp; omega
 have e163 : (((n16 : Nat) : Int) == 3) = true := by simp; omega
 have e1862 : (((n18 : Nat) : Int) == 62) = true := by simp; omega
 have e201 : (((n20 : Nat) : Int) == 1) = true := by simp; omega
 have e5456 : (((n54 : Nat) : Int) == 56) = true := by simp; omega
 have i7 : ¬ (0 : Int) < ((n56 : Nat) : Int) := by omega
 clear h3 h4 h5 h6 h7
 rotate_left
 have i64 : (64 : Int) <= (m : Int) := by omega
 have H2 := zJ2 h2
 clear h2
 have e162 : (((n16 : Nat) : Int) == 2) = false := by simp; omega
 have e163 : (((n16 : Nat) : Int) == 3) = true := by simp; omega
 have e1862 : (((n18 : Nat) : Int) == 62) = true := by simp; omega
 have e201 : (((n20 : Nat) : Int) == 1) = true := by simp; omega
 have e5456 : (((n54 : Nat) : Int) == 56) = true := by simp; omega
 have i7 : (0 : Int) < ((n56 : Nat) : Int) := by omega
 have i8 : decide (((n56 : Nat) : Int) <= 8) = false := by simp; omega
 clear h3 h4 h5 h6 h7 h8
 rotate_left
 have i64 : (64 : Int) <= (m : Int) := by omega
 have H2 := zJ2 h2
 clear h2
 have e162 : (((n16 : Nat) : Int) == 2) = false := by simp; omega
 have e163 : (((n16 : Nat) : Int) == 3) = false := by simp; omega
 clear h3 h3'
 rotate_left
 have i64 : (64 : Int) <= (m : Int) := by omega
 have H2 := zJ2 h2
 clear h2
 rotate_left
 all_goals (
  go_enter Tryz.func81, Tryz.ntmps81
  go_wp2_with (first
   | (go_at_call 133; refine (uJ4 _ _ _ _ _ _ _ b _ hmc (((zJ1 Hb).more hB).alloc (Nat.le_refl _) _) (magic_row _ _)).mono ?_; rintro e w0 ⟨rfl, rfl⟩; rw [zJ1 H2]; have HB := zJ2 ((Below.refl w.heap.size w).alloc (Nat.le_refl _) (.cells #[.int .u8 127, .int .u8 69, .int .u8 76, .int .u8 70, .int .u8 2, .int .u8 1, .int .u8 1] 5 (7, 8))))
   | (go_at_call_of 82 (Value.int IntKind.u64 16); refine ((zJ1 G1) _ (zJ1 HB)).mono ?_; rintro e w1 ⟨rfl, hx⟩; replace HB := zJ2 ((zJ1 HB).trans (hx.mono (zJ1 HB).size)); clear hx)
   | (go_at_call_of 82 (Value.int IntKind.u64 56); refine ((zJ1 G2) _ (zJ1 HB)).mono ?_; rintro e w1 ⟨rfl, hx⟩; replace HB := zJ2 ((zJ1 HB).trans (hx.mono (zJ1 HB).size)); clear hx)
   | (go_at_call_of 82 (Value.int IntKind.u64 18); refine ((zJ1 G3) _ (zJ1 HB)).mono ?_; rintro e w1 ⟨rfl, hx⟩; replace HB := zJ2 ((zJ1 HB).trans (hx.mono (zJ1 HB).size)); clear hx)
   | (go_at_call_of 82 (Value.int IntKind.u64 20); refine ((zJ1 G4) _ (zJ1 HB)).mono ?_; rintro e w1 ⟨rfl, hx⟩; replace HB := zJ2 ((zJ1 HB).trans (hx.mono (zJ1 HB).size)); clear hx)
   | (go_at_call_of 82 (Value.int IntKind.u64 54); refine ((zJ1 G5) _ (zJ1 HB)).mono ?_; rintro e w1 ⟨rfl, hx⟩; replace HB := zJ2 ((zJ1 HB).trans (hx.mono (zJ1 HB).size)); clear hx)
   | (go_at_call_of 83 (Value.bool true); refine (zJ4 _ _).mono ?_; rintro e w1 ⟨rfl, rfl⟩)
   | (go_at_call_of 83 (Value.bool false); refine (zJ9 _ _).mono ?_; rintro e w1 ⟨rfl, rfl⟩))
  exact ⟨rfl, rfl, zJ1 HB⟩)
set_option maxHeartbeats 60000000 in
theorem uJ9 (A : Option Addr) (m c : Nat) (B : Nat) (b : List UInt8) (w : World) (hB : B <= w.heap.size) (hb : Rd w B 1 A m (u8s b)) (hm : m <= maxLen) (hmc : m <= c)
  (hq : ((64 <= m) /\ (Lib.hasPrefix b El.magic = true) /\ (Wd.num b 16 2 = 2) /\ (Wd.num b 18 2 = 62) /\ (Wd.num b 20 4 = 1) /\ (Wd.num b 54 2 = 56) /\ (0 < Wd.num b 56 2) /\ (Wd.num b 56 2 <= 8))
  \/ ((64 <= m) /\ (Lib.hasPrefix b El.magic = true) /\ (Wd.num b 16 2 = 3) /\ (Wd.num b 18 2 = 62) /\ (Wd.num b 20 4 = 1) /\ (Wd.num b 54 2 = 56) /\ (0 < Wd.num b 56 2) /\ (Wd.num b 56 2 <= 8))) :
  Calls Tryz.prog 81 #[.slice A m c] w fun e w' => e = .returned (.int .u64 (Wd.num b 56 2)) /\ Below w.heap.size w w' := by
 have hbl : b.length = m := by simpa using hb.len1
 have G1 := zJ2 (fun (w' : World) (h : Below w.heap.size w w') => xJ1 A m c B b 16 2 w' (Nat.le_trans hB h.size) ((hb).below (h.mono hB)) hm (by omega) (by omega))
 have G2 := zJ2 (fun (w' : World) (h : Below w.heap.size w w') => xJ1 A m c B b 56 2 w' (Nat.le_trans hB h.size) ((hb).below (h.mono hB)) hm (by omega) (by omega))
 have G3 := zJ2 (fun (w' : World) (h : Below w.heap.size w w') => xJ1 A m c B b 18 2 w' (Nat.le_trans hB h.size) ((hb).below (h.mono hB)) hm (by omega) (by omega))
 have G4 := zJ2 (fun (w' : World) (h : Below w.heap.size w w') => xJ1 A m c B b 20 4 w' (Nat.le_trans hB h.size) ((hb).below (h.mono hB)) hm (by omega) (by omega))
 have G5 := zJ2 (fun (w' : World) (h : Below w.heap.size w w') => xJ1 A m c B b 54 2 w' (Nat.le_trans hB h.size) ((hb).below (h.mono hB)) hm (by omega) (by omega))
 have kc := fun (w : World) (C : Array Value) (n c : Nat) => Lib.run_convert_bytes_const (P := Tryz.prog) w 64 5 C n c Tryz.underlying64 Tryz.underlying5
 have hl16 : Wd.num b 16 2 < 65536 := Wd.num_lt b 16 2
 generalize Wd.num b 16 2 = n16 at *
 generalize Wd.num b 56 2 = n56 at *
 generalize Wd.num b 18 2 = n18 at *
 generalize Wd.num b 20 4 = n20 at *
 generalize Wd.num b 54 2 = n54 at *
 have Hb := zJ2 hb
 clear hb hbl
 rcases hq with ⟨h64, h2, h3, h4, h5, h6, h7, h8⟩ | ⟨h64, h2, h3, h4, h5, h6, h7, h8⟩
 have i64 : (64 : Int) <= (m : Int) := by omega
 have H2 := zJ2 h2
 clear h2
 have e162 : (((n16 : Nat) : Int) == 2) = true := by simp; omega
 have e1862 : (((n18 : Nat) : Int) == 62) = true := by simp; omega
 have e201 : (((n20 : Nat) : Int) == 1) = true := by simp; omega
 have e5456 : (((n54 : Nat) : Int) == 56) = true := by simp; omega
 have i7 : (0 : Int) < ((n56 : Nat) : Int) := by omega
 have i8 : ((n56 : Nat) : Int) <= 8 := by omega
 clear h3 h4 h5 h6 h7 h8
 rotate_left
 have i64 : (64 : Int) <= (m : Int) := by omega
 have H2 := zJ2 h2
 clear h2
 have e162 : (((n16 : Nat) : Int) == 2) = false := by simp; omega
 have e163 : (((n16 : Nat) : Int) == 3) = true := by simp; omega
 have e1862 : (((n18 : Nat) : Int) == 62) = true := by simp; omega
 have e201 : (((n20 : Nat) : Int) == 1) = true := by simp; omega
 have e5456 : (((n54 : Nat) : Int) == 56) = true := by simp; omega
 have i7 : (0 : Int) < ((n56 : Nat) : Int) := by omega
 have i8 : ((n56 : Nat) : Int) <= 8 := by omega
 clear h3 h4 h5 h6 h7 h8
 rotate_left
 all_goals (
  go_enter Tryz.func81, Tryz.ntmps81
  go_wp2_with (first
   | (go_at_call 133; refine (uJ4 _ _ _ _ _ _ _ b _ hmc (((zJ1 Hb).more hB).alloc (Nat.le_refl _) _) (magic_row _ _)).mono ?_; rintro e w0 ⟨rfl, rfl⟩; rw [zJ1 H2]; have HB := zJ2 ((Below.refl w.heap.size w).alloc (Nat.le_refl _) (.cells #[.int .u8 127, .int .u8 69, .int .u8 76, .int .u8 70, .int .u8 2, .int .u8 1, .int .u8 1] 5 (7, 8))))
   | (go_at_call_of 82 (Value.int IntKind.u64 16); refine ((zJ1 G1) _ (zJ1 HB)).mono ?_; rintro e w1 ⟨rfl, hx⟩; replace HB := zJ2 ((zJ1 HB).trans (hx.mono (zJ1 HB).size)); clear hx)
   | (go_at_call_of 82 (Value.int IntKind.u64 56); refine ((zJ1 G2) _ (zJ1 HB)).mono ?_; rintro e w1 ⟨rfl, hx⟩; replace HB := zJ2 ((zJ1 HB).trans (hx.mono (zJ1 HB).size)); clear hx)
   | (go_at_call_of 82 (Value.int IntKind.u64 18); refine ((zJ1 G3) _ (zJ1 HB)).mono ?_; rintro e w1 ⟨rfl, hx⟩; replace HB := zJ2 ((zJ1 HB).trans (hx.mono (zJ1 HB).size)); clear hx)
   | (go_at_call_of 82 (Value.int IntKind.u64 20); refine ((zJ1 G4) _ (zJ1 HB)).mono ?_; rintro e w1 ⟨rfl, hx⟩; replace HB := zJ2 ((zJ1 HB).trans (hx.mono (zJ1 HB).size)); clear hx)
   | (go_at_call_of 82 (Value.int IntKind.u64 54); refine ((zJ1 G5) _ (zJ1 HB)).mono ?_; rintro e w1 ⟨rfl, hx⟩; replace HB := zJ2 ((zJ1 HB).trans (hx.mono (zJ1 HB).size)); clear hx)
   | (go_at_call_of 83 (Value.bool true); refine (zJ4 _ _).mono ?_; rintro e w1 ⟨rfl, rfl⟩)
   | (go_at_call_of 83 (Value.bool false); refine (zJ9 _ _).mono ?_; rintro e w1 ⟨rfl, rfl⟩))
  go_ret
  exact ⟨rfl, zJ1 HB⟩)
theorem header_bs (A : Option Addr) (m c : Nat) (B : Nat) (b : List UInt8) (w : World) (hB : B <= w.heap.size) (hb : Rd w B 1 A m (u8s b)) (hm : m <= maxLen) (hmc : m <= c) (h64 : ¬ 64 <= m) :
  Calls Tryz.prog 81 #[.slice A m c] w fun e w' => e = wrongs 13 /\ Below w.heap.size w w' := by
 have i64 : ¬ (64 : Int) <= (m : Int) := by omega
 unfold maxLen at hm
 go_enter Tryz.func81, Tryz.ntmps81
 go_wp2_with (go_at_call_of 83 (Value.bool false); refine (zJ9 _ _).mono ?_; rintro e w1 ⟨rfl, rfl⟩)
 exact ⟨rfl, rfl, Below.refl _ _⟩
theorem header_ok (A : Option Addr) (m c : Nat) (B : Nat) (b : List UInt8) (w : World) (hB : B <= w.heap.size) (hb : Rd w B 1 A m (u8s b)) (hm : m <= maxLen) (hmc : m <= c) (h : El.hdrOk b = true) :
  Calls Tryz.prog 81 #[.slice A m c] w fun e w' => e = .returned (.int .u64 (Wd.num b 56 2)) /\ Below w.heap.size w w' := by
 have hbl : b.length = m := by simpa using hb.len1
 unfold El.hdrOk at h
 simp only [Bool.and_eq_true, Bool.or_eq_true, beq_iff_eq, decide_eq_true_eq] at h
 obtain ⟨⟨⟨⟨h1, h2⟩, h3⟩, ⟨h4, h5⟩, h6⟩, h7, h8⟩ := h
 have h64 : 64 <= m := by omega
 rcases h3 with h3 | h3
 ·exact uJ9 A m c B b w hB hb hm hmc (.inl ⟨h64, h2, h3, h4, h5, h6, h7, h8⟩)
 ·exact uJ9 A m c B b w hB hb hm hmc (.inr ⟨h64, h2, h3, h4, h5, h6, h7, h8⟩)
theorem header_bad (A : Option Addr) (m c : Nat) (B : Nat) (b : List UInt8) (w : World) (hB : B <= w.heap.size) (hb : Rd w B 1 A m (u8s b)) (hm : m <= maxLen) (hmc : m <= c) (h : El.hdrOk b = false) :
  Calls Tryz.prog 81 #[.slice A m c] w fun e w' => e = wrongs 13 /\ Below w.heap.size w w' := by
 have hbl : b.length = m := by simpa using hb.len1
 by_cases h1 : 64 <= m
 ·by_cases h2 : Lib.hasPrefix b El.magic = true
  ·by_cases h3 : Wd.num b 16 2 = 2 \/ Wd.num b 16 2 = 3
   ·by_cases h4 : Wd.num b 18 2 = 62
    ·by_cases h5 : Wd.num b 20 4 = 1
     ·by_cases h6 : Wd.num b 54 2 = 56
      ·by_cases h7 : 0 < Wd.num b 56 2
       ·by_cases h8 : Wd.num b 56 2 <= 8
        ·exfalso
         have : El.hdrOk b = true := by
          unfold El.hdrOk
          simp only [Bool.and_eq_true, Bool.or_eq_true, beq_iff_eq, decide_eq_true_eq]
          exact ⟨⟨⟨⟨by omega, h2⟩, h3⟩, ⟨h4, h5⟩, h6⟩, h7, h8⟩
         rw [this] at h
         cases h
        ·rcases h3 with h3 | h3
         ·exact zJq A m c B b w hB hb hm hmc (.inr (.inr (.inr (.inr (.inl ⟨h1, h2, h3, h4, h5, h6, h7, h8⟩)))))
         ·exact zJq A m c B b w hB hb hm hmc (.inr (.inr (.inr (.inr (.inr (.inr (.inr (.inr (.inr (.inl ⟨h1, h2, h3, h4, h5, h6, h7, h8⟩))))))))))
       ·rcases h3 with h3 | h3
        ·exact zJq A m c B b w hB hb hm hmc (.inr (.inr (.inr (.inl ⟨h1, h2, h3, h4, h5, h6, h7⟩))))
        ·exact zJq A m c B b w hB hb hm hmc (.inr (.inr (.inr (.inr (.inr (.inr (.inr (.inr (.inl ⟨h1, h2, h3, h4, h5, h6, h7⟩)))))))))
      ·rcases h3 with h3 | h3
       ·exact zJq A m c B b w hB hb hm hmc (.inr (.inr (.inl ⟨h1, h2, h3, h4, h5, h6⟩)))
       ·exact zJq A m c B b w hB hb hm hmc (.inr (.inr (.inr (.inr (.inr (.inr (.inr (.inl ⟨h1, h2, h3, h4, h5, h6⟩))))))))
     ·rcases h3 with h3 | h3
      ·exact zJq A m c B b w hB hb hm hmc (.inr (.inl ⟨h1, h2, h3, h4, h5⟩))
      ·exact zJq A m c B b w hB hb hm hmc (.inr (.inr (.inr (.inr (.inr (.inr (.inl ⟨h1, h2, h3, h4, h5⟩)))))))
    ·rcases h3 with h3 | h3
     ·exact zJq A m c B b w hB hb hm hmc (.inl ⟨h1, h2, h3, h4⟩)
     ·exact zJq A m c B b w hB hb hm hmc (.inr (.inr (.inr (.inr (.inr (.inl ⟨h1, h2, h3, h4⟩))))))
   ·rw [not_or] at h3
    exact zJq A m c B b w hB hb hm hmc (.inr (.inr (.inr (.inr (.inr (.inr (.inr (.inr (.inr (.inr (.inl ⟨h1, h2, h3.1, h3.2⟩)))))))))))
  ·exact zJq A m c B b w hB hb hm hmc (.inr (.inr (.inr (.inr (.inr (.inr (.inr (.inr (.inr (.inr (.inr ⟨h1, (by simpa using h2)⟩)))))))))))
 ·exact header_bs A m c B b w hB hb hm hmc h1
def segVal (s : El.Sg) : Value := .agg #[.int .u32 s.kind, .int .u8 s.flags, .int .u64 s.off, .int .u64 s.addr, .int .u64 s.fsz, .int .u64 s.msz]
theorem uJj : (Tryz.prog.info? 58).map (·.size) = some 6 := by kernel_rfl
theorem segOne (k fl o a f z : Int) : (#[.int .u32 k, .int .u8 fl, .int .u64 o, .int .u64 a, .int .u64 f, .int .u64 z] : Array Value).all (·.oneCell') = true := by simp [Value.oneCell']
theorem zJz (A : Option Addr) (m c : Nat) (B : Nat) (b : List UInt8) (p o s : Nat) (oi si : Int) (ho : (o : Int) = oi) (hsi : (s : Int) = si) (w : World) (hB : B <= w.heap.size) (hb : Rd w B 1 A m (u8s b)) (hm : m <= maxLen) (hs : s = 1 \/ s = 2 \/ s = 4 \/ s = 8) (hin : p + o + s <= m) :
  Calls Tryz.prog 82 #[.slice A m c, .int .u64 ((p : Int) + oi), .int .i64 si] w fun e w' => e = .returned (.int .u64 (Wd.num b (p + o) s)) /\ Below w.heap.size w w' := by
 subst ho
 subst hsi
 have h := xJ1 A m c B b (p + o) s w hB hb hm hs hin
 rwa [show (((p + o : Nat)) : Int) = (p : Int) + (o : Int) from by omega] at h
theorem xJw (A : Option Addr) (m c : Nat) (B : Nat) (b : List UInt8) (p s : Nat) (si : Int) (hsi : (s : Int) = si) (w : World) (hB : B <= w.heap.size) (hb : Rd w B 1 A m (u8s b)) (hm : m <= maxLen) (hs : s = 1 \/ s = 2 \/ s = 4 \/ s = 8) (hin : p + s <= m) :
  Calls Tryz.prog 82 #[.slice A m c, .int .u64 (p : Int), .int .i64 si] w fun e w' => e = .returned (.int .u64 (Wd.num b p s)) /\ Below w.heap.size w w' := by
 subst hsi
 exact xJ1 A m c B b p s w hB hb hm hs hin
set_option maxHeartbeats 60000000 in
theorem yJ1 (A : Option Addr) (m c : Nat) (B : Nat) (b : List UInt8) (p ty : Nat) (w : World) (hB : B <= w.heap.size) (hb : Rd w B 1 A m (u8s b)) (hm : m <= maxLen) (hin : p + 56 <= m) (hp : p <= 4294967296) (hty : ty < 65536)
  (hq : ((¬ Wd.num b (p + 4) 4 <= 7))
  \/ ((Wd.num b (p + 4) 4 <= 7) /\ (¬ Wd.num b (p + 32) 8 <= Wd.num b (p + 40) 8))
  \/ ((Wd.num b (p + 4) 4 <= 7) /\ (Wd.num b (p + 32) 8 <= Wd.num b (p + 40) 8) /\ (¬ Wd.num b (p + 8) 8 + Wd.num b (p + 32) 8 <= m))
  \/ ((Wd.num b (p + 4) 4 <= 7) /\ (Wd.num b (p + 32) 8 <= Wd.num b (p + 40) 8) /\ (Wd.num b (p + 8) 8 + Wd.num b (p + 32) 8 <= m) /\ (ty = 3) /\ (Wd.num b p 4 = 1) /\ (¬ Wd.num b (p + 16) 8 + Wd.num b (p + 40) 8 <= 4294967296))
  \/ ((Wd.num b (p + 4) 4 <= 7) /\ (Wd.num b (p + 32) 8 <= Wd.num b (p + 40) 8) /\ (Wd.num b (p + 8) 8 + Wd.num b (p + 32) 8 <= m) /\ (ty = 3) /\ (Wd.num b p 4 = 1) /\ (Wd.num b (p + 16) 8 + Wd.num b (p + 40) 8 <= 4294967296) /\ (¬ Wd.num b (p + 48) 8 = 4096))
  \/ ((Wd.num b (p + 4) 4 <= 7) /\ (Wd.num b (p + 32) 8 <= Wd.num b (p + 40) 8) /\ (Wd.num b (p + 8) 8 + Wd.num b (p + 32) 8 <= m) /\ (ty = 3) /\ (Wd.num b p 4 = 1) /\ (Wd.num b (p + 16) 8 + Wd.num b (p + 40) 8 <= 4294967296) /\ (Wd.num b (p + 48) 8 = 4096) /\ (¬ Wd.num b (p + 8) 8 % 4096 = Wd.num b (p + 16) 8 % 4096))
  \/ ((Wd.num b (p + 4) 4 <= 7) /\ (Wd.num b (p + 32) 8 <= Wd.num b (p + 40) 8) /\ (Wd.num b (p + 8) 8 + Wd.num b (p + 32) 8 <= m) /\ (ty = 3) /\ (Wd.num b p 4 = 1) /\ (Wd.num b (p + 16) 8 + Wd.num b (p + 40) 8 <= 4294967296) /\ (Wd.num b (p + 48) 8 = 4096) /\ (Wd.num b (p + 8) 8 % 4096 = Wd.num b (p + 16) 8 % 4096) /\ (¬ 0 < Wd.num b (p + 40) 8))
  \/ ((Wd.num b (p + 4) 4 <= 7) /\ (Wd.num b (p + 32) 8 <= Wd.num b (p + 40) 8) /\ (Wd.num b (p + 8) 8 + Wd.num b (p + 32) 8 <= m) /\ (ty = 3) /\ (Wd.num b p 4 = 2) /\ (¬ Wd.num b (p + 16) 8 + Wd.num b (p + 40) 8 <= 4294967296))
  \/ ((Wd.num b (p + 4) 4 <= 7) /\ (Wd.num b (p + 32) 8 <= Wd.num b (p + 40) 8) /\ (Wd.num b (p + 8) 8 + Wd.num b (p + 32) 8 <= m) /\ (ty = 3) /\ (Wd.num b p 4 = 3) /\ (¬ Wd.num b (p + 16) 8 + Wd.num b (p + 40) 8 <= 4294967296))
  \/ ((Wd.num b (p + 4) 4 <= 7) /\ (Wd.num b (p + 32) 8 <= Wd.num b (p + 40) 8) /\ (Wd.num b (p + 8) 8 + Wd.num b (p + 32) 8 <= m) /\ (ty = 3) /\ (Wd.num b p 4 = 6) /\ (¬ Wd.num b (p + 16) 8 + Wd.num b (p + 40) 8 <= 4294967296))
  \/ ((Wd.num b (p + 4) 4 <= 7) /\ (Wd.num b (p + 32) 8 <= Wd.num b (p + 40) 8) /\ (Wd.num b (p + 8) 8 + Wd.num b (p + 32) 8 <= m) /\ (¬ ty = 3) /\ (Wd.num b p 4 = 1) /\ (¬ Wd.num b (p + 16) 8 + Wd.num b (p + 40) 8 <= 140737488355328))
  \/ ((Wd.num b (p + 4) 4 <= 7) /\ (Wd.num b (p + 32) 8 <= Wd.num b (p + 40) 8) /\ (Wd.num b (p + 8) 8 + Wd.num b (p + 32) 8 <= m) /\ (¬ ty = 3) /\ (Wd.num b p 4 = 1) /\ (Wd.num b (p + 16) 8 + Wd.num b (p + 40) 8 <= 140737488355328) /\ (¬ Wd.num b (p + 48) 8 = 4096))
  \/ ((Wd.num b (p + 4) 4 <= 7) /\ (Wd.num b (p + 32) 8 <= Wd.num b (p + 40) 8) /\ (Wd.num b (p + 8) 8 + Wd.num b (p + 32) 8 <= m) /\ (¬ ty = 3) /\ (Wd.num b p 4 = 1) /\ (Wd.num b (p + 16) 8 + Wd.num b (p + 40) 8 <= 140737488355328) /\ (Wd.num b (p + 48) 8 = 4096) /\ (¬ Wd.num b (p + 8) 8 % 4096 = Wd.num b (p + 16) 8 % 4096))) :
  Calls Tryz.prog 85 #[.slice A m c, .int .u64 p, .int .u16 ty] w fun e w' => e = wrongs 25 /\ Below w.heap.size w w' := by
 have hbl : b.length = m := by simpa using hb.len1
 have G0 := zJ2 (fun (w' : World) (h : Below w.heap.size w w') => xJw A m c B b p 4 4 rfl w' (Nat.le_trans hB h.size) ((hb).below (h.mono hB)) hm (by omega) (by omega))
 have G1 := zJ2 (fun (w' : World) (h : Below w.heap.size w w') => zJz A m c B b p 4 4 4 4 rfl rfl w' (Nat.le_trans hB h.size) ((hb).below (h.mono hB)) hm (by omega) (by omega))
 have G2 := zJ2 (fun (w' : World) (h : Below w.heap.size w w') => zJz A m c B b p 8 8 8 8 rfl rfl w' (Nat.le_trans hB h.size) ((hb).below (h.mono hB)) hm (by omega) (by omega))
 have G3 := zJ2 (fun (w' : World) (h : Below w.heap.size w w') => zJz A m c B b p 16 8 16 8 rfl rfl w' (Nat.le_trans hB h.size) ((hb).below (h.mono hB)) hm (by omega) (by omega))
 have G4 := zJ2 (fun (w' : World) (h : Below w.heap.size w w') => zJz A m c B b p 32 8 32 8 rfl rfl w' (Nat.le_trans hB h.size) ((hb).below (h.mono hB)) hm (by omega) (by omega))
 have G5 := zJ2 (fun (w' : World) (h : Below w.heap.size w w') => zJz A m c B b p 40 8 40 8 rfl rfl w' (Nat.le_trans hB h.size) ((hb).below (h.mono hB)) hm (by omega) (by omega))
 have G6 := zJ2 (fun (w' : World) (h : Below w.heap.size w w') => zJz A m c B b p 48 8 48 8 rfl rfl w' (Nat.le_trans hB h.size) ((hb).below (h.mono hB)) hm (by omega) (by omega))
 have l0 : Wd.num b p 4 < 4294967296 := Wd.num_lt _ _ _
 have l1 : Wd.num b (p + 4) 4 < 4294967296 := Wd.num_lt _ _ _
 have l2 : Wd.num b (p + 8) 8 < 18446744073709551616 := Wd.num_lt _ _ _
 have l3 : Wd.num b (p + 16) 8 < 18446744073709551616 := Wd.num_lt _ _ _
 have l4 : Wd.num b (p + 32) 8 < 18446744073709551616 := Wd.num_lt _ _ _
 have l5 : Wd.num b (p + 40) 8 < 18446744073709551616 := Wd.num_lt _ _ _
 have l6 : Wd.num b (p + 48) 8 < 18446744073709551616 := Wd.num_lt _ _ _
 generalize Wd.num b p 4 = k at *
 generalize Wd.num b (p + 4) 4 = fl at *
 generalize Wd.num b (p + 8) 8 = o at *
 generalize Wd.num b (p + 16) 8 = a at *
 generalize Wd.num b (p + 32) 8 = f at *
 generalize Wd.num b (p + 40) 8 = z at *
 generalize Wd.num b (p + 48) 8 = al at *
 unfold maxLen at hm
 clear hb hbl
 have HB := zJ2 (Below.refl (w.alloc (.cells #[.int .u32 0, .int .u8 0, .int .u64 0, .int .u64 0, .int .u64 0, .int .u64 0] 58)).heap.size (w.alloc (.cells #[.int .u32 0, .int .u8 0, .int .u64 0, .int .u64 0, .int .u64 0, .int .u64 0] 58)))
 rcases hq with h1 | ⟨h1, h2⟩ | ⟨h1, h2, h3⟩ | ⟨h1, h2, h3, h4, h5, h6⟩ | ⟨h1, h2, h3, h4, h5, h6, h7⟩ | ⟨h1, h2, h3, h4, h5, h6, h7, h8⟩ | ⟨h1, h2, h3, h4, h5, h6, h7, h8, h9⟩ | ⟨h1, h2, h3, h4, h5, h6⟩ | ⟨h1, h2, h3, h4, h5, h6⟩ | ⟨h1, h2, h3, h4, h5, h6⟩ | ⟨h1, h2, h3, h4, h5, h6⟩ | ⟨h1, h2, h3, h4, h5, h6, h7⟩ | ⟨h1, h2, h3, h4, h5, h6, h7, h8⟩
 have i1 : decide (((fl : Nat) : Int) <= 7) = false := by simp; omega
 rotate_left
 have i1 : ((fl : Nat) : Int) <= 7 := by omega
 have i2 : decide (f <= z) = false := by simp; omega
 rotate_left
 have i1 : ((fl : Nat) : Int) <= 7 := by omega
 have i2 : ((f : Nat) : Int) <= ((z : Nat) : Int) := by omega
 have i3 : decide (((o : Nat) : Int) + ((f : Nat) : Int) <= ((m : Nat) : Int)) = false := by simp; omega
 rotate_left
 have i1 : ((fl : Nat) : Int) <= 7 := by omega
 have i2 : ((f : Nat) : Int) <= ((z : Nat) : Int) := by omega
 have i3 : decide (((o : Nat) : Int) + ((f : Nat) : Int) <= ((m : Nat) : Int)) = true := by simp; omega
 have ety3 : (((ty : Nat) : Int) == 3) = true := by simp; omega
 have ek1 : (((k : Nat) : Int) == 1) = true := by simp; omega
 have i6 : decide (((a : Nat) : Int) + ((z : Nat) : Int) <= 4294967296) = false := by simp; omega
 clear h5 h4
 rotate_left
 have i1 : ((fl : Nat) : Int) <= 7 := by omega
 have i2 : ((f : Nat) : Int) <= ((z : Nat) : Int) := by omega
 have i3 : decide (((o : Nat) : Int) + ((f : Nat) : Int) <= ((m : Nat) : Int)) = true := by simp; omega
 have ety3 : (((ty : Nat) : Int) == 3) = true := by simp; omega
 have ek1 : (((k : Nat) : Int) == 1) = true := by simp; omega
 have i6 : decide (((a : Nat) : Int) + ((z : Nat) : Int) <= 4294967296) = true := by simp; omega
 have eal4096 : (((al : Nat) : Int) == 4096) = false := by simp; omega
 clear h5 h4 h7
 rotate_left
 have i1 : ((fl : Nat) : Int) <= 7 := by omega
 have i2 : ((f : Nat) : Int) <= ((z : Nat) : Int) := by omega
 have i3 : decide (((o : Nat) : Int) + ((f : Nat) : Int) <= ((m : Nat) : Int)) = true := by simp; omega
 have ety3 : (((ty : Nat) : Int) == 3) = true := by simp; omega
 have ek1 : (((k : Nat) : Int) == 1) = true := by simp; omega
 have i6 : decide (((a : Nat) : Int) + ((z : Nat) : Int) <= 4294967296) = true := by simp; omega
 have eal4096 : (((al : Nat) : Int) == 4096) = true := by simp; omega
 have i8 : (((IntKind.u64.wrap (((o : Nat) : Int) - ((a : Nat) : Int))).tmod 4096) == 0) = false := by rw [IntKind.wrap_u64, Int.tmod_eq_emod_of_nonneg (by omega)]; simp; omega
 clear h5 h4 h7 h8
 rotate_left
 have i1 : ((fl : Nat) : Int) <= 7 := by omega
 have i2 : ((f : Nat) : Int) <= ((z : Nat) : Int) := by omega
 have i3 : decide (((o : Nat) : Int) + ((f : Nat) : Int) <= ((m : Nat) : Int)) = true := by simp; omega
 have ety3 : (((ty : Nat) : Int) == 3) = true := by simp; omega
 have ek1 : (((k : Nat) : Int) == 1) = true := by simp; omega
 have i6 : decide (((a : Nat) : Int) + ((z : Nat) : Int) <= 4294967296) = true := by simp; omega
 have eal4096 : (((al : Nat) : Int) == 4096) = true := by simp; omega
 have i8 : (((IntKind.u64.wrap (((o : Nat) : Int) - ((a : Nat) : Int))).tmod 4096) == 0) = true := by rw [IntKind.wrap_u64, Int.tmod_eq_emod_of_nonneg (by omega)]; simp; omega
 have i9 : ¬ (0 : Int) < ((z : Nat) : Int) := by omega
 have i9' : decide (0 < z) = false := by simp; omega
 clear h5 h4 h7 h8
 rotate_left
 have i1 : ((fl : Nat) : Int) <= 7 := by omega
 have i2 : ((f : Nat) : Int) <= ((z : Nat) : Int) := by omega
 have i3 : decide (((o : Nat) : Int) + ((f : Nat) : Int) <= ((m : Nat) : Int)) = true := by simp; omega
 have ety3 : (((ty : Nat) : Int) == 3) = true := by simp; omega
 have ek1 : (((k : Nat) : Int) == 1) = false := by simp; omega
 have ek2 : (((k : Nat) : Int) == 2) = true := by simp; omega
 have i6 : decide (((a : Nat) : Int) + ((z : Nat) : Int) <= 4294967296) = false := by simp; omega
 clear h5 h4
 rotate_left
 have i1 : ((fl : Nat) : Int) <= 7 := by omega
 have i2 : ((f : Nat) : Int) <= ((z : Nat) : Int) := by omega
 have i3 : decide (((o : Nat) : Int) + ((f : Nat) : Int) <= ((m : Nat) : Int)) = true := by simp; omega
 have ety3 : (((ty : Nat) : Int) == 3) = true := by simp; omega
 have ek1 : (((k : Nat) : Int) == 1) = false := by simp; omega
 have ek2 : (((k : Nat) : Int) == 2) = false := by simp; omega
 have ek3 : (((k : Nat) : Int) == 3) = true := by simp; omega
 have i6 : decide (((a : Nat) : Int) + ((z : Nat) : Int) <= 4294967296) = false := by simp; omega
 clear h5 h4
 rotate_left
 have i1 : ((fl : Nat) : Int) <= 7 := by omega
 have i2 : ((f : Nat) : Int) <= ((z : Nat) : Int) := by omega
 have i3 : decide (((o : Nat) : Int) + ((f : Nat) : Int) <= ((m : Nat) : Int)) = true := by simp; omega
 have ety3 : (((ty : Nat) : Int) == 3) = true := by simp; omega
 have ek1 : (((k : Nat) : Int) == 1) = false := by simp; omega
 have ek2 : (((k : Nat) : Int) == 2) = false := by simp; omega
 have ek3 : (((k : Nat) : Int) == 3) = false := by simp; omega
 have ek6 : (((k : Nat) : Int) == 6) = true := by simp; omega
 have i6 : decide (((a : Nat) : Int) + ((z : Nat) : Int) <= 4294967296) = false := by simp; omega
 clear h5 h4
 rotate_left
 have i1 : ((fl : Nat) : Int) <= 7 := by omega
 have i2 : ((f : Nat) : Int) <= ((z : Nat) : Int) := by omega
 have i3 : decide (((o : Nat) : Int) + ((f : Nat) : Int) <= ((m : Nat) : Int)) = true := by simp; omega
 have ety3 : (((ty : Nat) : Int) == 3) = false := by simp; omega
 have ek1 : (((k : Nat) : Int) == 1) = true := by simp; omega
 have i6 : decide (((a : Nat) : Int) + ((z : Nat) : Int) <= 140737488355328) = false := by simp; omega
 clear h5 h4
 rotate_left
 have i1 : ((fl : Nat) : Int) <= 7 := by omega
 have i2 : ((f : Nat) : Int) <= ((z : Nat) : Int) := by omega
 have i3 : decide (((o : Nat) : Int) + ((f : Nat) : Int) <= ((m : Nat) : Int)) = true := by simp; omega
 have ety3 : (((ty : Nat) : Int) == 3) = false := by simp; omega
 have ek1 : (((k : Nat) : Int) == 1) = true := by simp; omega
 have i6 : decide (((a : Nat) : Int) + ((z : Nat) : Int) <= 140737488355328) = true := by simp; omega
 have eal4096 : (((al : Nat) : Int) == 4096) = false := by simp; omega
 clear h5 h4 h7
 rotate_left
 have i1 : ((fl : Nat) : Int) <= 7 := by omega
 have i2 : ((f : Nat) : Int) <= ((z : Nat) : Int) := by omega
 have i3 : decide (((o : Nat) : Int) + ((f : Nat) : Int) <= ((m : Nat) : Int)) = true := by simp; omega
 have ety3 : (((ty : Nat) : Int) == 3) = false := by simp; omega
 have ek1 : (((k : Nat) : Int) == 1) = true := by simp; omega
 have i6 : decide (((a : Nat) : Int) + ((z : Nat) : Int) <= 140737488355328) = true := by simp; omega
 have eal4096 : (((al : Nat) : Int) == 4096) = true := by simp; omega
 have i8 : (((IntKind.u64.wrap (((o : Nat) : Int) - ((a : Nat) : Int))).tmod 4096) == 0) = false := by rw [IntKind.wrap_u64, Int.tmod_eq_emod_of_nonneg (by omega)]; simp; omega
 clear h5 h4 h7 h8
 rotate_left
 all_goals (
  go_enter Tryz.func85, Tryz.ntmps85
  go_wp2_with (first
   | (go_at_call_of 82 (Value.int IntKind.u64 ((p : Nat) : Int)); refine ((zJ1 G0) _ (zJb (zJ1 HB))).mono ?_; rintro e w1 ⟨rfl, hx⟩; replace HB := zJ2 ((zJ1 HB).trans (hx.mono (zJ1 HB).size)); clear hx)
   | (go_at_call_of 82 (Value.int IntKind.u64 (@HAdd.hAdd Int Int Int instHAdd ((p : Nat) : Int) 4)); refine ((zJ1 G1) _ (zJb (zJ1 HB))).mono ?_; rintro e w1 ⟨rfl, hx⟩; replace HB := zJ2 ((zJ1 HB).trans (hx.mono (zJ1 HB).size)); clear hx)
   | (go_at_call_of 82 (Value.int IntKind.u64 (@HAdd.hAdd Int Int Int instHAdd ((p : Nat) : Int) 8)); refine ((zJ1 G2) _ (zJb (zJ1 HB))).mono ?_; rintro e w1 ⟨rfl, hx⟩; replace HB := zJ2 ((zJ1 HB).trans (hx.mono (zJ1 HB).size)); clear hx)
   | (go_at_call_of 82 (Value.int IntKind.u64 (@HAdd.hAdd Int Int Int instHAdd ((p : Nat) : Int) 16)); refine ((zJ1 G3) _ (zJb (zJ1 HB))).mono ?_; rintro e w1 ⟨rfl, hx⟩; replace HB := zJ2 ((zJ1 HB).trans (hx.mono (zJ1 HB).size)); clear hx)
   | (go_at_call_of 82 (Value.int IntKind.u64 (@HAdd.hAdd Int Int Int instHAdd ((p : Nat) : Int) 32)); refine ((zJ1 G4) _ (zJb (zJ1 HB))).mono ?_; rintro e w1 ⟨rfl, hx⟩; replace HB := zJ2 ((zJ1 HB).trans (hx.mono (zJ1 HB).size)); clear hx)
   | (go_at_call_of 82 (Value.int IntKind.u64 (@HAdd.hAdd Int Int Int instHAdd ((p : Nat) : Int) 40)); refine ((zJ1 G5) _ (zJb (zJ1 HB))).mono ?_; rintro e w1 ⟨rfl, hx⟩; replace HB := zJ2 ((zJ1 HB).trans (hx.mono (zJ1 HB).size)); clear hx; have hn := newblk (zJ1 HB); have hsz := lt_of_block hn; have Hn := zJ2 hn; clear hn)
   | (go_at_call_of 82 (Value.int IntKind.u64 (@HAdd.hAdd Int Int Int instHAdd ((p : Nat) : Int) 48)); refine ((zJ1 G6) _ (zJb (zJ1 HB))).mono ?_; rintro e w1 ⟨rfl, hx⟩; replace HB := zJ2 ((zJ1 HB).trans (hx.mono (zJ1 HB).size)); clear hx)
   | (go_at_call_of 83 (Value.bool true); refine (zJ4 _ _).mono ?_; rintro e w1 ⟨rfl, rfl⟩)
   | (go_at_call_of 83 (Value.bool false); refine (zJ9 _ _).mono ?_; rintro e w1 ⟨rfl, rfl⟩)
   | (go_at_call_of 84 (Value.int IntKind.u64 ((o : Nat) : Int)); refine (zJf _ _ _ _ (by omega) (by omega) (by omega) (by omega) (by omega)).mono ?_; rintro e w1 ⟨rfl, rfl⟩)
   | (go_at_call_of 84 (Value.int IntKind.u64 ((a : Nat) : Int)); refine (zJf _ _ _ _ (by omega) (by omega) (by omega) (by omega) (by omega)).mono ?_; rintro e w1 ⟨rfl, rfl⟩)
   | ((with_reducible refine (@id (wpList _ _ _ (Oper.mk none (Op.store 58 (.tmp 6) (.tmp 97)) _ _ _ none :: _) _ _) ?_)); refine wpList_store_row rfl 58 (.tmp 6) (.tmp 97) rfl w.heap.size #[.int .u32 k, .int .u8 fl, .int .u64 o, .int .u64 a, .int .u64 f, .int .u64 z] rfl rfl 58 _ ((Below.heap_alloc _ _ _ hsz).trans (zJ1 Hn)) uJj rfl (segOne _ _ _ _ _ _) ?_))
  refine ⟨rfl, rfl, ?_⟩
  go_grown
  all_goals first | exact zJb (zJ1 HB) | (have := (zJb (zJ1 HB)).size; simp; omega))
set_option maxHeartbeats 60000000 in
theorem uJi (A : Option Addr) (m c : Nat) (B : Nat) (b : List UInt8) (p ty : Nat) (w : World) (hB : B <= w.heap.size) (hb : Rd w B 1 A m (u8s b)) (hm : m <= maxLen) (hin : p + 56 <= m) (hp : p <= 4294967296) (hty : ty < 65536)
  (hq : ((Wd.num b (p + 4) 4 <= 7) /\ (Wd.num b (p + 32) 8 <= Wd.num b (p + 40) 8) /\ (Wd.num b (p + 8) 8 + Wd.num b (p + 32) 8 <= m) /\ (¬ ty = 3) /\ (Wd.num b p 4 = 1) /\ (Wd.num b (p + 16) 8 + Wd.num b (p + 40) 8 <= 140737488355328) /\ (Wd.num b (p + 48) 8 = 4096) /\ (Wd.num b (p + 8) 8 % 4096 = Wd.num b (p + 16) 8 % 4096) /\ (¬ 0 < Wd.num b (p + 40) 8))
  \/ ((Wd.num b (p + 4) 4 <= 7) /\ (Wd.num b (p + 32) 8 <= Wd.num b (p + 40) 8) /\ (Wd.num b (p + 8) 8 + Wd.num b (p + 32) 8 <= m) /\ (¬ ty = 3) /\ (Wd.num b p 4 = 2) /\ (¬ Wd.num b (p + 16) 8 + Wd.num b (p + 40) 8 <= 140737488355328))
  \/ ((Wd.num b (p + 4) 4 <= 7) /\ (Wd.num b (p + 32) 8 <= Wd.num b (p + 40) 8) /\ (Wd.num b (p + 8) 8 + Wd.num b (p + 32) 8 <= m) /\ (¬ ty = 3) /\ (Wd.num b p 4 = 3) /\ (¬ Wd.num b (p + 16) 8 + Wd.num b (p + 40) 8 <= 140737488355328))
  \/ ((Wd.num b (p + 4) 4 <= 7) /\ (Wd.num b (p + 32) 8 <= Wd.num b (p + 40) 8) /\ (Wd.num b (p + 8) 8 + Wd.num b (p + 32) 8 <= m) /\ (¬ ty = 3) /\ (Wd.num b p 4 = 6) /\ (¬ Wd.num b (p + 16) 8 + Wd.num b (p + 40) 8 <= 140737488355328))) :
  Calls Tryz.prog 85 #[.slice A m c, .int .u64 p, .int .u16 ty] w fun e w' => e = wrongs 25 /\ Below w.heap.size w w' := by
 have hbl : b.length = m := by simpa using hb.len1
 have G0 := zJ2 (fun (w' : World) (h : Below w.heap.size w w') => xJw A m c B b p 4 4 rfl w' (Nat.le_trans hB h.size) ((hb).below (h.mono hB)) hm (by omega) (by omega))
 have G1 := zJ2 (fun (w' : World) (h : Below w.heap.size w w') => zJz A m c B b p 4 4 4 4 rfl rfl w' (Nat.le_trans hB h.size) ((hb).below (h.mono hB)) hm (by omega) (by omega))
 have G2 := zJ2 (fun (w' : World) (h : Below w.heap.size w w') => zJz A m c B b p 8 8 8 8 rfl rfl w' (Nat.le_trans hB h.size) ((hb).below (h.mono hB)) hm (by omega) (by omega))
 have G3 := zJ2 (fun (w' : World) (h : Below w.heap.size w w') => zJz A m c B b p 16 8 16 8 rfl rfl w' (Nat.le_trans hB h.size) ((hb).below (h.mono hB)) hm (by omega) (by omega))
 have G4 := zJ2 (fun (w' : World) (h : Below w.heap.size w w') => zJz A m c B b p 32 8 32 8 rfl rfl w' (Nat.le_trans hB h.size) ((hb).below (h.mono hB)) hm (by omega) (by omega))
 have G5 := zJ2 (fun (w' : World) (h : Below w.heap.size w w') => zJz A m c B b p 40 8 40 8 rfl rfl w' (Nat.le_trans hB h.size) ((hb).below (h.mono hB)) hm (by omega) (by omega))
 have G6 := zJ2 (fun (w' : World) (h : Below w.heap.size w w') => zJz A m c B b p 48 8 48 8 rfl rfl w' (Nat.le_trans hB h.size) ((hb).below (h.mono hB)) hm (by omega) (by omega))
 have l0 : Wd.num b p 4 < 4294967296 := Wd.num_lt _ _ _
 have l1 : Wd.num b (p + 4) 4 < 4294967296 := Wd.num_lt _ _ _
 have l2 : Wd.num b (p + 8) 8 < 18446744073709551616 := Wd.num_lt _ _ _
 have l3 : Wd.num b (p + 16) 8 < 18446744073709551616 := Wd.num_lt _ _ _
 have l4 : Wd.num b (p + 32) 8 < 18446744073709551616 := Wd.num_lt _ _ _
 have l5 : Wd.num b (p + 40) 8 < 18446744073709551616 := Wd.num_lt _ _ _
 have l6 : Wd.num b (p + 48) 8 < 18446744073709551616 := Wd.num_lt _ _ _
 generalize Wd.num b p 4 = k at *
 generalize Wd.num b (p + 4) 4 = fl at *
 generalize Wd.num b (p + 8) 8 = o at *
 generalize Wd.num b (p + 16) 8 = a at *
 generalize Wd.num b (p + 32) 8 = f at *
 generalize Wd.num b (p + 40) 8 = z at *
 generalize Wd.num b (p + 48) 8 = al at *
 unfold maxLen at hm
 clear hb hbl
 have HB := zJ2 (Below.refl (w.alloc (.cells #[.int .u32 0, .int .u8 0, .int .u64 0, .int .u64 0, .int .u64 0, .int .u64 0] 58)).heap.size (w.alloc (.cells #[.int .u32 0, .int .u8 0, .int .u64 0, .int .u64 0, .int .u64 0, .int .u64 0] 58)))
 rcases hq with ⟨h1, h2, h3, h4, h5, h6, h7, h8, h9⟩ | ⟨h1, h2, h3, h4, h5, h6⟩ | ⟨h1, h2, h3, h4, h5, h6⟩ | ⟨h1, h2, h3, h4, h5, h6⟩
 have i1 : ((fl : Nat) : Int) <= 7 := by omega
 have i2 : ((f : Nat) : Int) <= ((z : Nat) : Int) := by omega
 have i3 : decide (((o : Nat) : Int) + ((f : Nat) : Int) <= ((m : Nat) : Int)) = true := by simp; omega
 have ety3 : (((ty : Nat) : Int) == 3) = false := by simp; omega
 have ek1 : (((k : Nat) : Int) == 1) = true := by simp; omega
 have i6 : decide (((a : Nat) : Int) + ((z : Nat) : Int) <= 140737488355328) = true := by simp; omega
 have eal4096 : (((al : Nat) : Int) == 4096) = true := by simp; omega
 have i8 : (((IntKind.u64.wrap (((o : Nat) : Int) - ((a : Nat) : Int))).tmod 4096) == 0) = true := by rw [IntKind.wrap_u64, Int.tmod_eq_emod_of_nonneg (by omega)]; simp; omega
 have i9 : ¬ (0 : Int) < ((z : Nat) : Int) := by omega
 have i9' : decide (0 < z) = false := by simp; omega
 clear h5 h4 h7 h8
 rotate_left
 have i1 : ((fl : Nat) : Int) <= 7 := by omega
 have i2 : ((f : Nat) : Int) <= ((z : Nat) : Int) := by omega
 have i3 : decide (((o : Nat) : Int) + ((f : Nat) : Int) <= ((m : Nat) : Int)) = true := by simp; omega
 have ety3 : (((ty : Nat) : Int) == 3) = false := by simp; omega
 have ek1 : (((k : Nat) : Int) == 1) = false := by simp; omega
 have ek2 : (((k : Nat) : Int) == 2) = true := by simp; omega
 have i6 : decide (((a : Nat) : Int) + ((z : Nat) : Int) <= 140737488355328) = false := by simp; omega
 clear h5 h4
 rotate_left
 have i1 : ((fl : Nat) : Int) <= 7 := by omega
 have i2 : ((f : Nat) : Int) <= ((z : Nat) : Int) := by omega
 have i3 : decide (((o : Nat) : Int) + ((f : Nat) : Int) <= ((m : Nat) : Int)) = true := by simp; omega
 have ety3 : (((ty : Nat) : Int) == 3) = false := by simp; omega
 have ek1 : (((k : Nat) : Int) == 1) = false := by simp; omega
 have ek2 : (((k : Nat) : Int) == 2) = false := by simp; omega
 have ek3 : (((k : Nat) : Int) == 3) = true := by simp; omega
 have i6 : decide (((a : Nat) : Int) + ((z : Nat) : Int) <= 140737488355328) = false := by simp; omega
 clear h5 h4
 rotate_left
 have i1 : ((fl : Nat) : Int) <= 7 := by omega
 have i2 : ((f : Nat) : Int) <= ((z : Nat) : Int) := by omega
 have i3 : decide (((o : Nat) : Int) + ((f : Nat) : Int) <= ((m : Nat) : Int)) = true := by simp; omega
 have ety3 : (((ty : Nat) : Int) == 3) = false := by simp; omega
 have ek1 : (((k : Nat) : Int) == 1) = false := by simp; omega
 have ek2 : (((k : Nat) : Int) == 2) = false := by simp; omega
 have ek3 : (((k : Nat) : Int) == 3) = false := by simp; omega
 have ek6 : (((k : Nat) : Int) == 6) = true := by simp; omega
 have i6 : decide (((a : Nat) : Int) + ((z : Nat) : Int) <= 140737488355328) = false := by simp; omega
 clear h5 h4
 rotate_left
 all_goals (
  go_enter Tryz.func85, Tryz.ntmps85
  go_wp2_with (first
   | (go_at_call_of 82 (Value.int IntKind.u64 ((p : Nat) : Int)); refine ((zJ1 G0) _ (zJb (zJ1 HB))).mono ?_; rintro e w1 ⟨rfl, hx⟩; replace HB := zJ2 ((zJ1 HB).trans (hx.mono (zJ1 HB).size)); clear hx)
   | (go_at_call_of 82 (Value.int IntKind.u64 (@HAdd.hAdd Int Int Int instHAdd ((p : Nat) : Int) 4)); refine ((zJ1 G1) _ (zJb (zJ1 HB))).mono ?_; rintro e w1 ⟨rfl, hx⟩; replace HB := zJ2 ((zJ1 HB).trans (hx.mono (zJ1 HB).size)); clear hx)
   | (go_at_call_of 82 (Value.int IntKind.u64 (@HAdd.hAdd Int Int Int instHAdd ((p : Nat) : Int) 8)); refine ((zJ1 G2) _ (zJb (zJ1 HB))).mono ?_; rintro e w1 ⟨rfl, hx⟩; replace HB := zJ2 ((zJ1 HB).trans (hx.mono (zJ1 HB).size)); clear hx)
   | (go_at_call_of 82 (Value.int IntKind.u64 (@HAdd.hAdd Int Int Int instHAdd ((p : Nat) : Int) 16)); refine ((zJ1 G3) _ (zJb (zJ1 HB))).mono ?_; rintro e w1 ⟨rfl, hx⟩; replace HB := zJ2 ((zJ1 HB).trans (hx.mono (zJ1 HB).size)); clear hx)
   | (go_at_call_of 82 (Value.int IntKind.u64 (@HAdd.hAdd Int Int Int instHAdd ((p : Nat) : Int) 32)); refine ((zJ1 G4) _ (zJb (zJ1 HB))).mono ?_; rintro e w1 ⟨rfl, hx⟩; replace HB := zJ2 ((zJ1 HB).trans (hx.mono (zJ1 HB).size)); clear hx)
   | (go_at_call_of 82 (Value.int IntKind.u64 (@HAdd.hAdd Int Int Int instHAdd ((p : Nat) : Int) 40)); refine ((zJ1 G5) _ (zJb (zJ1 HB))).mono ?_; rintro e w1 ⟨rfl, hx⟩; replace HB := zJ2 ((zJ1 HB).trans (hx.mono (zJ1 HB).size)); clear hx; have hn := newblk (zJ1 HB); have hsz := lt_of_block hn; have Hn := zJ2 hn; clear hn)
   | (go_at_call_of 82 (Value.int IntKind.u64 (@HAdd.hAdd Int Int Int instHAdd ((p : Nat) : Int) 48)); refine ((zJ1 G6) _ (zJb (zJ1 HB))).mono ?_; rintro e w1 ⟨rfl, hx⟩; replace HB := zJ2 ((zJ1 HB).trans (hx.mono (zJ1 HB).size)); clear hx)
   | (go_at_call_of 83 (Value.bool true); refine (zJ4 _ _).mono ?_; rintro e w1 ⟨rfl, rfl⟩)
   | (go_at_call_of 83 (Value.bool false); refine (zJ9 _ _).mono ?_; rintro e w1 ⟨rfl, rfl⟩)
   | (go_at_call_of 84 (Value.int IntKind.u64 ((o : Nat) : Int)); refine (zJf _ _ _ _ (by omega) (by omega) (by omega) (by omega) (by omega)).mono ?_; rintro e w1 ⟨rfl, rfl⟩)
   | (go_at_call_of 84 (Value.int IntKind.u64 ((a : Nat) : Int)); refine (zJf _ _ _ _ (by omega) (by omega) (by omega) (by omega) (by omega)).mono ?_; rintro e w1 ⟨rfl, rfl⟩)
   | ((with_reducible refine (@id (wpList _ _ _ (Oper.mk none (Op.store 58 (.tmp 6) (.tmp 97)) _ _ _ none :: _) _ _) ?_)); refine wpList_store_row rfl 58 (.tmp 6) (.tmp 97) rfl w.heap.size #[.int .u32 k, .int .u8 fl, .int .u64 o, .int .u64 a, .int .u64 f, .int .u64 z] rfl rfl 58 _ ((Below.heap_alloc _ _ _ hsz).trans (zJ1 Hn)) uJj rfl (segOne _ _ _ _ _ _) ?_))
  refine ⟨rfl, rfl, ?_⟩
  go_grown
  all_goals first | exact zJb (zJ1 HB) | (have := (zJb (zJ1 HB)).size; simp; omega))
set_option maxHeartbeats 60000000 in
theorem yJ9 (A : Option Addr) (m c : Nat) (B : Nat) (b : List UInt8) (p ty : Nat) (w : World) (hB : B <= w.heap.size) (hb : Rd w B 1 A m (u8s b)) (hm : m <= maxLen) (hin : p + 56 <= m) (hp : p <= 4294967296) (hty : ty < 65536)
  (hq : ((Wd.num b (p + 4) 4 <= 7) /\ (Wd.num b (p + 32) 8 <= Wd.num b (p + 40) 8) /\ (Wd.num b (p + 8) 8 + Wd.num b (p + 32) 8 <= m) /\ (ty = 3) /\ (Wd.num b p 4 = 1) /\ (Wd.num b (p + 16) 8 + Wd.num b (p + 40) 8 <= 4294967296) /\ (Wd.num b (p + 48) 8 = 4096) /\ (Wd.num b (p + 8) 8 % 4096 = Wd.num b (p + 16) 8 % 4096) /\ (0 < Wd.num b (p + 40) 8))
  \/ ((Wd.num b (p + 4) 4 <= 7) /\ (Wd.num b (p + 32) 8 <= Wd.num b (p + 40) 8) /\ (Wd.num b (p + 8) 8 + Wd.num b (p + 32) 8 <= m) /\ (ty = 3) /\ (Wd.num b p 4 = 2) /\ (Wd.num b (p + 16) 8 + Wd.num b (p + 40) 8 <= 4294967296))
  \/ ((Wd.num b (p + 4) 4 <= 7) /\ (Wd.num b (p + 32) 8 <= Wd.num b (p + 40) 8) /\ (Wd.num b (p + 8) 8 + Wd.num b (p + 32) 8 <= m) /\ (ty = 3) /\ (Wd.num b p 4 = 3) /\ (Wd.num b (p + 16) 8 + Wd.num b (p + 40) 8 <= 4294967296))
  \/ ((Wd.num b (p + 4) 4 <= 7) /\ (Wd.num b (p + 32) 8 <= Wd.num b (p + 40) 8) /\ (Wd.num b (p + 8) 8 + Wd.num b (p + 32) 8 <= m) /\ (ty = 3) /\ (Wd.num b p 4 = 6) /\ (Wd.num b (p + 16) 8 + Wd.num b (p + 40) 8 <= 4294967296))
  \/ ((Wd.num b (p + 4) 4 <= 7) /\ (Wd.num b (p + 32) 8 <= Wd.num b (p + 40) 8) /\ (Wd.num b (p + 8) 8 + Wd.num b (p + 32) 8 <= m) /\ (¬ ty = 3) /\ (Wd.num b p 4 = 1) /\ (Wd.num b (p + 16) 8 + Wd.num b (p + 40) 8 <= 140737488355328) /\ (Wd.num b (p + 48) 8 = 4096) /\ (Wd.num b (p + 8) 8 % 4096 = Wd.num b (p + 16) 8 % 4096) /\ (0 < Wd.num b (p + 40) 8))
  \/ ((Wd.num b (p + 4) 4 <= 7) /\ (Wd.num b (p + 32) 8 <= Wd.num b (p + 40) 8) /\ (Wd.num b (p + 8) 8 + Wd.num b (p + 32) 8 <= m) /\ (¬ ty = 3) /\ (Wd.num b p 4 = 2) /\ (Wd.num b (p + 16) 8 + Wd.num b (p + 40) 8 <= 140737488355328))
  \/ ((Wd.num b (p + 4) 4 <= 7) /\ (Wd.num b (p + 32) 8 <= Wd.num b (p + 40) 8) /\ (Wd.num b (p + 8) 8 + Wd.num b (p + 32) 8 <= m) /\ (¬ ty = 3) /\ (Wd.num b p 4 = 3) /\ (Wd.num b (p + 16) 8 + Wd.num b (p + 40) 8 <= 140737488355328))
  \/ ((Wd.num b (p + 4) 4 <= 7) /\ (Wd.num b (p + 32) 8 <= Wd.num b (p + 40) 8) /\ (Wd.num b (p + 8) 8 + Wd.num b (p + 32) 8 <= m) /\ (¬ ty = 3) /\ (Wd.num b p 4 = 6) /\ (Wd.num b (p + 16) 8 + Wd.num b (p + 40) 8 <= 140737488355328))
  \/ ((Wd.num b (p + 4) 4 <= 7) /\ (Wd.num b (p + 32) 8 <= Wd.num b (p + 40) 8) /\ (Wd.num b (p + 8) 8 + Wd.num b (p + 32) 8 <= m) /\ (¬ Wd.num b p 4 = 1 /\ ¬ Wd.num b p 4 = 2 /\ ¬ Wd.num b p 4 = 3 /\ ¬ Wd.num b p 4 = 6))) :
  Calls Tryz.prog 85 #[.slice A m c, .int .u64 p, .int .u16 ty] w fun e w' => e = .returned (segVal (El.segAt b p)) /\ Below w.heap.size w w' := by
 unfold El.segAt
 have hbl : b.length = m := by simpa using hb.len1
 have G0 := zJ2 (fun (w' : World) (h : Below w.heap.size w w') => xJw A m c B b p 4 4 rfl w' (Nat.le_trans hB h.size) ((hb).below (h.mono hB)) hm (by omega) (by omega))
 have G1 := zJ2 (fun (w' : World) (h : Below w.heap.size w w') => zJz A m c B b p 4 4 4 4 rfl rfl w' (Nat.le_trans hB h.size) ((hb).below (h.mono hB)) hm (by omega) (by omega))
 have G2 := zJ2 (fun (w' : World) (h : Below w.heap.size w w') => zJz A m c B b p 8 8 8 8 rfl rfl w' (Nat.le_trans hB h.size) ((hb).below (h.mono hB)) hm (by omega) (by omega))
 have G3 := zJ2 (fun (w' : World) (h : Below w.heap.size w w') => zJz A m c B b p 16 8 16 8 rfl rfl w' (Nat.le_trans hB h.size) ((hb).below (h.mono hB)) hm (by omega) (by omega))
 have G4 := zJ2 (fun (w' : World) (h : Below w.heap.size w w') => zJz A m c B b p 32 8 32 8 rfl rfl w' (Nat.le_trans hB h.size) ((hb).below (h.mono hB)) hm (by omega) (by omega))
 have G5 := zJ2 (fun (w' : World) (h : Below w.heap.size w w') => zJz A m c B b p 40 8 40 8 rfl rfl w' (Nat.le_trans hB h.size) ((hb).below (h.mono hB)) hm (by omega) (by omega))
 have G6 := zJ2 (fun (w' : World) (h : Below w.heap.size w w') => zJz A m c B b p 48 8 48 8 rfl rfl w' (Nat.le_trans hB h.size) ((hb).below (h.mono hB)) hm (by omega) (by omega))
 have l0 : Wd.num b p 4 < 4294967296 := Wd.num_lt _ _ _
 have l1 : Wd.num b (p + 4) 4 < 4294967296 := Wd.num_lt _ _ _
 have l2 : Wd.num b (p + 8) 8 < 18446744073709551616 := Wd.num_lt _ _ _
 have l3 : Wd.num b (p + 16) 8 < 18446744073709551616 := Wd.num_lt _ _ _
 have l4 : Wd.num b (p + 32) 8 < 18446744073709551616 := Wd.num_lt _ _ _
 have l5 : Wd.num b (p + 40) 8 < 18446744073709551616 := Wd.num_lt _ _ _
 have l6 : Wd.num b (p + 48) 8 < 18446744073709551616 := Wd.num_lt _ _ _
 generalize Wd.num b p 4 = k at *
 generalize Wd.num b (p + 4) 4 = fl at *
 generalize Wd.num b (p + 8) 8 = o at *
 generalize Wd.num b (p + 16) 8 = a at *
 generalize Wd.num b (p + 32) 8 = f at *
 generalize Wd.num b (p + 40) 8 = z at *
 generalize Wd.num b (p + 48) 8 = al at *
 unfold maxLen at hm
 clear hb hbl
 have HB := zJ2 (Below.refl (w.alloc (.cells #[.int .u32 0, .int .u8 0, .int .u64 0, .int .u64 0, .int .u64 0, .int .u64 0] 58)).heap.size (w.alloc (.cells #[.int .u32 0, .int .u8 0, .int .u64 0, .int .u64 0, .int .u64 0, .int .u64 0] 58)))
 rcases hq with ⟨h1, h2, h3, h4, h5, h6, h7, h8, h9⟩ | ⟨h1, h2, h3, h4, h5, h6⟩ | ⟨h1, h2, h3, h4, h5, h6⟩ | ⟨h1, h2, h3, h4, h5, h6⟩ | ⟨h1, h2, h3, h4, h5, h6, h7, h8, h9⟩ | ⟨h1, h2, h3, h4, h5, h6⟩ | ⟨h1, h2, h3, h4, h5, h6⟩ | ⟨h1, h2, h3, h4, h5, h6⟩ | ⟨h1, h2, h3, h5⟩
 have i1 : ((fl : Nat) : Int) <= 7 := by omega
 have i2 : ((f : Nat) : Int) <= ((z : Nat) : Int) := by omega
 have i3 : decide (((o : Nat) : Int) + ((f : Nat) : Int) <= ((m : Nat) : Int)) = true := by simp; omega
 have ety3 : (((ty : Nat) : Int) == 3) = true := by simp; omega
 have ek1 : (((k : Nat) : Int) == 1) = true := by simp; omega
 have i6 : decide (((a : Nat) : Int) + ((z : Nat) : Int) <= 4294967296) = true := by simp; omega
 have eal4096 : (((al : Nat) : Int) == 4096) = true := by simp; omega
 have i8 : (((IntKind.u64.wrap (((o : Nat) : Int) - ((a : Nat) : Int))).tmod 4096) == 0) = true := by rw [IntKind.wrap_u64, Int.tmod_eq_emod_of_nonneg (by omega)]; simp; omega
 have i9 : (0 : Int) < ((z : Nat) : Int) := by omega
 clear h5 h4 h7 h8
 rotate_left
 have i1 : ((fl : Nat) : Int) <= 7 := by omega
 have i2 : ((f : Nat) : Int) <= ((z : Nat) : Int) := by omega
 have i3 : decide (((o : Nat) : Int) + ((f : Nat) : Int) <= ((m : Nat) : Int)) = true := by simp; omega
 have ety3 : (((ty : Nat) : Int) == 3) = true := by simp; omega
 have ek1 : (((k : Nat) : Int) == 1) = false := by simp; omega
 have ek2 : (((k : Nat) : Int) == 2) = true := by simp; omega
 have i6 : decide (((a : Nat) : Int) + ((z : Nat) : Int) <= 4294967296) = true := by simp; omega
 clear h5 h4
 rotate_left
 have i1 : ((fl : Nat) : Int) <= 7 := by omega
 have i2 : ((f : Nat) : Int) <= ((z : Nat) : Int) := by omega
 have i3 : decide (((o : Nat) : Int) + ((f : Nat) : Int) <= ((m : Nat) : Int)) = true := by simp; omega
 have ety3 : (((ty : Nat) : Int) == 3) = true := by simp; omega
 have ek1 : (((k : Nat) : Int) == 1) = false := by simp; omega
 have ek2 : (((k : Nat) : Int) == 2) = false := by simp; omega
 have ek3 : (((k : Nat) : Int) == 3) = true := by simp; omega
 have i6 : decide (((a : Nat) : Int) + ((z : Nat) : Int) <= 4294967296) = true := by simp; omega
 clear h5 h4
 rotate_left
 have i1 : ((fl : Nat) : Int) <= 7 := by omega
 have i2 : ((f : Nat) : Int) <= ((z : Nat) : Int) := by omega
 have i3 : decide (((o : Nat) : Int) + ((f : Nat) : Int) <= ((m : Nat) : Int)) = true := by simp; omega
 have ety3 : (((ty : Nat) : Int) == 3) = true := by simp; omega
 have ek1 : (((k : Nat) : Int) == 1) = false := by simp; omega
 have ek2 : (((k : Nat) : Int) == 2) = false := by simp; omega
 have ek3 : (((k : Nat) : Int) == 3) = false := by simp; omega
 have ek6 : (((k : Nat) : Int) == 6) = true := by simp; omega
 have i6 : decide (((a : Nat) : Int) + ((z : Nat) : Int) <= 4294967296) = true := by simp; omega
 clear h5 h4
 rotate_left
 have i1 : ((fl : Nat) : Int) <= 7 := by omega
 have i2 : ((f : Nat) : Int) <= ((z : Nat) : Int) := by omega
 have i3 : decide (((o : Nat) : Int) + ((f : Nat) : Int) <= ((m : Nat) : Int)) = true := by simp; omega
 have ety3 : (((ty : Nat) : Int) == 3) = false := by simp; omega
 have ek1 : (((k : Nat) : Int) == 1) = true := by simp; omega
 have i6 : decide (((a : Nat) : Int) + ((z : Nat) : Int) <= 140737488355328) = true := by simp; omega
 have eal4096 : (((al : Nat) : Int) == 4096) = true := by simp; omega
 have i8 : (((IntKind.u64.wrap (((o : Nat) : Int) - ((a : Nat) : Int))).tmod 4096) == 0) = true := by rw [IntKind.wrap_u64, Int.tmod_eq_emod_of_nonneg (by omega)]; simp; omega
 have i9 : (0 : Int) < ((z : Nat) : Int) := by omega
 clear h5 h4 h7 h8
 rotate_left
 have i1 : ((fl : Nat) : Int) <= 7 := by omega
 have i2 : ((f : Nat) : Int) <= ((z : Nat) : Int) := by omega
 have i3 : decide (((o : Nat) : Int) + ((f : Nat) : Int) <= ((m : Nat) : Int)) = true := by simp; omega
 have ety3 : (((ty : Nat) : Int) == 3) = false := by simp; omega
 have ek1 : (((k : Nat) : Int) == 1) = false := by simp; omega
 have ek2 : (((k : Nat) : Int) == 2) = true := by simp; omega
 have i6 : decide (((a : Nat) : Int) + ((z : Nat) : Int) <= 140737488355328) = true := by simp; omega
 clear h5 h4
 rotate_left
 have i1 : ((fl : Nat) : Int) <= 7 := by omega
 have i2 : ((f : Nat) : Int) <= ((z : Nat) : Int) := by omega
 have i3 : decide (((o : Nat) : Int) + ((f : Nat) : Int) <= ((m : Nat) : Int)) = true := by simp; omega
 have ety3 : (((ty : Nat) : Int) == 3) = false := by simp; omega
 have ek1 : (((k : Nat) : Int) == 1) = false := by simp; omega
 have ek2 : (((k : Nat) : Int) == 2) = false := by simp; omega
 have ek3 : (((k : Nat) : Int) == 3) = true := by simp; omega
 have i6 : decide (((a : Nat) : Int) + ((z : Nat) : Int) <= 140737488355328) = true := by simp; omega
 clear h5 h4
 rotate_left
 have i1 : ((fl : Nat) : Int) <= 7 := by omega
 have i2 : ((f : Nat) : Int) <= ((z : Nat) : Int) := by omega
 have i3 : decide (((o : Nat) : Int) + ((f : Nat) : Int) <= ((m : Nat) : Int)) = true := by simp; omega
 have ety3 : (((ty : Nat) : Int) == 3) = false := by simp; omega
 have ek1 : (((k : Nat) : Int) == 1) = false := by simp; omega
 have ek2 : (((k : Nat) : Int) == 2) = false := by simp; omega
 have ek3 : (((k : Nat) : Int) == 3) = false := by simp; omega
 have ek6 : (((k : Nat) : Int) == 6) = true := by simp; omega
 have i6 : decide (((a : Nat) : Int) + ((z : Nat) : Int) <= 140737488355328) = true := by simp; omega
 clear h5 h4
 rotate_left
 have i1 : ((fl : Nat) : Int) <= 7 := by omega
 have i2 : ((f : Nat) : Int) <= ((z : Nat) : Int) := by omega
 have i3 : decide (((o : Nat) : Int) + ((f : Nat) : Int) <= ((m : Nat) : Int)) = true := by simp; omega
 obtain ⟨k1, k2, k3, k6⟩ := h5
 have ek1 : (((k : Nat) : Int) == 1) = false := by simp; omega
 have ek2 : (((k : Nat) : Int) == 2) = false := by simp; omega
 have ek3 : (((k : Nat) : Int) == 3) = false := by simp; omega
 have ek6 : (((k : Nat) : Int) == 6) = false := by simp; omega
 clear k1 k2 k3 k6
 rotate_left
 all_goals (
  go_enter Tryz.func85, Tryz.ntmps85
  go_wp2_with (first
   | (go_at_call_of 82 (Value.int IntKind.u64 ((p : Nat) : Int)); refine ((zJ1 G0) _ (zJb (zJ1 HB))).mono ?_; rintro e w1 ⟨rfl, hx⟩; replace HB := zJ2 ((zJ1 HB).trans (hx.mono (zJ1 HB).size)); clear hx)
   | (go_at_call_of 82 (Value.int IntKind.u64 (@HAdd.hAdd Int Int Int instHAdd ((p : Nat) : Int) 4)); refine ((zJ1 G1) _ (zJb (zJ1 HB))).mono ?_; rintro e w1 ⟨rfl, hx⟩; replace HB := zJ2 ((zJ1 HB).trans (hx.mono (zJ1 HB).size)); clear hx)
   | (go_at_call_of 82 (Value.int IntKind.u64 (@HAdd.hAdd Int Int Int instHAdd ((p : Nat) : Int) 8)); refine ((zJ1 G2) _ (zJb (zJ1 HB))).mono ?_; rintro e w1 ⟨rfl, hx⟩; replace HB := zJ2 ((zJ1 HB).trans (hx.mono (zJ1 HB).size)); clear hx)
   | (go_at_call_of 82 (Value.int IntKind.u64 (@HAdd.hAdd Int Int Int instHAdd ((p : Nat) : Int) 16)); refine ((zJ1 G3) _ (zJb (zJ1 HB))).mono ?_; rintro e w1 ⟨rfl, hx⟩; replace HB := zJ2 ((zJ1 HB).trans (hx.mono (zJ1 HB).size)); clear hx)
   | (go_at_call_of 82 (Value.int IntKind.u64 (@HAdd.hAdd Int Int Int instHAdd ((p : Nat) : Int) 32)); refine ((zJ1 G4) _ (zJb (zJ1 HB))).mono ?_; rintro e w1 ⟨rfl, hx⟩; replace HB := zJ2 ((zJ1 HB).trans (hx.mono (zJ1 HB).size)); clear hx)
   | (go_at_call_of 82 (Value.int IntKind.u64 (@HAdd.hAdd Int Int Int instHAdd ((p : Nat) : Int) 40)); refine ((zJ1 G5) _ (zJb (zJ1 HB))).mono ?_; rintro e w1 ⟨rfl, hx⟩; replace HB := zJ2 ((zJ1 HB).trans (hx.mono (zJ1 HB).size)); clear hx; have hn := newblk (zJ1 HB); have hsz := lt_of_block hn; have Hn := zJ2 hn; clear hn)
   | (go_at_call_of 82 (Value.int IntKind.u64 (@HAdd.hAdd Int Int Int instHAdd ((p : Nat) : Int) 48)); refine ((zJ1 G6) _ (zJb (zJ1 HB))).mono ?_; rintro e w1 ⟨rfl, hx⟩; replace HB := zJ2 ((zJ1 HB).trans (hx.mono (zJ1 HB).size)); clear hx)
   | (go_at_call_of 83 (Value.bool true); refine (zJ4 _ _).mono ?_; rintro e w1 ⟨rfl, rfl⟩)
   | (go_at_call_of 83 (Value.bool false); refine (zJ9 _ _).mono ?_; rintro e w1 ⟨rfl, rfl⟩)
   | (go_at_call_of 84 (Value.int IntKind.u64 ((o : Nat) : Int)); refine (zJf _ _ _ _ (by omega) (by omega) (by omega) (by omega) (by omega)).mono ?_; rintro e w1 ⟨rfl, rfl⟩)
   | (go_at_call_of 84 (Value.int IntKind.u64 ((a : Nat) : Int)); refine (zJf _ _ _ _ (by omega) (by omega) (by omega) (by omega) (by omega)).mono ?_; rintro e w1 ⟨rfl, rfl⟩)
   | ((with_reducible refine (@id (wpList _ _ _ (Oper.mk none (Op.store 58 (.tmp 6) (.tmp 97)) _ _ _ none :: _) _ _) ?_)); refine wpList_store_row rfl 58 (.tmp 6) (.tmp 97) rfl w.heap.size #[.int .u32 k, .int .u8 fl, .int .u64 o, .int .u64 a, .int .u64 f, .int .u64 z] rfl rfl 58 _ ((Below.heap_alloc _ _ _ hsz).trans (zJ1 Hn)) uJj rfl (segOne _ _ _ _ _ _) ?_))
  refine bodyPost_ret (results_cell_row (P := Tryz.prog) rfl _ _ w.heap.size 58 #[.int .u32 k, .int .u8 fl, .int .u64 o, .int .u64 a, .int .u64 f, .int .u64 z] (0, 0) _ rfl (setRow_heap _ _ _ _ _ _ ((Below.heap_alloc _ _ _ hsz).trans (zJ1 Hn))) Tryz.underlying58 rfl uJj) rfl ⟨rfl, ?_⟩
  exact below_setRow ((zJb (zJ1 HB)).alloc (zJb (zJ1 HB)).size _) (Nat.le_refl _) _)
theorem segment_any (A : Option Addr) (m c : Nat) (B : Nat) (b : List UInt8) (p ty : Nat) (w : World) (hB : B <= w.heap.size) (hb : Rd w B 1 A m (u8s b)) (hm : m <= maxLen) (hin : p + 56 <= m) (hp : p <= 4294967296) (hty : ty < 65536) :
  Calls Tryz.prog 85 #[.slice A m c, .int .u64 p, .int .u16 ty] w fun e w' => e = (if El.segOk b p ty then .returned (segVal (El.segAt b p)) else wrongs 25) /\ Below w.heap.size w w' := by
 have hbl : b.length = m := by simpa using hb.len1
 have yes : El.segOk b p ty = true -> Calls Tryz.prog 85 #[.slice A m c, .int .u64 p, .int .u16 ty] w (fun e w' => e = .returned (segVal (El.segAt b p)) /\ Below w.heap.size w w') -> Calls Tryz.prog 85 #[.slice A m c, .int .u64 p, .int .u16 ty] w fun e w' => e = (if El.segOk b p ty then .returned (segVal (El.segAt b p)) else wrongs 25) /\ Below w.heap.size w w' := fun h c => by rw [h]; exact c
 have no : El.segOk b p ty = false -> Calls Tryz.prog 85 #[.slice A m c, .int .u64 p, .int .u16 ty] w (fun e w' => e = wrongs 25 /\ Below w.heap.size w w') -> Calls Tryz.prog 85 #[.slice A m c, .int .u64 p, .int .u16 ty] w fun e w' => e = (if El.segOk b p ty then .returned (segVal (El.segAt b p)) else wrongs 25) /\ Below w.heap.size w w' := fun h c => by rw [h]; exact c
 by_cases h1 : Wd.num b (p + 4) 4 <= 7
 case neg => exact no (by simp [El.segOk, El.flagsB, El.insideB, El.endB, El.alignB, El.knownB, El.endOf, El.segAt, *] <;> omega) (yJ1 A m c B b p ty w hB hb hm hin hp hty (.inl h1))
 by_cases h2 : Wd.num b (p + 32) 8 <= Wd.num b (p + 40) 8
 case neg => exact no (by simp [El.segOk, El.flagsB, El.insideB, El.endB, El.alignB, El.knownB, El.endOf, El.segAt, *] <;> omega) (yJ1 A m c B b p ty w hB hb hm hin hp hty (.inr (.inl ⟨h1, h2⟩)))
 by_cases h3 : Wd.num b (p + 8) 8 + Wd.num b (p + 32) 8 <= m
 case neg => exact no (by simp [El.segOk, El.flagsB, El.insideB, El.endB, El.alignB, El.knownB, El.endOf, El.segAt, *] <;> omega) (yJ1 A m c B b p ty w hB hb hm hin hp hty (.inr (.inr (.inl ⟨h1, h2, h3⟩))))
 by_cases h5 : ¬ Wd.num b p 4 = 1 /\ ¬ Wd.num b p 4 = 2 /\ ¬ Wd.num b p 4 = 3 /\ ¬ Wd.num b p 4 = 6
 ·exact yes (by simp [El.segOk, El.flagsB, El.insideB, El.endB, El.alignB, El.knownB, El.endOf, El.segAt, *] <;> omega) (yJ9 A m c B b p ty w hB hb hm hin hp hty (.inr (.inr (.inr (.inr (.inr (.inr (.inr (.inr ⟨h1, h2, h3, h5⟩)))))))))
 have h5' : Wd.num b p 4 = 1 \/ Wd.num b p 4 = 2 \/ Wd.num b p 4 = 3 \/ Wd.num b p 4 = 6 := by omega
 clear h5
 by_cases h4 : ty = 3
 ·by_cases h6 : Wd.num b (p + 16) 8 + Wd.num b (p + 40) 8 <= 4294967296
  ·rcases h5' with h5 | h5 | h5 | h5
   ·by_cases h7 : Wd.num b (p + 48) 8 = 4096
    ·by_cases h8 : Wd.num b (p + 8) 8 % 4096 = Wd.num b (p + 16) 8 % 4096
     ·by_cases h9 : 0 < Wd.num b (p + 40) 8
      ·exact yes (by simp [El.segOk, El.flagsB, El.insideB, El.endB, El.alignB, El.knownB, El.endOf, El.segAt, *] <;> omega) (yJ9 A m c B b p ty w hB hb hm hin hp hty (.inl ⟨h1, h2, h3, h4, h5, h6, h7, h8, h9⟩))
      ·exact no (by simp [El.segOk, El.flagsB, El.insideB, El.endB, El.alignB, El.knownB, El.endOf, El.segAt, *] <;> omega) (yJ1 A m c B b p ty w hB hb hm hin hp hty (.inr (.inr (.inr (.inr (.inr (.inr (.inl ⟨h1, h2, h3, h4, h5, h6, h7, h8, h9⟩))))))))
     ·exact no (by simp [El.segOk, El.flagsB, El.insideB, El.endB, El.alignB, El.knownB, El.endOf, El.segAt, *] <;> omega) (yJ1 A m c B b p ty w hB hb hm hin hp hty (.inr (.inr (.inr (.inr (.inr (.inl ⟨h1, h2, h3, h4, h5, h6, h7, h8⟩)))))))
    ·exact no (by simp [El.segOk, El.flagsB, El.insideB, El.endB, El.alignB, El.knownB, El.endOf, El.segAt, *] <;> omega) (yJ1 A m c B b p ty w hB hb hm hin hp hty (.inr (.inr (.inr (.inr (.inl ⟨h1, h2, h3, h4, h5, h6, h7⟩))))))
   ·exact yes (by simp [El.segOk, El.flagsB, El.insideB, El.endB, El.alignB, El.knownB, El.endOf, El.segAt, *] <;> omega) (yJ9 A m c B b p ty w hB hb hm hin hp hty (.inr (.inl ⟨h1, h2, h3, h4, h5, h6⟩)))
   ·exact yes (by simp [El.segOk, El.flagsB, El.insideB, El.endB, El.alignB, El.knownB, El.endOf, El.segAt, *] <;> omega) (yJ9 A m c B b p ty w hB hb hm hin hp hty (.inr (.inr (.inl ⟨h1, h2, h3, h4, h5, h6⟩))))
   ·exact yes (by simp [El.segOk, El.flagsB, El.insideB, El.endB, El.alignB, El.knownB, El.endOf, El.segAt, *] <;> omega) (yJ9 A m c B b p ty w hB hb hm hin hp hty (.inr (.inr (.inr (.inl ⟨h1, h2, h3, h4, h5, h6⟩)))))
  ·rcases h5' with h5 | h5 | h5 | h5
   ·exact no (by simp [El.segOk, El.flagsB, El.insideB, El.endB, El.alignB, El.knownB, El.endOf, El.segAt, *] <;> omega) (yJ1 A m c B b p ty w hB hb hm hin hp hty (.inr (.inr (.inr (.inl ⟨h1, h2, h3, h4, h5, h6⟩)))))
   ·exact no (by simp [El.segOk, El.flagsB, El.insideB, El.endB, El.alignB, El.knownB, El.endOf, El.segAt, *] <;> omega) (yJ1 A m c B b p ty w hB hb hm hin hp hty (.inr (.inr (.inr (.inr (.inr (.inr (.inr (.inl ⟨h1, h2, h3, h4, h5, h6⟩)))))))))
   ·exact no (by simp [El.segOk, El.flagsB, El.insideB, El.endB, El.alignB, El.knownB, El.endOf, El.segAt, *] <;> omega) (yJ1 A m c B b p ty w hB hb hm hin hp hty (.inr (.inr (.inr (.inr (.inr (.inr (.inr (.inr (.inl ⟨h1, h2, h3, h4, h5, h6⟩))))))))))
   ·exact no (by simp [El.segOk, El.flagsB, El.insideB, El.endB, El.alignB, El.knownB, El.endOf, El.segAt, *] <;> omega) (yJ1 A m c B b p ty w hB hb hm hin hp hty (.inr (.inr (.inr (.inr (.inr (.inr (.inr (.inr (.inr (.inl ⟨h1, h2, h3, h4, h5, h6⟩)))))))))))
 ·by_cases h6 : Wd.num b (p + 16) 8 + Wd.num b (p + 40) 8 <= 140737488355328
  ·rcases h5' with h5 | h5 | h5 | h5
   ·by_cases h7 : Wd.num b (p + 48) 8 = 4096
    ·by_cases h8 : Wd.num b (p + 8) 8 % 4096 = Wd.num b (p + 16) 8 % 4096
     ·by_cases h9 : 0 < Wd.num b (p + 40) 8
      ·exact yes (by simp [El.segOk, El.flagsB, El.insideB, El.endB, El.alignB, El.knownB, El.endOf, El.segAt, *] <;> omega) (yJ9 A m c B b p ty w hB hb hm hin hp hty (.inr (.inr (.inr (.inr (.inl ⟨h1, h2, h3, h4, h5, h6, h7, h8, h9⟩))))))
      ·exact no (by simp [El.segOk, El.flagsB, El.insideB, El.endB, El.alignB, El.knownB, El.endOf, El.segAt, *] <;> omega) (uJi A m c B b p ty w hB hb hm hin hp hty (.inl ⟨h1, h2, h3, h4, h5, h6, h7, h8, h9⟩))
     ·exact no (by simp [El.segOk, El.flagsB, El.insideB, El.endB, El.alignB, El.knownB, El.endOf, El.segAt, *] <;> omega) (yJ1 A m c B b p ty w hB hb hm hin hp hty (.inr (.inr (.inr (.inr (.inr (.inr (.inr (.inr (.inr (.inr (.inr (.inr ⟨h1, h2, h3, h4, h5, h6, h7, h8⟩)))))))))))))
    ·exact no (by simp [El.segOk, El.flagsB, El.insideB, El.endB, El.alignB, El.knownB, El.endOf, El.segAt, *] <;> omega) (yJ1 A m c B b p ty w hB hb hm hin hp hty (.inr (.inr (.inr (.inr (.inr (.inr (.inr (.inr (.inr (.inr (.inr (.inl ⟨h1, h2, h3, h4, h5, h6, h7⟩)))))))))))))
   ·exact yes (by simp [El.segOk, El.flagsB, El.insideB, El.endB, El.alignB, El.knownB, El.endOf, El.segAt, *] <;> omega) (yJ9 A m c B b p ty w hB hb hm hin hp hty (.inr (.inr (.inr (.inr (.inr (.inl ⟨h1, h2, h3, h4, h5, h6⟩)))))))
   ·exact yes (by simp [El.segOk, El.flagsB, El.insideB, El.endB, El.alignB, El.knownB, El.endOf, El.segAt, *] <;> omega) (yJ9 A m c B b p ty w hB hb hm hin hp hty (.inr (.inr (.inr (.inr (.inr (.inr (.inl ⟨h1, h2, h3, h4, h5, h6⟩))))))))
   ·exact yes (by simp [El.segOk, El.flagsB, El.insideB, El.endB, El.alignB, El.knownB, El.endOf, El.segAt, *] <;> omega) (yJ9 A m c B b p ty w hB hb hm hin hp hty (.inr (.inr (.inr (.inr (.inr (.inr (.inr (.inl ⟨h1, h2, h3, h4, h5, h6⟩)))))))))
  ·rcases h5' with h5 | h5 | h5 | h5
   ·exact no (by simp [El.segOk, El.flagsB, El.insideB, El.endB, El.alignB, El.knownB, El.endOf, El.segAt, *] <;> omega) (yJ1 A m c B b p ty w hB hb hm hin hp hty (.inr (.inr (.inr (.inr (.inr (.inr (.inr (.inr (.inr (.inr (.inl ⟨h1, h2, h3, h4, h5, h6⟩))))))))))))
   ·exact no (by simp [El.segOk, El.flagsB, El.insideB, El.endB, El.alignB, El.knownB, El.endOf, El.segAt, *] <;> omega) (uJi A m c B b p ty w hB hb hm hin hp hty (.inr (.inl ⟨h1, h2, h3, h4, h5, h6⟩)))
   ·exact no (by simp [El.segOk, El.flagsB, El.insideB, El.endB, El.alignB, El.knownB, El.endOf, El.segAt, *] <;> omega) (uJi A m c B b p ty w hB hb hm hin hp hty (.inr (.inr (.inl ⟨h1, h2, h3, h4, h5, h6⟩))))
   ·exact no (by simp [El.segOk, El.flagsB, El.insideB, El.endB, El.alignB, El.knownB, El.endOf, El.segAt, *] <;> omega) (uJi A m c B b p ty w hB hb hm hin hp hty (.inr (.inr (.inr ⟨h1, h2, h3, h4, h5, h6⟩))))
def sgVals (s : El.Sg) : List Value := [.int .u32 s.kind, .int .u8 s.flags, .int .u64 s.off, .int .u64 s.addr, .int .u64 s.fsz, .int .u64 s.msz]
def segCells (l : List El.Sg) : List Value := l.flatMap sgVals
def SgFit (s : El.Sg) : Prop := s.kind < 4294967296 /\ s.flags < 256 /\ s.off < 18446744073709551616 /\ s.addr < 18446744073709551616 /\ s.fsz < 18446744073709551616 /\ s.msz < 18446744073709551616
theorem zJw (l : List El.Sg) : (segCells l).length = l.length * 6 := by
 induction l with
 | nil => rfl
 | cons s r ih =>
  have : segCells (s :: r) = sgVals s ++ segCells r := rfl
  rw [this, List.length_append, ih, List.length_cons]
  simp [sgVals]
  omega
theorem segCells_at (l : List El.Sg) : ∀ (k : Nat) (s : El.Sg), l[k]? = some s -> ∀ j, j < 6 -> (segCells l)[k * 6 + j]? = (sgVals s)[j]? := by
 induction l with
 | nil => intro k s h; simp at h
 | cons a r ih =>
  intro k s h j hj
  have e : segCells (a :: r) = sgVals a ++ segCells r := rfl
  have hl : (sgVals a).length = 6 := rfl
  cases k with
  | zero =>
   simp at h
   subst h
   rw [e, List.getElem?_append_left (by omega)]
   congr 1
   omega
  | succ k =>
   simp at h
   rw [e, List.getElem?_append_right (by omega), hl, show (k + 1) * 6 + j - 6 = k * 6 + j from by omega]
   exact ih k s h j hj
theorem wJb {w : World} {B n : Nat} {A : Option Addr} {l : List El.Sg} (h : Rd w B 6 A n (segCells l)) {k : Nat} {s : El.Sg} (hk : l[k]? = some s) :
  ∃ b off, A = some ⟨b, off, none⟩ /\ b < B /\ w.cell? ⟨b, off + k * 6, none⟩ = some (.int .u32 s.kind) /\ w.cell? ⟨b, off + k * 6 + 1, none⟩ = some (.int .u8 s.flags) /\ w.cell? ⟨b, off + k * 6 + 2, none⟩ = some (.int .u64 s.off) /\
   w.cell? ⟨b, off + k * 6 + 3, none⟩ = some (.int .u64 s.addr) /\ w.cell? ⟨b, off + k * 6 + 4, none⟩ = some (.int .u64 s.fsz) /\ w.cell? ⟨b, off + k * 6 + 5, none⟩ = some (.int .u64 s.msz) := by
 have hc := segCells_at l k s hk
 obtain ⟨b, off, e, hb, hx⟩ := h.open_ (by
  intro e0
  have := hc 0 (by omega)
  rw [e0] at this
  simp [sgVals] at this)
 have key : ∀ j u, j < 6 -> (sgVals s)[j]? = some u -> w.cell? ⟨b, off + k * 6 + j, none⟩ = some u := fun j u hj hu => by
  have := hx (k * 6 + j) u ((hc j hj).trans hu)
  rwa [<- Nat.add_assoc] at this
 exact ⟨b, off, e, hb, key 0 _ (by omega) rfl, key 1 _ (by omega) rfl, key 2 _ (by omega) rfl, key 3 _ (by omega) rfl, key 4 _ (by omega) rfl, key 5 _ (by omega) rfl⟩
theorem yJv (o : List El.Sg) (s : El.Sg) : segCells (o ++ [s]) = segCells o ++ [.int .u32 s.kind, .int .u8 s.flags, .int .u64 s.off, .int .u64 s.addr, .int .u64 s.fsz, .int .u64 s.msz] := by simp [segCells, sgVals]
theorem xJx (s : El.Sg) : ∀ u ∈ sgVals s, u.oneCell' = true := by
 intro u hu
 simp [sgVals] at hu
 rcases hu with rfl | rfl | rfl | rfl | rfl | rfl <;> rfl
theorem segTy : SlTy Tryz.prog 47 58 6 40 := yJ0 (z := .agg #[.int .u32 0, .int .u8 0, .int .u64 0, .int .u64 0, .int .u64 0, .int .u64 0]) Tryz.underlying47 (by kernel_rfl) rfl (by omega) (by omega)
set_option maxHeartbeats 1000000 in
theorem loads_any (A : Option Addr) (n c B : Nat) (l : List El.Sg) (ty en ph : Int) (w : World) (hB : B <= w.heap.size) (hl : Rd w B 6 A n (segCells l)) (hn : n <= 4294967296) :
  Calls Tryz.prog 172 #[.agg #[.int .u16 ty, .int .u64 en, .int .u64 ph, .slice A n c]] w fun e w' => ∃ A' c', e = .returned (.slice A' (El.loads l).length c') /\
   w'.ownsRow w.heap.size 58 6 (.slice A' (El.loads l).length c') (El.loads l).length (segCells (El.loads l)) /\ Below w.heap.size w w' := by
 have hln : l.length = n := by have := hl.1; rw [zJw] at this; omega
 have Hl := zJ2 hl
 have Hln := zJ2 hln
 clear hl hln
 go_enter Tryz.func172, Tryz.ntmps172
 go_wp2
 go_loopw [2, 8] (fun out i wr => ∃ (k : Nat) (A' : Option Addr) (c' : Nat) (o : List El.Sg), k <= n /\ i = .int .i64 k /\ out = .slice A' o.length c' /\ o = El.loads (l.take k) /\ o.length <= k /\
  wr.ownsRow w.heap.size 58 6 (.slice A' o.length c') o.length (segCells o) /\ Below w.heap.size w wr) (fun _ i _ => n - (intOf i).toNat)
 case atStart => exact ⟨0, none, 0, [], Nat.zero_le _, rfl, rfl, rfl, Nat.le_refl _, World.ownsRow_nil _ _ _ _, (Below.refl _ _).alloc (Nat.le_refl _) _⟩
 case round =>
  obtain ⟨k, A', c', o, hk, rfl, rfl, ho, hok, hown, hb⟩ := hrel
  have Ho := zJ2 ho
  have hsz := hb.size
  clear ho
  by_cases hlt : k < n
  ·obtain ⟨s, hs⟩ : ∃ s, l[k]? = some s := ⟨_, List.getElem?_eq_getElem (by rw [zJ1 Hln]; exact hlt)⟩
   obtain ⟨b1, o1, rfl, hbb, c0, c1, c2, c3, c4, c5⟩ := wJb ((zJ1 Hl).below (hb.mono hB)) hs
   by_cases hc : s.kind = 1
   ·have hbq : (((s.kind : Nat) : Int) == 1) = true := by rw [hc]; rfl
    have ho2 : o ++ [s] = El.loads (l.take (k + 1)) := by
     rw [List.take_add_one, hs, zJ1 Ho]
     simp [El.loads, El.isLoad, hc]
    have Ho2 := zJ2 ho2
    clear ho2 hs hc
    go_wp2_with (at_builtin; refine zJh segTy rfl _ _ rfl w.heap.size (.slice A' o.length c') o.length (segCells o) rfl (hown.alloc _) #[.int .u32 s.kind, .int .u8 s.flags, .int .u64 s.off, .int .u64 s.addr, .int .u64 s.fsz, .int .u64 s.msz] _ rfl (by simp) rfl (xJx s) (by omega) (by simp; omega) ?_; intro A2 c2 w1 hown' hgrow hat; have hb1 := zJ2 ((hb.alloc hsz _).grown hgrow (by simp; omega) (fun k hk => (hown.lt k hk).1)); have Hown' := zJ2 hown'; clear hgrow hat hown')
    go_roundw
    case rel =>
     refine ⟨k + 1, A2, c2, o ++ [s], by omega, by go_num, by simp, zJ1 Ho2, by simp; omega, ?_, zJ1 hb1⟩
     rw [yJv]
     simpa using zJ1 Hown'
    case measure => simp [intOf]; omega
   ·have hbq : (((s.kind : Nat) : Int) == 1) = false := by simp; omega
    have ho2 : o = El.loads (l.take (k + 1)) := by
     rw [List.take_add_one, hs, zJ1 Ho]
     simp [El.loads, El.isLoad, hc]
    have Ho2 := zJ2 ho2
    clear ho2 hs hc
    go_wp2
    go_roundw
    case rel => exact ⟨k + 1, A', c', o, by omega, by go_num, rfl, zJ1 Ho2, by omega, hown.alloc _, hb.alloc hsz _⟩
    case measure => simp [intOf]; omega
  ·have ho2 : o = El.loads l := by
    have := zJ1 Ho
    rwa [List.take_of_length_le (by have := zJ1 Hln; omega)] at this
   have Ho2 := zJ2 ho2
   clear ho2
   go_wp2
   go_ret
   rw [<- zJ1 Ho2]
   exact ⟨A', c', rfl, hown, hb⟩
structure MapG (w : World) (g : Nat) (d : TypeDesc) (m : List (Value × Value)) : Prop where
 there : ∃ es clk, w.heap[g]? = some (.map es clk) /\ es.toList.map (fun e => (e.key, e.val)) = m
 keys : ∀ p ∈ m, Go.MapKept.IsKey d p.1
 once : m.Pairwise (fun p q => p.1 ≠ q.1)
section
variable {P : Program} {t kt e : TypeId} {d : TypeDesc} {w : World} {g : Nat} {m : List (Value × Value)} {x v : Value}
theorem uJy (hx : Go.MapKept.IsKey d x) : ∀ (es : List MapEntry) (m : List (Value × Value)) (i : Nat), es.map (fun e => (e.key, e.val)) = m -> (∀ p ∈ m, Go.MapKept.IsKey d p.1) -> (∀ p ∈ m, p.1 ≠ x) -> Instr.findNow d x es i = some none := by
 intro es
 induction es with
 | nil => intro m i h hk hn; rfl
 | cons e es ih =>
  intro m i h hk hn
  subst h
  simp only [List.map_cons, List.mem_cons, forall_eq_or_imp] at hk hn
  obtain ⟨r, hr, hiff⟩ := Go.MapKept.sameNow_of_keys hx hk.1
  have hrf : r = false := by
   cases r with
   | false => rfl
   | true => exact absurd (hiff.1 rfl).symm hn.1
  unfold Instr.findNow
  rw [hr, hrf]
  exact ih _ _ rfl hk.2 hn.2
theorem findG_yes (hx : Go.MapKept.IsKey d x) : ∀ (es : List MapEntry) (m : List (Value × Value)) (i : Nat), es.map (fun e => (e.key, e.val)) = m -> (∀ p ∈ m, Go.MapKept.IsKey d p.1) -> m.Pairwise (fun p q => p.1 ≠ q.1) -> (x, v) ∈ m -> ∃ j, Instr.findNow d x es i = some (some (j, v)) := by
 intro es
 induction es with
 | nil => intro m i h hk hp hm; subst h; cases hm
 | cons e es ih =>
  intro m i h hk hp hm
  subst h
  simp only [List.map_cons, List.mem_cons, forall_eq_or_imp] at hk hm
  rw [List.map_cons, List.pairwise_cons] at hp
  obtain ⟨r, hr, hiff⟩ := Go.MapKept.sameNow_of_keys hx hk.1
  unfold Instr.findNow
  rw [hr]
  rcases hm with hm | hm
  ·injection hm with h1 h2
   rw [hiff.2 h1]
   exact ⟨i, by rw [h2]⟩
  ·have hrf : r = false := by
    cases r with
    | false => rfl
    | true => exact absurd (hiff.1 rfl).symm (hp.1 _ hm)
   rw [hrf]
   exact ih _ _ rfl hk.2 hp.2 hm
theorem run_putG (ht : P.underlying t = some (.map kt e)) (hk : P.underlying kt = some d) (hik : Go.MapKept.IsKey d x) (h : MapG w g d m) (hx : ∀ p ∈ m, p.1 ≠ x) :
  ∃ w', (Instr.mapUpdate t (.map (some g)) x v).run P w = .ok () w' /\ MapG w' g d (m ++ [(x, v)]) /\ w.grownBy w' (some g) /\ w'.heap.size = w.heap.size := by
 obtain ⟨⟨es, clk, hg, hm⟩, hks, hone⟩ := h
 have hr := uJy hik es.toList m 0 hm hks hx
 have hlt : g < w.heap.size := (Array.getElem?_eq_some_iff.1 hg).1
 refine ⟨{ w with heap := w.heap.setIfInBounds g (.map (es.push { key := x, val := v, born := clk }) (clk + 1)) }, ?_, ⟨?_, ?_, ?_⟩, ?_, by simp⟩
 ·simp [Instr.mapUpdate, run_underlying ht, Go.MapKept.run_getObj_map hg, Go.MapKept.run_checkKey hk hik, Go.MapKept.run_findKey hk hr, Go.MapKept.run_setObj_map _ hg, Result.andThen]
 ·refine ⟨_, _, (Go.MapKept.heap_set hg).1, ?_⟩
  simp [hm]
 ·intro p hp
  rcases List.mem_append.1 hp with hp | hp
  ·exact hks p hp
  ·rw [List.mem_singleton] at hp
   subst hp
   exact hik
 ·rw [List.pairwise_append]
  refine ⟨hone, by simp, fun a ha b hb => ?_⟩
  rw [List.mem_singleton] at hb
  subst hb
  exact hx a ha
 ·exact ⟨rfl, rfl, rfl, by simp, fun i _ hi => (Go.MapKept.heap_set hg).2 i (fun e => hi (by rw [e]))⟩
theorem xJl (ht : P.underlying t = some (.map kt e)) (hk : P.underlying kt = some d) (hik : Go.MapKept.IsKey d x) (h : MapG w g d m) (hx : (x, v) ∈ m) :
  (Instr.lookup t (.map (some g)) x true).run P w = .ok (.tuple #[v, .bool true]) w /\ (Instr.lookup t (.map (some g)) x false).run P w = .ok v w := by
 obtain ⟨⟨es, clk, hg, hm⟩, hks, hone⟩ := h
 obtain ⟨j, hr⟩ := findG_yes hik es.toList m 0 hm hks hone hx
 constructor <;> simp [Instr.lookup, run_underlying ht, Go.MapKept.run_getObj_map hg, Go.MapKept.run_checkKey hk hik, Go.MapKept.run_findKey hk hr, Result.andThen]
theorem wJc (ht : P.underlying t = some (.map kt e)) (hk : P.underlying kt = some d) (hik : Go.MapKept.IsKey d x) {z : Value} (hz : (zeroValue e).run P w = .ok z w) (h : MapG w g d m) (hx : ∀ p ∈ m, p.1 ≠ x) :
  (Instr.lookup t (.map (some g)) x true).run P w = .ok (.tuple #[z, .bool false]) w /\ (Instr.lookup t (.map (some g)) x false).run P w = .ok z w := by
 obtain ⟨⟨es, clk, hg, hm⟩, hks, hone⟩ := h
 have hr := uJy hik es.toList m 0 hm hks hx
 constructor <;> simp [Instr.lookup, run_underlying ht, Go.MapKept.run_getObj_map hg, Go.MapKept.run_checkKey hk hik, Go.MapKept.run_findKey hk hr, hz, Result.andThen]
theorem MapG.nil (w : World) (d : TypeDesc) : MapG (w.alloc (.map #[] 0)) w.heap.size d [] := ⟨⟨#[], 0, heap_alloc_new _ _, rfl⟩, by simp, by simp⟩
theorem MapG.keep {w' : World} (h : MapG w g d m) (hk : w'.heap[g]? = w.heap[g]?) : MapG w' g d m := by
 obtain ⟨⟨es, clk, hg, hm⟩, hks, hone⟩ := h
 exact ⟨⟨es, clk, hk.trans hg, hm⟩, hks, hone⟩
theorem MapG.lt (h : MapG w g d m) : g < w.heap.size := by
 obtain ⟨⟨es, clk, hg, hm⟩, hks, hone⟩ := h
 exact (Array.getElem?_eq_some_iff.1 hg).1
theorem MapG.below {w' : World} {B : Nat} (h : MapG w g d m) (hb : Below B w w') (hg : g < B) : MapG w' g d m := h.keep (hb.block g hg)
theorem MapG.belowSz {w' : World} (h : MapG w g d m) (hb : Below w.heap.size w w') : MapG w' g d m := h.below hb h.lt
end
open Go.RowKit
structure MapB (w : World) (g : Nat) (d : TypeDesc) (m : List (Value × Value)) : Prop where
 there : ∃ es clk, w.heap[g]? = some (.map es clk) /\ es.toList.map (fun e => (e.key, e.val)) = m /\ (∀ x ∈ es.toList, x.born < clk) /\ (es.toList.map (·.born)).Nodup
 keys : ∀ p ∈ m, Go.MapKept.IsKey d p.1
 once : m.Pairwise (fun p q => p.1 ≠ q.1)
section
variable {P : Program} {t kt e : TypeId} {d : TypeDesc} {w : World} {g : Nat} {m : List (Value × Value)} {x v : Value}
theorem MapB.toG (h : MapB w g d m) : MapG w g d m := by
 obtain ⟨⟨es, clk, h1, h2, _⟩, h3, h4⟩ := h
 exact ⟨⟨es, clk, h1, h2⟩, h3, h4⟩
theorem MapB.nil (w : World) (d : TypeDesc) : MapB (w.alloc (.map #[] 0)) w.heap.size d [] := ⟨⟨#[], 0, heap_alloc_new _ _, rfl, by simp, by simp⟩, by simp, by simp⟩
theorem MapB.keep {w' : World} (h : MapB w g d m) (hk : w'.heap[g]? = w.heap[g]?) : MapB w' g d m := by
 obtain ⟨⟨es, clk, h1, r⟩, h3, h4⟩ := h
 exact ⟨⟨es, clk, hk.trans h1, r⟩, h3, h4⟩
theorem MapB.lt (h : MapB w g d m) : g < w.heap.size := h.toG.lt
theorem MapB.below {w' : World} {B : Nat} (h : MapB w g d m) (hb : Below B w w') (hg : g < B) : MapB w' g d m := h.keep (hb.block g hg)
theorem MapB.belowSz {w' : World} (h : MapB w g d m) (hb : Below w.heap.size w w') : MapB w' g d m := h.below hb h.lt
theorem run_putB (ht : P.underlying t = some (.map kt e)) (hk : P.underlying kt = some d) (hik : Go.MapKept.IsKey d x) (h : MapB w g d m) (hx : ∀ p ∈ m, p.1 ≠ x) :
  ∃ w', (Instr.mapUpdate t (.map (some g)) x v).run P w = .ok () w' /\ MapB w' g d (m ++ [(x, v)]) /\ w.grownBy w' (some g) /\ w'.heap.size = w.heap.size := by
 obtain ⟨⟨es, clk, hg, hm, hb, hn⟩, hks, hone⟩ := h
 have hr := uJy hik es.toList m 0 hm hks hx
 have hlt : g < w.heap.size := (Array.getElem?_eq_some_iff.1 hg).1
 refine ⟨{ w with heap := w.heap.setIfInBounds g (.map (es.push { key := x, val := v, born := clk }) (clk + 1)) }, ?_, ⟨?_, ?_, ?_⟩, ?_, by simp⟩
 ·simp [Instr.mapUpdate, run_underlying ht, Go.MapKept.run_getObj_map hg, Go.MapKept.run_checkKey hk hik, Go.MapKept.run_findKey hk hr, Go.MapKept.run_setObj_map _ hg, Result.andThen]
 ·refine ⟨_, _, (Go.MapKept.heap_set hg).1, ?_, ?_, ?_⟩
  ·simp [hm]
  ·intro y hy
   simp only [Array.toList_push, List.mem_append, List.mem_singleton] at hy
   rcases hy with hy | hy
   ·have := hb y hy; omega
   ·subst hy; simp
  ·rw [Array.toList_push, List.map_append, List.nodup_append]
   refine ⟨hn, by simp, ?_⟩
   intro a ha b hb2
   obtain ⟨y, hy, rfl⟩ := List.mem_map.1 ha
   simp at hb2
   subst hb2
   have := hb y hy
   omega
 ·intro p hp
  rcases List.mem_append.1 hp with hp | hp
  ·exact hks p hp
  ·rw [List.mem_singleton] at hp
   subst hp
   exact hik
 ·rw [List.pairwise_append]
  refine ⟨hone, by simp, fun a ha b hb => ?_⟩
  rw [List.mem_singleton] at hb
  subst hb
  exact hx a ha
 ·exact ⟨rfl, rfl, rfl, by simp, fun i _ hi => (Go.MapKept.heap_set hg).2 i (fun e => hi (by rw [e]))⟩
theorem yJa (ht : P.underlying t = some (.map kt e)) (hk : P.underlying kt = some d) (hik : Go.MapKept.IsKey d x) (h : MapB w g d m) (hx : (x, v) ∈ m) :
  (Instr.lookup t (.map (some g)) x true).run P w = .ok (.tuple #[v, .bool true]) w /\ (Instr.lookup t (.map (some g)) x false).run P w = .ok v w := xJl ht hk hik h.toG hx
theorem yJl (ht : P.underlying t = some (.map kt e)) (hk : P.underlying kt = some d) (hik : Go.MapKept.IsKey d x) {z : Value} (hz : (zeroValue e).run P w = .ok z w) (h : MapB w g d m) (hx : ∀ p ∈ m, p.1 ≠ x) :
  (Instr.lookup t (.map (some g)) x true).run P w = .ok (.tuple #[z, .bool false]) w /\ (Instr.lookup t (.map (some g)) x false).run P w = .ok z w := wJc ht hk hik hz h.toG hx
theorem wJu {ops : Array Oper} {rest : List Oper} {o : Oper} {a : Act} {Q : Exit -> Act -> World -> Prop} (hgd : o.guard = none) (mo xo vo : Operand) (ho : o.op = .insert t mo xo vo)
  (ht : P.underlying t = some (.map kt e)) (hk : P.underlying kt = some d) (hik : Go.MapKept.IsKey d x) (hmo : a.eval mo = .map (some g)) (hxo : a.eval xo = x) (hvo : a.eval vo = v) (h : MapB w g d m) (hx : ∀ p ∈ m, p.1 ≠ x)
  (hK : ∀ w', MapB w' g d (m ++ [(x, v)]) -> w.grownBy w' (some g) -> w'.heap.size = w.heap.size -> wpList P ops Q rest (a.put o.dst undef) w') : wpList P ops Q (o :: rest) a w := by
 obtain ⟨w', hrun, h1, h2, h3⟩ := run_putB (v := v) ht hk hik h hx
 refine wpList_plain hgd fun K hK' => ?_
 unfold Oper.wp
 simp [execOp, ho, hmo, hxo, hvo, hrun, Result.andThen]
 exact hK' _ _ (hK w' h1 h2 h3)
theorem wpList_insC {ops : Array Oper} {rest : List Oper} {o : Oper} {a : Act} {Q : Exit -> Act -> World -> Prop} (hgd : o.guard = none) (mo : Operand) (x v : Value) (ho : o.op = .insert t mo (.const x) (.const v)) (hdst : o.dst = none)
  (ht : P.underlying t = some (.map kt e)) (hk : P.underlying kt = some d) (hmo : a.eval mo = .map (some g)) (hik : Go.MapKept.IsKey d x) (h : MapB w g d m) (hx : ∀ p ∈ m, p.1 ≠ x)
  (hK : ∀ w', MapB w' g d (m ++ [(x, v)]) -> w.grownBy w' (some g) -> w'.heap.size = w.heap.size -> wpList P ops Q rest a w') : wpList P ops Q (o :: rest) a w :=
 wJu hgd mo (.const x) (.const v) ho ht hk hik hmo rfl rfl h hx (by rw [hdst]; exact hK)
theorem xJd {ops : Array Oper} {rest : List Oper} {o : Oper} {a : Act} {Q : Exit -> Act -> World -> Prop} (hgd : o.guard = none) (mo xo vo : Operand) (ho : o.op = .mapUpdate t mo xo vo)
  (ht : P.underlying t = some (.map kt e)) (hk : P.underlying kt = some d) (hik : Go.MapKept.IsKey d x) (hmo : a.eval mo = .map (some g)) (hxo : a.eval xo = x) (hvo : a.eval vo = v) (h : MapB w g d m) (hx : ∀ p ∈ m, p.1 ≠ x)
  (hK : ∀ w', MapB w' g d (m ++ [(x, v)]) -> w.grownBy w' (some g) -> w'.heap.size = w.heap.size -> wpList P ops Q rest (a.put o.dst undef) w') : wpList P ops Q (o :: rest) a w := by
 obtain ⟨w', hrun, h1, h2, h3⟩ := run_putB (v := v) ht hk hik h hx
 refine wpList_plain hgd fun K hK' => ?_
 unfold Oper.wp
 simp [execOp, ho, hmo, hxo, hvo, hrun, Result.andThen]
 exact hK' _ _ (hK w' h1 h2 h3)
end
end Go.Proofs.YtiiiblmhlhikkaaGreatDoor
namespace Go.Proofs.YtiiiblmhlhikkaaGreatDoor
theorem vJd {w : World} {base : Nat} {e : TypeId} {size n c : Nat} {A : Option Addr} {xs : List Value} (h : w.ownsRow base e size (.slice A n c) n xs) : n <= c := by
 rcases h.2 with ⟨h0, h1⟩ | ⟨g, cap, cur, hv, hb, hg, hnc, _⟩
 ·omega
 ·injection hv with _ _ h3
  omega
end Go.Proofs.YtiiiblmhlhikkaaGreatDoor
namespace Go.Proofs.YtiiiblmhlhikkaaGreatDoor
open Go.RowKit
structure Ds where
 Ab : Option Addr
 m : Nat
 cb : Nat
 b : List UInt8
 ty : Int
 en : Int
 ph : Int
 As : Option Addr
 n : Nat
 c : Nat
 segs : List El.Sg
 Al : Option Addr
 k : Nat
 cl : Nat
 L : List (Nat × Nat)
 gm : Nat
def entC (l : List (Nat × Nat)) : List Value := l.flatMap fun e => [.int .u64 (e.1 : Nat), .int .u64 (e.2 : Nat)]
def Dy.tagsV (l : List (Nat × Nat)) : List (Value × Value) := (l.filter fun e => Dy.once e.1).map fun e => (.int .u64 (e.1 : Nat), .int .u64 (e.2 : Nat))
structure DsM (w : World) (B g : Nat) (d : Ds) (T : List (Nat × Nat)) : Prop where
 hB : B <= g
 blk : Blk w g 255 [.slice d.Ab d.m d.cb, .int .u16 d.ty, .int .u64 d.en, .int .u64 d.ph, .slice d.As d.n d.c, .slice d.Al d.k d.cl, .map (some d.gm)]
 b : Rd w B 1 d.Ab d.m (bys d.b)
 segs : Rd w B 6 d.As d.n (segCells d.segs)
 list : w.ownsRow B 259 2 (.slice d.Al d.k d.cl) d.k (entC d.L)
 tags : MapB w d.gm (.int .u64) (Dy.tagsV T)
 tagsB : B <= d.gm
structure DsOk (d : Ds) : Prop where
 m : d.m <= 4294967296
 mc : d.m <= d.cb
 n : d.n <= 4294967296
 fit : ∀ s ∈ d.segs, SgFit s
 ent : ∀ e ∈ d.L, e.1 < 18446744073709551616 /\ e.2 < 18446744073709551616
section
variable {w w' : World} {B g : Nat} {d : Ds} {T : List (Nat × Nat)}
theorem DsM.belowSz (h : DsM w B g d T) (hb : Below w.heap.size w w') : DsM w' B g d T :=
 ⟨h.hB, h.blk.belowSz hb, h.b.below (hb.mono (Nat.le_trans h.hB (Nat.le_of_lt h.blk.lt))), h.segs.below (hb.mono (Nat.le_trans h.hB (Nat.le_of_lt h.blk.lt))), own_below h.list hb, h.tags.belowSz hb, h.tagsB⟩
theorem DsM.sz (h : DsM w B g d T) : B <= w.heap.size := Nat.le_trans h.hB (Nat.le_of_lt h.blk.lt)
theorem DsM.drewN (h : DsM w B g d T) (j : Nat) : DsM (w.drewN j) B g d T := h.belowSz (below_drewN' (Below.refl _ _) j)
theorem DsM.cells (h : DsM w B g d T) : w.cell? ⟨g, 0, none⟩ = some (.slice d.Ab d.m d.cb) /\ w.cell? ⟨g, 1, none⟩ = some (.int .u16 d.ty) /\ w.cell? ⟨g, 2, none⟩ = some (.int .u64 d.en) /\ w.cell? ⟨g, 3, none⟩ = some (.int .u64 d.ph) /\ w.cell? ⟨g, 4, none⟩ = some (.slice d.As d.n d.c) /\ w.cell? ⟨g, 5, none⟩ = some (.slice d.Al d.k d.cl) /\ w.cell? ⟨g, 6, none⟩ = some (.map (some d.gm)) :=
 ⟨h.blk.cell rfl, h.blk.cell rfl, h.blk.cell rfl, h.blk.cell rfl, h.blk.cell rfl, h.blk.cell rfl, h.blk.cell rfl⟩
end
namespace Dy
def laidP (addr size : Nat) (s : El.Sg) : Bool := decide (s.addr <= addr) && decide (addr - s.addr + size <= s.fsz)
def laidAt (n : Nat) (s : El.Sg) (addr size : Nat) : Option Nat := if s.off + (addr - s.addr) < 18446744073709551616 /\ s.off + (addr - s.addr) + size <= n then some (s.off + (addr - s.addr)) else none
theorem laid_eq (n : Nat) (l : List El.Sg) (addr size : Nat) : laid n l addr size = match l.find? (laidP addr size) with
  | none => none
  | some s => laidAt n s addr size := rfl
theorem laid_cons (n : Nat) (s : El.Sg) (r : List El.Sg) (addr size : Nat) : laid n (s :: r) addr size = if laidP addr size s = true then laidAt n s addr size else laid n r addr size := by
 rw [laid_eq, laid_eq, List.find?_cons]
 cases laidP addr size s <;> rfl
theorem laid_in {n : Nat} {l : List El.Sg} {addr size off : Nat} (h : laid n l addr size = some off) : off + size <= n /\ off < 18446744073709551616 := by
 induction l with
 | nil => cases h
 | cons s r ih =>
  rw [laid_cons] at h
  split at h
  ·unfold laidAt at h
   split at h
   ·next h2 => injection h with h; subst h; exact ⟨h2.2, h2.1⟩
   ·cases h
  ·exact ih h
end Dy
def LaidE (o : Option Nat) (size B : Nat) (b : List UInt8) (w : World) (e : Ending) (w' : World) : Prop :=
 ((o = none /\ e = .returned (.tuple #[.slice none 0 0, .bool false])) \/ ∃ off A' c', o = some off /\ e = .returned (.tuple #[.slice A' size c', .bool true]) /\ Rd w' B 1 A' size (bys (Dy.cut b off size)) /\ size <= c') /\ Below w.heap.size w w'
set_option maxRecDepth 100000 in
set_option maxHeartbeats 4000000 in
theorem laid_any (B g : Nat) (d : Ds) (T : List (Nat × Nat)) (addr size : Nat) (w : World) (hd : DsM w B g d T) (ho : DsOk d) (ha : addr < 18446744073709551616) (hs : size < 18446744073709551616) :
  Calls Tryz.prog 141 #[.pointer (some ⟨g, 0, none⟩), .int .u64 addr, .int .u64 size] w (LaidE (Dy.laid d.m (El.loads d.segs) addr size) size B d.b w) := by
 obtain ⟨x0, x1, x2, x3, x4, -, -⟩ := hd.cells
 have KL := loads_any d.As d.n d.c w.heap.size d.segs d.ty d.en d.ph w (Nat.le_refl _) (hd.segs.more hd.sz) ho.n
 obtain ⟨R, hR⟩ : ∃ R, Dy.laid d.m (El.loads d.segs) addr size = R := ⟨_, rfl⟩
 rw [hR]
 have hfit : ∀ s ∈ El.loads d.segs, SgFit s := fun s hm => ho.fit s (List.mem_filter.1 hm).1
 have hll : (El.loads d.segs).length <= 4294967296 := by
  have h1 : (El.loads d.segs).length <= d.segs.length := List.length_filter_le _ _
  have h2 := hd.segs.1
  rw [zJw] at h2
  have := ho.n
  omega
 obtain ⟨ls, hls⟩ : ∃ l, El.loads d.segs = l := ⟨_, rfl⟩
 rw [hls] at KL hR hfit hll
 have hm := ho.m
 have hmc := ho.mc
 have hbd := hd.b
 have hszB := hd.sz
 have kf := fun (w' : World) (j : Nat) (h : j <= d.m) (k : Nat) (h2 : k <= j) => vJ1 (P := Tryz.prog) Tryz.underlying64 (e := 5) (by kernel_rfl) .u64 .u64 d.Ab d.m d.cb k j h2 (Nat.le_trans h hmc) w'
 obtain ⟨Ab, m, cb, b, ty, en, ph, As, n, c, segs, Al, k0, cl, L, gm⟩ := d
 dsimp only at *
 have HKL := zJ2 KL
 have HR := zJ2 hR
 have Hfit := zJ2 hfit
 have Hbd := zJ2 hbd
 have Hkf := zJ2 kf
 have hdb := hd.blk
 have Hdb := zJ2 hdb
 clear KL hR hfit hbd kf hd ho hls hdb
 go_enter Tryz.func141, Tryz.ntmps141
 go_wp2_with fail
 refine (zJ1 HKL).mono ?_
 rintro e w1 ⟨A1, c1, rfl, ho1, hb1⟩
 have Hb1 := zJ2 hb1
 have Hr1 := zJ2 (Rd.of_own ho1)
 obtain ⟨kk, hkk⟩ : ∃ k, ls.length = k := ⟨_, rfl⟩
 rw [hkk] at hll Hr1 ⊢
 have Hkk := zJ2 hkk
 clear hb1 ho1 hkk x0 x1 x2 x3 x4 HKL
 go_wp2_with fail
 go_loopg [18] kk (fun gk iv wr => ∃ j : Nat, gk = kk - j /\ j <= kk /\ iv = .int .i64 j /\ Dy.laid m (ls.drop j) addr size = R /\ Below w1.heap.size w1 wr)
 case atStart => exact ⟨0, by omega, Nat.zero_le _, rfl, by simpa using zJ1 HR, Below.refl _ _⟩
 case round =>
 obtain ⟨j, hgk, hj, rfl, hlj, hbr⟩ := hrel
 have Hgk := zJ2 hgk
 have Hlj := zJ2 hlj
 have Hbr := zJ2 hbr
 clear hgk hlj hbr HR
 by_cases hlt : j < kk
 case neg =>
  have h0 := zJ1 Hlj
  rw [List.drop_of_length_le (by rw [zJ1 Hkk]; omega)] at h0
  have h0 : R = none := by rw [<- h0]; rfl
  subst h0
  have ige : ¬ (j : Int) < (kk : Int) := by omega
  go_wp2_with fail
  go_ret2
  exact ⟨.inl ⟨rfl, rfl⟩, (zJ1 Hb1).trans ((zJ1 Hbr).mono (zJ1 Hb1).size)⟩
 obtain ⟨s, hsj⟩ : ∃ s, ls[j]? = some s := ⟨_, List.getElem?_eq_getElem (by rw [zJ1 Hkk]; exact hlt)⟩
 obtain ⟨hf0, hf1, hf2, hf3, hf4, hf5⟩ := (zJ1 Hfit) s (List.mem_of_getElem? hsj)
 obtain ⟨b1, o1, hA1, hbb, c0, c1, c2, c3, c4, c5⟩ := wJb ((zJ1 Hr1).below (zJ1 Hbr)) hsj
 subst hA1
 have hlj := zJ1 Hlj
 rw [List.drop_eq_getElem_cons (by rw [zJ1 Hkk]; exact hlt), show ls[j]'(by rw [zJ1 Hkk]; exact hlt) = s from (List.getElem?_eq_some_iff.1 hsj).2, Dy.laid_cons] at hlj
 have hB2 : Blk (wr.alloc (.cells #[.int .u32 (s.kind : Nat), .int .u8 (s.flags : Nat), .int .u64 (s.off : Nat), .int .u64 (s.addr : Nat), .int .u64 (s.fsz : Nat), .int .u64 (s.msz : Nat)] 58)) wr.heap.size 58 [.int .u32 (s.kind : Nat), .int .u8 (s.flags : Nat), .int .u64 (s.off : Nat), .int .u64 (s.addr : Nat), .int .u64 (s.fsz : Nat), .int .u64 (s.msz : Nat)] := Blk.new wr 58 [.int .u32 (s.kind : Nat), .int .u8 (s.flags : Nat), .int .u64 (s.off : Nat), .int .u64 (s.addr : Nat), .int .u64 (s.fsz : Nat), .int .u64 (s.msz : Nat)]
 have HB2 := zJ2 hB2
 clear hB2
 have Hb2 := zJ2 ((zJ1 Hbr).alloc (zJ1 Hbr).size (.cells #[.int .u32 (s.kind : Nat), .int .u8 (s.flags : Nat), .int .u64 (s.off : Nat), .int .u64 (s.addr : Nat), .int .u64 (s.fsz : Nat), .int .u64 (s.msz : Nat)] 58))
 have KI := fun w' (h : s.addr <= addr) => zJf ((addr : Int) - (s.addr : Int)) size s.fsz w' (by omega) (by omega) (by omega) (by omega) (by omega)
 have ilt : (j : Int) < (kk : Int) := by omega
 by_cases ha2 : s.addr <= addr
 case neg =>
  have hno : ¬ Dy.laidP addr size s = true := by unfold Dy.laidP; simp; omega
  rw [if_neg hno] at hlj
  have Hlj2 := zJ2 hlj
  have g1 : decide (addr < s.addr) = true := by simp; omega
  clear hlj hno KI ha2 Hlj
  go_wp2_with fail
  go_roundg (kk - (j + 1))
  case measure => have := zJ1 Hgk; omega
  case rel => exact ⟨j + 1, rfl, by omega, by go_num, zJ1 Hlj2, zJ1 Hb2⟩
 have g1 : decide (addr < s.addr) = false := by simp; omega
 have KI1 := fun w' => KI w' ha2
 obtain ⟨ib, hib⟩ : ∃ b, decide ((addr : Int) - (s.addr : Int) + (size : Int) <= (s.fsz : Int)) = b := ⟨_, rfl⟩
 rw [hib] at KI1
 have hpl : Dy.laidP addr size s = ib := by
  rw [<- hib]
  unfold Dy.laidP
  rw [decide_eq_true ha2, Bool.true_and, decide_eq_decide]
  omega
 rw [hpl] at hlj
 have HKI := zJ2 KI1
 have Hlj2 := zJ2 hlj
 have ha3 : (s.addr : Int) <= (addr : Int) := by omega
 clear KI KI1 hib hpl hlj Hlj
 cases ib with
 | false =>
  have hlj := zJ1 Hlj2
  rw [if_neg (by decide)] at hlj
  have Hlj3 := zJ2 hlj
  clear hlj Hlj2
  go_wp2_with fail
  refine ((zJ1 HKI) _).mono ?_
  rintro e w2 ⟨rfl, rfl⟩
  go_wp2_with fail
  go_roundg (kk - (j + 1))
  case measure => have := zJ1 Hgk; omega
  case rel => exact ⟨j + 1, rfl, by omega, by go_num, zJ1 Hlj3, zJ1 Hb2⟩
 | true =>
 have hlj := zJ1 Hlj2
 rw [if_pos rfl] at hlj
 unfold Dy.laidAt at hlj
 have Hlj3 := zJ2 hlj
 have hda := (zJ1 Hdb).belowSz ((zJ1 Hb1).trans ((zJ1 Hb2).mono (zJ1 Hb1).size))
 have HD2 := zJ2 hda
 obtain ⟨z0, z1, z2, z3, z4, z5⟩ := And.intro ((zJ1 HB2).cell (i := 0) rfl) (And.intro ((zJ1 HB2).cell (i := 1) rfl) (And.intro ((zJ1 HB2).cell (i := 2) rfl) (And.intro ((zJ1 HB2).cell (i := 3) rfl) (And.intro ((zJ1 HB2).cell (i := 4) rfl) ((zJ1 HB2).cell (i := 5) rfl)))))
 have x0 := hda.cell (i := 0) rfl
 have hBel := (zJ1 Hb1).trans ((zJ1 Hb2).mono (zJ1 Hb1).size)
 have HBel := zJ2 hBel
 clear hlj Hlj2 hda hBel
 go_wp2_with fail
 refine ((zJ1 HKI) _).mono ?_
 rintro e w2 ⟨rfl, rfl⟩
 by_cases hof : s.off + (addr - s.addr) < 18446744073709551616
 case neg =>
  have hR := zJ1 Hlj3
  rw [if_neg (fun h => hof h.1)] at hR
  subst hR
  have KA := zJ2 (fun w' => add_no (s.off : Int) ((addr : Int) - (s.addr : Int)) w' (by omega) (by omega) (by omega) (by omega))
  clear Hlj3 hof HKI
  go_wp2_with fail
  refine ((zJ1 KA) _).mono ?_
  rintro e w3 ⟨rfl, rfl⟩
  go_wp2_with fail
  go_ret2
  exact ⟨.inl ⟨rfl, rfl⟩, zJ1 HBel⟩
 have KA := zJ2 (fun w' => add_yes (s.off : Int) ((addr : Int) - (s.addr : Int)) w' (by omega) (by omega) (by omega))
 obtain ⟨off, hoff⟩ : ∃ o, s.off + (addr - s.addr) = o := ⟨_, rfl⟩
 have hoi : (s.off : Int) + ((addr : Int) - (s.addr : Int)) = (off : Int) := by omega
 rw [hoff] at hof
 have KA1 := zJ1 KA
 rw [hoi] at KA1
 have HKA := zJ2 KA1
 have KI3 := zJ2 (fun w' => zJf (off : Int) size m w' (by omega) (by omega) (by omega) (by omega) (by omega))
 have hlj := zJ1 Hlj3
 rw [hoff] at hlj
 clear KA KA1 hoi hoff HKI Hlj3
 by_cases hin : off + size <= m
 case neg =>
  rw [if_neg (fun h => hin h.2)] at hlj
  subst hlj
  have ki := zJ1 KI3
  rw [show decide (((off : Nat) : Int) + ((size : Nat) : Int) <= ((m : Nat) : Int)) = false by simp; omega] at ki
  have HKI3 := zJ2 ki
  clear KI3 ki hin
  go_wp2_with fail
  refine ((zJ1 HKA) _).mono ?_
  rintro e w3 ⟨rfl, rfl⟩
  go_wp2_with fail
  refine ((zJ1 HKI3) _).mono ?_
  rintro e w4 ⟨rfl, rfl⟩
  go_wp2_with fail
  go_ret2
  exact ⟨.inl ⟨rfl, rfl⟩, zJ1 HBel⟩
 rw [if_pos ⟨hof, hin⟩] at hlj
 subst hlj
 have ki := zJ1 KI3
 rw [show decide (((off : Nat) : Int) + ((size : Nat) : Int) <= ((m : Nat) : Int)) = true by simp; omega] at ki
 have HKI3 := zJ2 ki
 have kf := fun w' => (zJ1 Hkf) w' (off + size) hin off (by omega)
 rw [Nat.add_sub_cancel_left] at kf
 have hsum : ((off + size : Nat) : Int) = (off : Int) + (size : Int) := by omega
 rw [hsum] at kf
 have hres := ((zJ1 Hbd).below ((zJ1 HBel).mono hszB)).cut (k := off) (j := off + size) (by omega) hin hmc
 rw [Nat.add_sub_cancel_left, show ((bys b).drop off).take size = bys (Dy.cut b off size) by unfold bys Dy.cut; rw [List.map_take, List.map_drop]] at hres
 have Hres := zJ2 hres
 have hcs : size <= cb - off := by omega
 have hin2 : (off : Int) + (size : Int) <= (m : Int) := by omega
 clear KI3 ki hsum hres
 go_wp2_with fail
 refine ((zJ1 HKA) _).mono ?_
 rintro e w3 ⟨rfl, rfl⟩
 go_wp2_with fail
 refine ((zJ1 HKI3) _).mono ?_
 rintro e w4 ⟨rfl, rfl⟩
 go_wp2_with fail
 go_ret2
 exact ⟨.inr ⟨off, _, _, rfl, rfl, zJ1 Hres, hcs⟩, zJ1 HBel⟩
open Go.RowKit
namespace Dy
theorem val_mem {L : List (Nat × Nat)} {t v : Nat} (h : val L t = some v) : (t, v) ∈ L := by
 induction L with
 | nil => cases h
 | cons e r ih =>
  unfold val at h
  split at h
  ·next h2 => injection h with h; subst h h2; simp
  ·simp [ih h]
theorem val_none {L : List (Nat × Nat)} {t : Nat} (h : val L t = none) : ∀ e ∈ L, e.1 ≠ t := by
 induction L with
 | nil => intro e he; cases he
 | cons e r ih =>
  unfold val at h
  split at h
  ·cases h
  ·next h2 =>
   intro x hx
   rcases List.mem_cons.1 hx with rfl | hx
   ·exact h2
   ·exact ih h x hx
theorem tagsV_yes {L : List (Nat × Nat)} {t v : Nat} (h : val L t = some v) (ho : once t = true) : (Value.int .u64 (t : Nat), Value.int .u64 (v : Nat)) ∈ tagsV L := by
 unfold tagsV
 rw [List.mem_map]
 exact ⟨(t, v), List.mem_filter.2 ⟨val_mem h, ho⟩, rfl⟩
theorem tagsV_no {L : List (Nat × Nat)} {t : Nat} (h : val L t = none) : ∀ p ∈ tagsV L, p.1 ≠ Value.int .u64 (t : Nat) := by
 intro p hp e
 unfold tagsV at hp
 obtain ⟨x, hx, rfl⟩ := List.mem_map.1 hp
 have hm := (List.mem_filter.1 hx).1
 have h2 := val_none h x hm
 simp at e
 exact h2 (by omega)
end Dy
theorem zero_u64 (w : World) : (zeroValue 46).run Tryz.prog w = .ok (.int .u64 0) w := by kernel_rfl
theorem yJn {w : World} {B g : Nat} {d : Ds} (h : DsM w B g d d.L) {t : Nat} (ho : Dy.once t = true) :
  (Instr.lookup 252 (.map (some d.gm)) (.int .u64 (t : Nat)) true).run Tryz.prog w = .ok (.tuple #[.int .u64 ((Dy.val d.L t).getD 0 : Nat), .bool (Dy.val d.L t).isSome]) w /\
  (Instr.lookup 252 (.map (some d.gm)) (.int .u64 (t : Nat)) false).run Tryz.prog w = .ok (.int .u64 ((Dy.val d.L t).getD 0 : Nat)) w := by
 cases hv : Dy.val d.L t with
 | none => exact yJl Tryz.underlying252 Tryz.underlying46 (by simp [Go.MapKept.IsKey]) (zero_u64 w) h.tags (Dy.tagsV_no hv)
 | some v => exact yJa Tryz.underlying252 Tryz.underlying46 (by simp [Go.MapKept.IsKey]) h.tags (Dy.tagsV_yes hv ho)
theorem vJx {d : Ds} (h : DsOk d) (t : Nat) : (Dy.val d.L t).getD 0 < 18446744073709551616 := by
 cases hv : Dy.val d.L t with
 | none => decide
 | some v => exact (h.ent _ (Dy.val_mem hv)).2
def TableE (o : Option (Nat × Nat)) (B : Nat) (b : List UInt8) (w : World) (e : Ending) (w' : World) : Prop :=
 ((o = none /\ e = .returned (.tuple #[.slice none 0 0, .bool false])) \/ ∃ p n A' c', o = some (p, n) /\ e = .returned (.tuple #[.slice A' n c', .bool true]) /\ Rd w' B 1 A' n (bys (Dy.cut b p n)) /\ n <= c') /\ Below w.heap.size w w'
set_option maxRecDepth 100000 in
set_option maxHeartbeats 1000000 in
theorem wJx (B g : Nat) (d : Ds) (t1 t2 : Nat) (w : World) (hd : DsM w B g d d.L) (ho : DsOk d) (h1 : Dy.once t1 = true) (h2 : Dy.once t2 = true) :
  Calls Tryz.prog 89 #[.pointer (some ⟨g, 0, none⟩), .int .u64 (t1 : Nat), .int .u64 (t2 : Nat)] w (TableE (Dy.table d.m (El.loads d.segs) d.L t1 t2) B d.b w) := by
 obtain ⟨-, -, -, -, -, -, x6⟩ := hd.cells
 have l1 := (yJn hd h1).1
 have l2 := (yJn hd h2).2
 have KL := laid_any B g d d.L ((Dy.val d.L t1).getD 0) ((Dy.val d.L t2).getD 0) w hd ho (vJx ho t1) (vJx ho t2)
 have ht : Dy.table d.m (El.loads d.segs) d.L t1 t2 = match Dy.val d.L t1 with
  | none => some (0, 0)
  | some a => (Dy.laid d.m (El.loads d.segs) a ((Dy.val d.L t2).getD 0)).map fun o => (o, (Dy.val d.L t2).getD 0) := rfl
 rw [ht]
 obtain ⟨gm, hgm⟩ : ∃ g, d.gm = g := ⟨_, rfl⟩
 rw [hgm] at x6 l1 l2
 obtain ⟨v2, hv2⟩ : ∃ v, (Dy.val d.L t2).getD 0 = v := ⟨_, rfl⟩
 rw [hv2] at l2 KL ⊢
 obtain ⟨bb, hbb⟩ : ∃ b, d.b = b := ⟨_, rfl⟩
 rw [hbb] at KL ⊢
 clear hd ho ht hgm h1 h2 hv2 hbb
 cases hv : Dy.val d.L t1 with
 | none =>
  rw [hv] at l1
  have l1' : (Instr.lookup 252 (.map (some gm)) (.int .u64 (t1 : Nat)) true).run Tryz.prog w = .ok (.tuple #[.int .u64 0, .bool false]) w := l1
  clear l1 KL hv
  go_enter Tryz.func89, Tryz.ntmps89
  go_wp2_with fail
  go_ret2
  exact ⟨.inr ⟨0, 0, none, 0, rfl, rfl, Rd.none_ _ _ _ _, Nat.le_refl _⟩, Below.refl _ _⟩
 | some a =>
  rw [hv] at l1 KL
  have l1' : (Instr.lookup 252 (.map (some gm)) (.int .u64 (t1 : Nat)) true).run Tryz.prog w = .ok (.tuple #[.int .u64 (a : Nat), .bool true]) w := l1
  have KL' : Calls Tryz.prog 141 #[.pointer (some ⟨g, 0, none⟩), .int .u64 (a : Nat), .int .u64 (v2 : Nat)] w (LaidE (Dy.laid d.m (El.loads d.segs) a v2) v2 B bb w) := KL
  dsimp only
  obtain ⟨R, hR⟩ : ∃ R, Dy.laid d.m (El.loads d.segs) a v2 = R := ⟨_, rfl⟩
  rw [hR] at KL' ⊢
  have HKL := zJ2 KL'
  clear l1 KL KL' hv hR
  go_enter Tryz.func89, Tryz.ntmps89
  go_wp2_with fail
  refine (zJ1 HKL).mono ?_
  rintro e w1 ⟨⟨rfl, rfl⟩ | ⟨off, A', c', rfl, rfl, hr, hc⟩, hb1⟩
  ·go_wp2_with fail
   go_ret2
   exact ⟨.inl ⟨rfl, rfl⟩, hb1⟩
  ·have Hr := zJ2 hr
   clear hr
   go_wp2_with fail
   go_ret2
   exact ⟨.inr ⟨off, v2, A', c', rfl, rfl, zJ1 Hr, hc⟩, hb1⟩
end Go.Proofs.YtiiiblmhlhikkaaGreatDoor
namespace Go.Proofs.YtiiiblmhlhikkaaGreatDoor.Dy
def mustV (t : Nat) : Int := if t = 2 then 23 else if t = 4 then 6 else if t = 5 then 10 else if t = 6 then 4 else if t = 7 then 8 else if t = 8 then 7 else if t = 9 then -24 else if t = 10 then 5 else if t = 11 then -24 else if t = 20 then -7 else if t = 23 then 2 else 0
def okE (T : List (Nat × Nat)) (e : Nat × Nat) : Bool := !once e.1 || ((val T e.1).isNone && (decide (0 <= mustV e.1) || decide ((e.2 : Int) = -mustV e.1)))
theorem yJ8 (e : Nat × Nat) (r : List (Nat × Nat)) (t : Nat) : val (e :: r) t = if e.1 = t then some e.2 else val r t := rfl
theorem val_app {a b : List (Nat × Nat)} {t : Nat} : val (a ++ b) t = (val a t).or (val b t) := by
 induction a with
 | nil => rfl
 | cons e r ih =>
  rw [List.cons_append, yJ8, yJ8]
  split
  ·rfl
  ·exact ih
theorem vJy {L : List (Nat × Nat)} {t v : Nat} (h : (t, v) ∈ L) : (val L t).isSome = true := by
 induction L with
 | nil => cases h
 | cons e r ih =>
  rw [yJ8]
  split
  ·rfl
  ·rename_i h2
   rcases List.mem_cons.1 h with rfl | h
   ·exact absurd rfl h2
   ·exact ih h
theorem val_first {L : List (Nat × Nat)} {k : Nat} {e : Nat × Nat} (he : L[k]? = some e) (hn : val (L.take k) e.1 = none) : val L e.1 = some e.2 := by
 have hk := (List.getElem?_eq_some_iff.1 he).1
 have : L = L.take k ++ (e :: L.drop (k + 1)) := by
  conv => lhs; rw [<- List.take_append_drop k L]
  rw [List.drop_eq_getElem_cons hk, (List.getElem?_eq_some_iff.1 he).2]
 rw [this, val_app, hn, yJ8, if_pos rfl]
 rfl
theorem twice_no {L : List (Nat × Nat)} (h : ∀ k e, L[k]? = some e -> once e.1 = true -> val (L.take k) e.1 = none) : twice L = false := by
 induction L with
 | nil => rfl
 | cons x r ih =>
  unfold twice
  rw [Bool.or_eq_false_iff]
  refine ⟨?_, ih fun k e hk ho => ?_⟩
  ·cases ho : once x.1 with
   | false => rfl
   | true =>
    rw [Bool.true_and]
    cases hv : val r x.1 with
    | none => rfl
    | some v =>
     exfalso
     obtain ⟨j, hj⟩ := List.getElem?_of_mem (show (x.1, v) ∈ r by
      clear h ih
      induction r with
      | nil => cases hv
      | cons y q ih =>
       rw [yJ8] at hv
       split at hv
       ·next h2 => injection hv with hv; subst hv; rw [<- h2]; simp
       ·exact List.mem_cons_of_mem _ (ih hv))
     have := h (j + 1) (x.1, v) (by simpa using hj) ho
     rw [List.take_succ_cons, yJ8, if_pos rfl] at this
     cases this
  ·have := h (k + 1) e (by simpa using hk) ho
   rw [List.take_succ_cons, yJ8] at this
   split at this
   ·cases this
   ·exact this
theorem twice_yes {L : List (Nat × Nat)} {k : Nat} {e : Nat × Nat} (he : L[k]? = some e) (ho : once e.1 = true) (hv : val (L.take k) e.1 ≠ none) : twice L = true := by
 induction L generalizing k with
 | nil => simp at he
 | cons x r ih =>
  cases k with
  | zero => exact absurd rfl hv
  | succ k =>
   rw [List.take_succ_cons, yJ8] at hv
   have hr : r[k]? = some e := by simpa using he
   unfold twice
   by_cases h2 : x.1 = e.1
   ·have : (val r x.1).isSome = true := by
     rw [h2]
     exact vJy (v := e.2) (List.mem_of_getElem? hr)
    rw [h2] at this ⊢
    rw [ho, this]
    rfl
   ·rw [if_neg h2] at hv
    rw [ih hr hv, Bool.or_true]
theorem once_cases {t : Nat} (h : once t = true) : t = 2 \/ t = 4 \/ t = 5 \/ t = 6 \/ t = 7 \/ t = 8 \/ t = 9 \/ t = 10 \/ t = 11 \/ t = 14 \/ t = 15 \/ t = 20 \/ t = 23 \/ t = 29 := by
 unfold once at h
 simpa using h
theorem fits_bad {L : List (Nat × Nat)} {k : Nat} {e : Nat × Nat} (he : L[k]? = some e) (h : okE (L.take k) e = false) : fits L = false := by
 unfold okE at h
 rw [Bool.or_eq_false_iff, Bool.and_eq_false_iff, Bool.not_eq_false'] at h
 obtain ⟨ho, h⟩ := h
 unfold fits
 rcases h with h | h
 ·rw [twice_yes he ho (by intro h2; rw [h2] at h; cases h)]
  rfl
 ·rw [Bool.or_eq_false_iff, decide_eq_false_iff_not, decide_eq_false_iff_not] at h
  obtain ⟨hneg, hne⟩ := h
  by_cases hv : val (L.take k) e.1 = none
  ·have hval := val_first he hv
   have ht : e.1 = 9 \/ e.1 = 11 \/ e.1 = 20 := by
    have hm : mustV e.1 < 0 := by omega
    clear hneg hne hval hv
    rcases once_cases ho with h | h | h | h | h | h | h | h | h | h | h | h | h | h <;> rw [h] at hm <;> first | exact absurd hm (by decide) | exact .inl h | exact .inr (.inl h) | exact .inr (.inr h)
   rcases ht with ht | ht | ht
   ·rw [ht] at hval hne
    have : isV (val L 9) 24 = false := by rw [hval]; unfold isV; simp only [decide_eq_false_iff_not]; intro h2; exact hne (by rw [h2]; rfl)
    rw [this]
    simp
   ·rw [ht] at hval hne
    have : isV (val L 11) 24 = false := by rw [hval]; unfold isV; simp only [decide_eq_false_iff_not]; intro h2; exact hne (by rw [h2]; rfl)
    rw [this]
    simp
   ·rw [ht] at hval hne
    have : isV (val L 20) 7 = false := by rw [hval]; unfold isV; simp only [decide_eq_false_iff_not]; intro h2; exact hne (by rw [h2]; rfl)
    rw [this]
    simp
  ·rw [twice_yes he ho hv]
   rfl
def okT (L : List (Nat × Nat)) (t : Nat) : Bool := decide (mustV t <= 0) || (val L (mustV t).toNat).isSome
theorem wJ9 {L : List (Nat × Nat)} {t v : Nat} (h : val L t = some v) : (t, v) ∈ L := by
 induction L with
 | nil => cases h
 | cons e r ih =>
  rw [yJ8] at h
  split at h
  ·next h2 => injection h with h; subst h h2; simp
  ·exact List.mem_cons_of_mem _ (ih h)
theorem uJm {L : List (Nat × Nat)} {a b : Nat} (h1 : mustV a = (b : Nat)) (h2 : mustV b = (a : Nat)) (ha : 0 < a) (hb : 0 < b) (h : ∀ e ∈ L, once e.1 = true -> okT L e.1 = true) (oa : once a = true) (ob : once b = true) : pair L a b = true := by
 have key : ∀ x y, mustV x = (y : Nat) -> 0 < y -> once x = true -> (val L x).isSome = true -> (val L y).isSome = true := by
  intro x y hxy hy hx hs
  obtain ⟨v, hv⟩ := Option.isSome_iff_exists.1 hs
  have := h (x, v) (wJ9 hv) hx
  unfold okT at this
  rw [Bool.or_eq_true] at this
  rcases this with h3 | h3
  ·simp only [decide_eq_true_eq] at h3
   omega
  ·simp only [hxy] at h3
   simpa using h3
 unfold pair
 rw [beq_iff_eq]
 cases hx : (val L a).isSome with
 | true => rw [key a b h1 hb oa hx]
 | false =>
  cases hy : (val L b).isSome with
  | false => rfl
  | true => rw [key b a h2 ha ob hy] at hx; cases hx
theorem fits_good {L : List (Nat × Nat)} (h : ∀ k e, L[k]? = some e -> okE (L.take k) e = true) (h2 : ∀ e ∈ L, once e.1 = true -> okT L e.1 = true) : fits L = true := by
 have ho : ∀ k e, L[k]? = some e -> once e.1 = true -> val (L.take k) e.1 = none /\ (mustV e.1 < 0 -> (e.2 : Int) = -mustV e.1) := by
  intro k e hk hoe
  have := h k e hk
  unfold okE at this
  rw [hoe] at this
  simp only [Bool.not_true, Bool.false_or, Bool.and_eq_true, Option.isNone_iff_eq_none, Bool.or_eq_true, decide_eq_true_eq] at this
  exact ⟨this.1, fun hm => by rcases this.2 with h3 | h3; omega; exact h3⟩
 have hv : ∀ t v, once t = true -> mustV t = -(v : Nat) -> 0 < v -> isV (val L t) v = true := by
  intro t v hot hm hpos
  cases hvt : val L t with
  | none => rfl
  | some x =>
   unfold isV
   obtain ⟨k, hk⟩ := List.getElem?_of_mem (wJ9 hvt)
   have := (ho k (t, x) hk hot).2 (by rw [hm]; omega)
   simp only [hm] at this
   simp only [decide_eq_true_eq]
   omega
 unfold fits
 rw [twice_no (fun k e hk hoe => (ho k e hk hoe).1), hv 11 24 rfl rfl (by omega), hv 9 24 rfl rfl (by omega), hv 20 7 rfl rfl (by omega),
  uJm (a := 5) (b := 10) rfl rfl (by omega) (by omega) h2 rfl rfl, uJm (a := 4) (b := 6) rfl rfl (by omega) (by omega) h2 rfl rfl, uJm (a := 7) (b := 8) rfl rfl (by omega) (by omega) h2 rfl rfl, uJm (a := 23) (b := 2) rfl rfl (by omega) (by omega) h2 rfl rfl]
 rfl
theorem yJm {L : List (Nat × Nat)} {a b : Nat} (h1 : (val L a).isSome = true) (h2 : (val L b).isSome = false) : pair L a b = false /\ pair L b a = false := by
 unfold pair
 rw [h1, h2]
 exact ⟨rfl, rfl⟩
theorem fits_pair {L : List (Nat × Nat)} {e : Nat × Nat} (he : e ∈ L) (ho : once e.1 = true) (h : okT L e.1 = false) : fits L = false := by
 unfold okT at h
 rw [Bool.or_eq_false_iff, decide_eq_false_iff_not] at h
 obtain ⟨hm, hv⟩ := h
 have hs : (val L e.1).isSome = true := vJy (v := e.2) he
 unfold fits
 have hm2 : ¬ mustV e.1 <= 0 := hm
 rcases once_cases ho with h | h | h | h | h | h | h | h | h | h | h | h | h | h <;> rw [h] at hm2 hs hv
 ·have hv' : (val L 23).isSome = false := hv
  rw [(yJm hs hv').2]; simp
 ·have hv' : (val L 6).isSome = false := hv
  rw [(yJm hs hv').1]; simp
 ·have hv' : (val L 10).isSome = false := hv
  rw [(yJm hs hv').1]; simp
 ·have hv' : (val L 4).isSome = false := hv
  rw [(yJm hs hv').2]; simp
 ·have hv' : (val L 8).isSome = false := hv
  rw [(yJm hs hv').1]; simp
 ·have hv' : (val L 7).isSome = false := hv
  rw [(yJm hs hv').2]; simp
 ·exact absurd (by decide) hm2
 ·have hv' : (val L 5).isSome = false := hv
  rw [(yJm hs hv').2]; simp
 ·exact absurd (by decide) hm2
 ·exact absurd (by decide) hm2
 ·exact absurd (by decide) hm2
 ·exact absurd (by decide) hm2
 ·have hv' : (val L 2).isSome = false := hv
  rw [(yJm hs hv').1]; simp
 ·exact absurd (by decide) hm2
theorem many_take {L : List (Nat × Nat)} {k : Nat} {e : Nat × Nat} (he : L[k]? = some e) : many (L.take (k + 1)) = many (L.take k) + if e.1 = 1 then 1 else 0 := by
 unfold many
 rw [List.take_add_one, he, List.filter_append, List.length_append]
 simp only [Option.toList_some, List.filter_cons, List.filter_nil]
 by_cases h : e.1 = 1
 ·simp [h]
 ·simp [h]
theorem many_le (L : List (Nat × Nat)) : many L <= L.length := List.length_filter_le _ _
end Go.Proofs.YtiiiblmhlhikkaaGreatDoor.Dy
namespace Go.Proofs.YtiiiblmhlhikkaaGreatDoor
open Go.RowKit
def Dy.kn (t : Nat) (v : Int) : Value × Value := (.int .u64 (t : Nat), .int .i64 v)
def Dy.knownV : List (Value × Value) := [Dy.kn 1 0, Dy.kn 2 23, Dy.kn 4 6, Dy.kn 5 10, Dy.kn 6 4, Dy.kn 7 8, Dy.kn 8 7, Dy.kn 9 (-24), Dy.kn 10 5, Dy.kn 11 (-24), Dy.kn 14 0, Dy.kn 15 0, Dy.kn 20 (-7), Dy.kn 23 2, Dy.kn 29 0]
theorem uJw : Tryz.prog.underlying 281 = some (.map 46 3) := Tryz.underlying281
theorem zJc (w : World) : (zeroValue 3).run Tryz.prog w = .ok (.int .i64 0) w := by kernel_rfl
set_option maxRecDepth 100000 in
set_option maxHeartbeats 4000000 in
theorem known_any (w : World) : Calls Tryz.prog 173 #[] w fun e w' => ∃ g, e = .returned (.map (some g)) /\ MapB w' g (.int .u64) Dy.knownV /\ w.heap.size <= g /\ Below w.heap.size w w' := by
 have hmm := @run_makeMap Tryz.prog
 have HM := zJ2 (MapB.nil w (.int .u64))
 have HB : Hid (Below w.heap.size w (w.alloc (.map #[] 0))) := zJ2 ((Below.refl _ _).alloc (Nat.le_refl _) _)
 go_enter Tryz.func173, Tryz.ntmps173
 go_wp2_with ((with_reducible refine (@id (wpList _ _ _ (Oper.mk none (Op.insert 281 (.tmp 1) _ _) _ _ _ none :: _) _ _) ?_)); refine wpList_insC (g := w.heap.size) rfl _ _ _ rfl rfl uJw Tryz.underlying46 rfl (by simp [Go.MapKept.IsKey]) (zJ1 HM) (by simp) ?_; intro w2 hm2 hg2 hs2; have hb2 := (zJ1 HB).grown hg2 (zJ1 HB).size (fun k hk => by injection hk with hk; omega); clear HM HB hg2 hs2; have HM := zJ2 hm2; have HB := zJ2 hb2; clear hm2 hb2)
 go_ret
 exact ⟨w.heap.size, rfl, by simpa [Dy.knownV, Dy.kn] using zJ1 HM, Nat.le_refl _, zJ1 HB⟩
theorem wJz {w : World} {g : Nat} {cs : Array Value} {t : TypeId} {fr : Nat × Nat} (h : w.heap[g]? = some (.cells cs t fr)) : w.setRow g cs = w := by
 have h1 := setRow_heap w g cs cs t fr h
 have h2 : (w.setRow g cs).heap = w.heap := by
  apply Array.ext_getElem?
  intro i
  by_cases e : i = g
  ·subst e; rw [h1, h]
  ·exact setRow_other w g i cs e
 unfold World.setRow at h2 ⊢
 simp only at h2
 rw [h2]
section
variable {P : Program} {ops : Array Oper} {W : World} {o : Oper} {a : Act}
variable {S : World -> Prop}
end
theorem takeD {P : Program} {md : Region.Mode} {ops : Array Oper} {Q : Exit -> Act -> World -> Prop} {S : World -> Prop} {i : Nat} {oi : Oper} {v : Value} {d : Option Tmp} {fuel : Nat} {listed : Array Bool} {a : Act} {w : World} (hi : ops[i]? = some oi) (hd : oi.dst = d)
  (hs : Region.noSelect ops = true) (hf : Region.free md ops listed i = true) (hr : (Region.ready md ops listed).contains i = true)
  (hQ : ∀ c a w, Q (.panic c) (a.put d v) w -> Q (.panic c) a w) (hy : YieldsIf P ops S oi v a) (hS : S w)
  (h : wpAnyH P md ops Q S fuel (listed.setIfInBounds i true) (a.put d v) w) : wpAnyH P md ops Q S (fuel + 1) listed a w := by
 subst hd
 exact wpAnyH_take hi hs hf hr hQ hy hS h
section
variable {ops : Array Oper} {W : World} {o : Oper} {a : Act} {S : World -> Prop}
end
open Go.RowKit
namespace Dy
theorem mustV_once {t : Nat} (h : once t = false) : mustV t = 0 := by
 unfold mustV
 have h2 : t ≠ 2 /\ t ≠ 4 /\ t ≠ 5 /\ t ≠ 6 /\ t ≠ 7 /\ t ≠ 8 /\ t ≠ 9 /\ t ≠ 10 /\ t ≠ 11 /\ t ≠ 20 /\ t ≠ 23 := by
  refine ⟨?_, ?_, ?_, ?_, ?_, ?_, ?_, ?_, ?_, ?_, ?_⟩ <;> (rintro rfl; exact absurd h (by decide))
 simp [h2]
theorem mustV_bd (t : Nat) : -24 <= mustV t /\ mustV t <= 23 := by
 cases h : once t with
 | false => rw [mustV_once h]; omega
 | true => rcases once_cases h with h | h | h | h | h | h | h | h | h | h | h | h | h | h <;> rw [h] <;> decide
theorem mustV_pos {t : Nat} (h : 0 < mustV t) : once (mustV t).toNat = true := by
 cases ho : once t with
 | false => rw [mustV_once ho] at h; omega
 | true => rcases once_cases ho with h2 | h2 | h2 | h2 | h2 | h2 | h2 | h2 | h2 | h2 | h2 | h2 | h2 | h2 <;> rw [h2] at h ⊢ <;> first | rfl | exact absurd h (by decide)
end Dy
theorem kn_mem {t : Nat} (h : Dy.once t = true) : (Value.int .u64 (t : Nat), Value.int .i64 (Dy.mustV t)) ∈ Dy.knownV := by
 rcases Dy.once_cases h with h | h | h | h | h | h | h | h | h | h | h | h | h | h <;> subst h <;> simp [Dy.knownV, Dy.kn, Dy.mustV]
theorem kn_none {t : Nat} (h : Dy.once t = false) (h1 : t ≠ 1) : ∀ p ∈ Dy.knownV, p.1 ≠ Value.int .u64 (t : Nat) := by
 intro p hp e
 have h2 : t ≠ 2 /\ t ≠ 4 /\ t ≠ 5 /\ t ≠ 6 /\ t ≠ 7 /\ t ≠ 8 /\ t ≠ 9 /\ t ≠ 10 /\ t ≠ 11 /\ t ≠ 14 /\ t ≠ 15 /\ t ≠ 20 /\ t ≠ 23 /\ t ≠ 29 := by
  refine ⟨?_, ?_, ?_, ?_, ?_, ?_, ?_, ?_, ?_, ?_, ?_, ?_, ?_, ?_⟩ <;> (rintro rfl; exact absurd h (by decide))
 unfold Dy.knownV Dy.kn at hp
 simp only [List.mem_cons, List.not_mem_nil, or_false] at hp
 rcases hp with rfl | rfl | rfl | rfl | rfl | rfl | rfl | rfl | rfl | rfl | rfl | rfl | rfl | rfl | rfl <;> (simp at e; omega)
theorem uJ6 {w : World} {g t : Nat} (h : MapB w g (.int .u64) Dy.knownV) (h1 : t ≠ 1) :
  (Instr.lookup 281 (.map (some g)) (.int .u64 (t : Nat)) true).run Tryz.prog w = .ok (.tuple #[.int .i64 (Dy.mustV t), .bool (Dy.once t)]) w /\
  (Instr.lookup 281 (.map (some g)) (.int .u64 (t : Nat)) false).run Tryz.prog w = .ok (.int .i64 (Dy.mustV t)) w := by
 cases ho : Dy.once t with
 | true => exact yJa uJw Tryz.underlying46 (by simp [Go.MapKept.IsKey]) h (kn_mem ho)
 | false =>
  rw [Dy.mustV_once ho]
  exact yJl uJw Tryz.underlying46 (by simp [Go.MapKept.IsKey]) (zJc w) h (kn_none ho h1)
theorem look_tagT {w : World} {B g : Nat} {d : Ds} {T : List (Nat × Nat)} (h : DsM w B g d T) {t : Nat} (ho : Dy.once t = true) :
  (Instr.lookup 252 (.map (some d.gm)) (.int .u64 (t : Nat)) true).run Tryz.prog w = .ok (.tuple #[.int .u64 ((Dy.val T t).getD 0 : Nat), .bool (Dy.val T t).isSome]) w := by
 cases hv : Dy.val T t with
 | none => exact (yJl Tryz.underlying252 Tryz.underlying46 (by simp [Go.MapKept.IsKey]) (zero_u64 w) h.tags (Dy.tagsV_no hv)).1
 | some v => exact (yJa Tryz.underlying252 Tryz.underlying46 (by simp [Go.MapKept.IsKey]) h.tags (Dy.tagsV_yes hv ho)).1
section
variable {w w' : World} {B g : Nat} {d : Ds} {T T' : List (Nat × Nat)}
theorem DsM.put (h : DsM w B g d T) (hg : w.grownBy w' (some d.gm)) (hm : MapB w' d.gm (.int .u64) (Dy.tagsV T')) : DsM w' B g d T' := by
 obtain ⟨⟨es, clk, hmap, _⟩, _, _⟩ := h.tags
 have hne : ∀ k cs t fz, w.heap[k]? = some (.cells cs t fz) -> k ≠ d.gm := by
  intro k cs t fz hk e
  rw [e, hmap] at hk
  cases hk
 refine ⟨h.hB, (hg.block g h.blk.lt (fun e => hne g _ _ _ h.blk (Option.some.inj e))).trans h.blk, h.b.keep ?_, h.segs.keep ?_, ?_, hm, h.tagsB⟩
 ·intro p hp
  have := h.tagsB
  exact World.cell?_of_block (hg.block p.block (Nat.lt_of_lt_of_le hp h.sz) (fun e => by injection e with e; omega))
 ·intro p hp
  have := h.tagsB
  exact World.cell?_of_block (hg.block p.block (Nat.lt_of_lt_of_le hp h.sz) (fun e => by injection e with e; omega))
 ·refine ⟨h.list.1, h.list.2.imp id ?_⟩
  rintro ⟨q, cap, cur, e1, e2, e3, r⟩
  exact ⟨q, cap, cur, e1, e2, (hg.block q (Array.getElem?_eq_some_iff.1 e3).1 (fun e => hne q _ _ _ e3 (Option.some.inj e))).trans e3, r⟩
theorem DsM.same (h : DsM w B g d T) (ht : Dy.tagsV T' = Dy.tagsV T) : DsM w B g d T' := ⟨h.hB, h.blk, h.b, h.segs, h.list, by rw [ht]; exact h.tags, h.tagsB⟩
end
end Go.Proofs.YtiiiblmhlhikkaaGreatDoor
