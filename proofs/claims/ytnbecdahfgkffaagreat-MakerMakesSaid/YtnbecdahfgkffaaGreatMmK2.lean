/- Texts of the claim LawMakerMakes (Elf1g, Elf2g, Elf3, MapAny, MapB, OwnCap, Dy3, Dy4, DyPure2, Dy7, Held, Dy8, Dy9, Dy10, Dy12, MkR2): what the functions that the statement reaches compute, and plain laws of it. Conditions: those that each theorem states. -/
import Derived.Test.YtnbecdahfgkffaaGreatMmK1
import Derived.Test.YtnbecdahfgkffaaGreatShelf
import Derived.Lib.SlBytesConst
import Derived.Handy
import Derived.Laws.CopyOwn
import Derived.Maps.Own
import Derived.Laws.IdiomRangeMap
import Derived.Deep.LoopGhost
import Derived.Deep.RegionHeld3
import Derived.Test.YtnbecdahfgkffaaGreatProg
import Derived.WalkSpells
import Derived.WalkLawsBesides
import Derived.StillTailTactics
import Derived.Laws.RangeAny
import Derived.Maps.RangeRun
set_option linter.unusedVariables false
set_option linter.unusedSimpArgs false
namespace Go.Proofs.YtnbecdahfgkffaaGreat
open Go.RowKit
abbrev u8s (b : List UInt8) : List Value := b.map fun c => .int .u8 c.toNat
theorem bytesIn_rd {w : World} {B n : Nat} {A : Option Addr} {b : List UInt8} (h : Rd w B 1 A n (u8s b)) : Lib.BytesIn w A n (b.map fun c => ((c.toNat : Nat) : Int)) := by
  intro hn
  have hl : b.length = n := by simpa using h.len1
  obtain ⟨b1, o1, e, _, hc⟩ := h.open_ (by intro e; rw [List.map_eq_nil_iff] at e; subst e; simp at hl; omega)
  refine ⟨b1, o1, e, fun i hi => hc i _ ?_⟩
  have hi' : i < b.length := by omega
  simp [List.getElem?_eq_getElem hi', List.getD_eq_getElem?_getD]
theorem bytesOf_map (b : List UInt8) : Lib.bytesOf (b.map fun c => ((c.toNat : Nat) : Int)) = b := by
  unfold Lib.bytesOf
  rw [List.map_map]
  have : ((fun n : Int => UInt8.ofNat n.toNat) ∘ fun c : UInt8 => ((c.toNat : Nat) : Int)) = id := by
    funext c
    simp
  rw [this, List.map_id]
abbrev wrongs (e : Int) : Ending := .panicked [{ v := .iface 102 (.int .i64 e), recovered := false }]
theorem must_yes (e : Int) (w : World) : Calls Tryz.prog 45 #[.bool true, .int .i64 e] w fun r w' => r = .returned (.tuple #[]) ∧ w = w' := by
  go_enter Tryz.func45, Tryz.ntmps45
  go_wp2
  go_end0
  exact ⟨rfl, rfl⟩
theorem must_no (e : Int) (w : World) : Calls Tryz.prog 45 #[.bool false, .int .i64 e] w fun r w' => r = wrongs e ∧ w = w' := by
  go_enter Tryz.func45, Tryz.ntmps45
  go_wp2
  exact ⟨rfl, rfl, rfl⟩
theorem at_yes (A : Option Addr) (m c : Nat) (B : Nat) (b : List UInt8) (p s : Nat) (w : World) (hB : B ≤ w.heap.size) (hb : Rd w B 1 A m (u8s b)) (hm : m ≤ maxLen) (hs : s = 1 ∨ s = 2 ∨ s = 4 ∨ s = 8) (hin : p + s ≤ m) :
    Calls Tryz.prog 44 #[.slice A m c, .int .u64 p, .int .i64 s] w fun e w' => e = .returned (.int .u64 (Wd.num b p s)) ∧ Below w.heap.size w w' := by
  have hg := get_yes A m c B b p s w hB hb hm hs hin
  have Hg := hide hg
  clear hg hb hs hin
  go_enter Tryz.func44, Tryz.ntmps44
  go_wp2_with (first
    | (go_at_call 91; refine (unhide Hg).mono ?_; rintro e w1 ⟨rfl, hb1⟩)
    | (go_at_call 45; refine (must_yes _ _).mono ?_; rintro e w2 ⟨rfl, rfl⟩))
  go_ret
  exact ⟨rfl, hb1⟩
theorem magic_row (w : World) (fz : Nat × Nat) : Rd (w.alloc (.cells #[.int .u8 127, .int .u8 69, .int .u8 76, .int .u8 70, .int .u8 2, .int .u8 1, .int .u8 1] 5 fz)) (w.heap.size + 1) 1 (some ⟨w.heap.size, 0, none⟩) 7 (u8s El.magic) := Rd.rowF (size := 1) (n := 7) rfl
theorem prefix_any (A A2 : Option Addr) (m c d B B2 : Nat) (b : List UInt8) (W : World) (hmc : m ≤ c) (h1 : Rd W B 1 A m (u8s b)) (h2 : Rd W B2 1 A2 7 (u8s El.magic)) :
    Calls Tryz.prog 90 #[.slice A m c, .slice A2 7 d] W fun e w' => e = .returned (.bool (Lib.hasPrefix b El.magic)) ∧ W = w' := by
  have h := Tryz.bytes_HasPrefix_all A A2 m c 7 d _ _ W (by simpa using h1.len1) rfl hmc (bytesIn_rd h1) (bytesIn_rd h2)
  rw [bytesOf_map, bytesOf_map] at h
  exact flipw h
set_option maxHeartbeats 60000000 in
theorem header_no (A : Option Addr) (m c : Nat) (B : Nat) (b : List UInt8) (w : World) (hB : B ≤ w.heap.size) (hb : Rd w B 1 A m (u8s b)) (hm : m ≤ maxLen) (hmc : m ≤ c)
    (hq : ((64 ≤ m) ∧ (Lib.hasPrefix b El.magic = true) ∧ (Wd.num b 16 2 = 2) ∧ (Wd.num b 18 2 ≠ 62))
    ∨ ((64 ≤ m) ∧ (Lib.hasPrefix b El.magic = true) ∧ (Wd.num b 16 2 = 2) ∧ (Wd.num b 18 2 = 62) ∧ (Wd.num b 20 4 ≠ 1))
    ∨ ((64 ≤ m) ∧ (Lib.hasPrefix b El.magic = true) ∧ (Wd.num b 16 2 = 2) ∧ (Wd.num b 18 2 = 62) ∧ (Wd.num b 20 4 = 1) ∧ (Wd.num b 54 2 ≠ 56))
    ∨ ((64 ≤ m) ∧ (Lib.hasPrefix b El.magic = true) ∧ (Wd.num b 16 2 = 2) ∧ (Wd.num b 18 2 = 62) ∧ (Wd.num b 20 4 = 1) ∧ (Wd.num b 54 2 = 56) ∧ (¬ 0 < Wd.num b 56 2))
    ∨ ((64 ≤ m) ∧ (Lib.hasPrefix b El.magic = true) ∧ (Wd.num b 16 2 = 2) ∧ (Wd.num b 18 2 = 62) ∧ (Wd.num b 20 4 = 1) ∧ (Wd.num b 54 2 = 56) ∧ (0 < Wd.num b 56 2) ∧ (¬ Wd.num b 56 2 ≤ 8))
    ∨ ((64 ≤ m) ∧ (Lib.hasPrefix b El.magic = true) ∧ (Wd.num b 16 2 = 3) ∧ (Wd.num b 18 2 ≠ 62))
    ∨ ((64 ≤ m) ∧ (Lib.hasPrefix b El.magic = true) ∧ (Wd.num b 16 2 = 3) ∧ (Wd.num b 18 2 = 62) ∧ (Wd.num b 20 4 ≠ 1))
    ∨ ((64 ≤ m) ∧ (Lib.hasPrefix b El.magic = true) ∧ (Wd.num b 16 2 = 3) ∧ (Wd.num b 18 2 = 62) ∧ (Wd.num b 20 4 = 1) ∧ (Wd.num b 54 2 ≠ 56))
    ∨ ((64 ≤ m) ∧ (Lib.hasPrefix b El.magic = true) ∧ (Wd.num b 16 2 = 3) ∧ (Wd.num b 18 2 = 62) ∧ (Wd.num b 20 4 = 1) ∧ (Wd.num b 54 2 = 56) ∧ (¬ 0 < Wd.num b 56 2))
    ∨ ((64 ≤ m) ∧ (Lib.hasPrefix b El.magic = true) ∧ (Wd.num b 16 2 = 3) ∧ (Wd.num b 18 2 = 62) ∧ (Wd.num b 20 4 = 1) ∧ (Wd.num b 54 2 = 56) ∧ (0 < Wd.num b 56 2) ∧ (¬ Wd.num b 56 2 ≤ 8))
    ∨ ((64 ≤ m) ∧ (Lib.hasPrefix b El.magic = true) ∧ (Wd.num b 16 2 ≠ 2) ∧ (Wd.num b 16 2 ≠ 3))
    ∨ ((64 ≤ m) ∧ (Lib.hasPrefix b El.magic = false))) :
    Calls Tryz.prog 43 #[.slice A m c] w fun e w' => e = wrongs 13 ∧ Below w.heap.size w w' := by
  have hbl : b.length = m := by simpa using hb.len1
  have G1 := hide (fun (w' : World) (h : Below w.heap.size w w') => at_yes A m c B b 16 2 w' (Nat.le_trans hB h.size) ((hb).below (h.mono hB)) hm (by omega) (by omega))
  have G2 := hide (fun (w' : World) (h : Below w.heap.size w w') => at_yes A m c B b 56 2 w' (Nat.le_trans hB h.size) ((hb).below (h.mono hB)) hm (by omega) (by omega))
  have G3 := hide (fun (w' : World) (h : Below w.heap.size w w') => at_yes A m c B b 18 2 w' (Nat.le_trans hB h.size) ((hb).below (h.mono hB)) hm (by omega) (by omega))
  have G4 := hide (fun (w' : World) (h : Below w.heap.size w w') => at_yes A m c B b 20 4 w' (Nat.le_trans hB h.size) ((hb).below (h.mono hB)) hm (by omega) (by omega))
  have G5 := hide (fun (w' : World) (h : Below w.heap.size w w') => at_yes A m c B b 54 2 w' (Nat.le_trans hB h.size) ((hb).below (h.mono hB)) hm (by omega) (by omega))
  have kc := fun (w : World) (C : Array Value) (n c : Nat) => Lib.run_convert_bytes_const (P := Tryz.prog) w 24 5 C n c Tryz.underlying24 Tryz.underlying5
  have hl16 : Wd.num b 16 2 < 65536 := Wd.num_lt b 16 2
  generalize Wd.num b 16 2 = n16 at *
  generalize Wd.num b 56 2 = n56 at *
  generalize Wd.num b 18 2 = n18 at *
  generalize Wd.num b 20 4 = n20 at *
  generalize Wd.num b 54 2 = n54 at *
  have Hb := hide hb
  clear hb hbl
  rcases hq with ⟨h64, h2, h3, h4⟩ | ⟨h64, h2, h3, h4, h5⟩ | ⟨h64, h2, h3, h4, h5, h6⟩ | ⟨h64, h2, h3, h4, h5, h6, h7⟩ | ⟨h64, h2, h3, h4, h5, h6, h7, h8⟩ | ⟨h64, h2, h3, h4⟩ | ⟨h64, h2, h3, h4, h5⟩ | ⟨h64, h2, h3, h4, h5, h6⟩ | ⟨h64, h2, h3, h4, h5, h6, h7⟩ | ⟨h64, h2, h3, h4, h5, h6, h7, h8⟩ | ⟨h64, h2, h3, h3'⟩ | ⟨h64, h2⟩
  have i64 : (64 : Int) ≤ (m : Int) := by omega
  have H2 := hide h2
  clear h2
  have e162 : (((n16 : Nat) : Int) == 2) = true := by simp; omega
  have e1862 : (((n18 : Nat) : Int) == 62) = false := by simp; omega
  clear h3 h4
  rotate_left
  have i64 : (64 : Int) ≤ (m : Int) := by omega
  have H2 := hide h2
  clear h2
  have e162 : (((n16 : Nat) : Int) == 2) = true := by simp; omega
  have e1862 : (((n18 : Nat) : Int) == 62) = true := by simp; omega
  have e201 : (((n20 : Nat) : Int) == 1) = false := by simp; omega
  clear h3 h4 h5
  rotate_left
  have i64 : (64 : Int) ≤ (m : Int) := by omega
  have H2 := hide h2
  clear h2
  have e162 : (((n16 : Nat) : Int) == 2) = true := by simp; omega
  have e1862 : (((n18 : Nat) : Int) == 62) = true := by simp; omega
  have e201 : (((n20 : Nat) : Int) == 1) = true := by simp; omega
  have e5456 : (((n54 : Nat) : Int) == 56) = false := by simp; omega
  clear h3 h4 h5 h6
  rotate_left
  have i64 : (64 : Int) ≤ (m : Int) := by omega
  have H2 := hide h2
  clear h2
  have e162 : (((n16 : Nat) : Int) == 2) = true := by simp; omega
  have e1862 : (((n18 : Nat) : Int) == 62) = true := by simp; omega
  have e201 : (((n20 : Nat) : Int) == 1) = true := by simp; omega
  have e5456 : (((n54 : Nat) : Int) == 56) = true := by simp; omega
  have i7 : ¬ (0 : Int) < ((n56 : Nat) : Int) := by omega
  clear h3 h4 h5 h6 h7
  rotate_left
  have i64 : (64 : Int) ≤ (m : Int) := by omega
  have H2 := hide h2
  clear h2
  have e162 : (((n16 : Nat) : Int) == 2) = true := by simp; omega
  have e1862 : (((n18 : Nat) : Int) == 62) = true := by simp; omega
  have e201 : (((n20 : Nat) : Int) == 1) = true := by simp; omega
  have e5456 : (((n54 : Nat) : Int) == 56) = true := by simp; omega
  have i7 : (0 : Int) < ((n56 : Nat) : Int) := by omega
  have i8 : decide (((n56 : Nat) : Int) ≤ 8) = false := by simp; omega
  clear h3 h4 h5 h6 h7 h8
  rotate_left
  have i64 : (64 : Int) ≤ (m : Int) := by omega
  have H2 := hide h2
  clear h2
  have e162 : (((n16 : Nat) : Int) == 2) = false := by simp; omega
  have e163 : (((n16 : Nat) : Int) == 3) = true := by simp; omega
  have e1862 : (((n18 : Nat) : Int) == 62) = false := by simp; omega
  clear h3 h4
  rotate_left
  have i64 : (64 : Int) ≤ (m : Int) := by omega
  have H2 := hide h2
  clear h2
  have e162 : (((n16 : Nat) : Int) == 2) = false := by simp; omega
  have e163 : (((n16 : Nat) : Int) == 3) = true := by simp; omega
  have e1862 : (((n18 : Nat) : Int) == 62) = true := by simp; omega
  have e201 : (((n20 : Nat) : Int) == 1) = false := by simp; omega
  clear h3 h4 h5
  rotate_left
  have i64 : (64 : Int) ≤ (m : Int) := by omega
  have H2 := hide h2
  clear h2
  have e162 : (((n16 : Nat) : Int) == 2) = false := by simp; omega
  have e163 : (((n16 : Nat) : Int) == 3) = true := by simp; omega
  have e1862 : (((n18 : Nat) : Int) == 62) = true := by simp; omega
  have e201 : (((n20 : Nat) : Int) == 1) = true := by simp; omega
  have e5456 : (((n54 : Nat) : Int) == 56) = false := by simp; omega
  clear h3 h4 h5 h6
  rotate_left
  have i64 : (64 : Int) ≤ (m : Int) := by omega
  have H2 := hide h2
  clear h2
  have e162 : (((n16 : Nat) : Int) == 2) = false := by simp; omega
  have e163 : (((n16 : Nat) : Int) == 3) = true := by simp; omega
  have e1862 : (((n18 : Nat) : Int) == 62) = true := by simp; omega
  have e201 : (((n20 : Nat) : Int) == 1) = true := by simp; omega
  have e5456 : (((n54 : Nat) : Int) == 56) = true := by simp; omega
  have i7 : ¬ (0 : Int) < ((n56 : Nat) : Int) := by omega
  clear h3 h4 h5 h6 h7
  rotate_left
  have i64 : (64 : Int) ≤ (m : Int) := by omega
  have H2 := hide h2
  clear h2
  have e162 : (((n16 : Nat) : Int) == 2) = false := by simp; omega
  have e163 : (((n16 : Nat) : Int) == 3) = true := by simp; omega
  have e1862 : (((n18 : Nat) : Int) == 62) = true := by simp; omega
  have e201 : (((n20 : Nat) : Int) == 1) = true := by simp; omega
  have e5456 : (((n54 : Nat) : Int) == 56) = true := by simp; omega
  have i7 : (0 : Int) < ((n56 : Nat) : Int) := by omega
  have i8 : decide (((n56 : Nat) : Int) ≤ 8) = false := by simp; omega
  clear h3 h4 h5 h6 h7 h8
  rotate_left
  have i64 : (64 : Int) ≤ (m : Int) := by omega
  have H2 := hide h2
  clear h2
  have e162 : (((n16 : Nat) : Int) == 2) = false := by simp; omega
  have e163 : (((n16 : Nat) : Int) == 3) = false := by simp; omega
  clear h3 h3'
  rotate_left
  have i64 : (64 : Int) ≤ (m : Int) := by omega
  have H2 := hide h2
  clear h2
  rotate_left
  all_goals (
    go_enter Tryz.func43, Tryz.ntmps43
    go_wp2_with (first
      | (go_at_call 90; refine (prefix_any _ _ _ _ _ _ _ b _ hmc (((unhide Hb).more hB).alloc (Nat.le_refl _) _) (magic_row _ _)).mono ?_; rintro e w0 ⟨rfl, rfl⟩; rw [unhide H2]; have HB := hide ((Below.refl w.heap.size w).alloc (Nat.le_refl _) (.cells #[.int .u8 127, .int .u8 69, .int .u8 76, .int .u8 70, .int .u8 2, .int .u8 1, .int .u8 1] 5 (7, 8))))
      | (go_at_call_of 44 (Value.int IntKind.u64 16); refine ((unhide G1) _ (unhide HB)).mono ?_; rintro e w1 ⟨rfl, hx⟩; replace HB := hide ((unhide HB).trans (hx.mono (unhide HB).size)); clear hx)
      | (go_at_call_of 44 (Value.int IntKind.u64 56); refine ((unhide G2) _ (unhide HB)).mono ?_; rintro e w1 ⟨rfl, hx⟩; replace HB := hide ((unhide HB).trans (hx.mono (unhide HB).size)); clear hx)
      | (go_at_call_of 44 (Value.int IntKind.u64 18); refine ((unhide G3) _ (unhide HB)).mono ?_; rintro e w1 ⟨rfl, hx⟩; replace HB := hide ((unhide HB).trans (hx.mono (unhide HB).size)); clear hx)
      | (go_at_call_of 44 (Value.int IntKind.u64 20); refine ((unhide G4) _ (unhide HB)).mono ?_; rintro e w1 ⟨rfl, hx⟩; replace HB := hide ((unhide HB).trans (hx.mono (unhide HB).size)); clear hx)
      | (go_at_call_of 44 (Value.int IntKind.u64 54); refine ((unhide G5) _ (unhide HB)).mono ?_; rintro e w1 ⟨rfl, hx⟩; replace HB := hide ((unhide HB).trans (hx.mono (unhide HB).size)); clear hx)
      | (go_at_call_of 45 (Value.bool true); refine (must_yes _ _).mono ?_; rintro e w1 ⟨rfl, rfl⟩)
      | (go_at_call_of 45 (Value.bool false); refine (must_no _ _).mono ?_; rintro e w1 ⟨rfl, rfl⟩))
    exact ⟨rfl, rfl, unhide HB⟩)
set_option maxHeartbeats 60000000 in
theorem header_yes (A : Option Addr) (m c : Nat) (B : Nat) (b : List UInt8) (w : World) (hB : B ≤ w.heap.size) (hb : Rd w B 1 A m (u8s b)) (hm : m ≤ maxLen) (hmc : m ≤ c)
    (hq : ((64 ≤ m) ∧ (Lib.hasPrefix b El.magic = true) ∧ (Wd.num b 16 2 = 2) ∧ (Wd.num b 18 2 = 62) ∧ (Wd.num b 20 4 = 1) ∧ (Wd.num b 54 2 = 56) ∧ (0 < Wd.num b 56 2) ∧ (Wd.num b 56 2 ≤ 8))
    ∨ ((64 ≤ m) ∧ (Lib.hasPrefix b El.magic = true) ∧ (Wd.num b 16 2 = 3) ∧ (Wd.num b 18 2 = 62) ∧ (Wd.num b 20 4 = 1) ∧ (Wd.num b 54 2 = 56) ∧ (0 < Wd.num b 56 2) ∧ (Wd.num b 56 2 ≤ 8))) :
    Calls Tryz.prog 43 #[.slice A m c] w fun e w' => e = .returned (.int .u64 (Wd.num b 56 2)) ∧ Below w.heap.size w w' := by
  have hbl : b.length = m := by simpa using hb.len1
  have G1 := hide (fun (w' : World) (h : Below w.heap.size w w') => at_yes A m c B b 16 2 w' (Nat.le_trans hB h.size) ((hb).below (h.mono hB)) hm (by omega) (by omega))
  have G2 := hide (fun (w' : World) (h : Below w.heap.size w w') => at_yes A m c B b 56 2 w' (Nat.le_trans hB h.size) ((hb).below (h.mono hB)) hm (by omega) (by omega))
  have G3 := hide (fun (w' : World) (h : Below w.heap.size w w') => at_yes A m c B b 18 2 w' (Nat.le_trans hB h.size) ((hb).below (h.mono hB)) hm (by omega) (by omega))
  have G4 := hide (fun (w' : World) (h : Below w.heap.size w w') => at_yes A m c B b 20 4 w' (Nat.le_trans hB h.size) ((hb).below (h.mono hB)) hm (by omega) (by omega))
  have G5 := hide (fun (w' : World) (h : Below w.heap.size w w') => at_yes A m c B b 54 2 w' (Nat.le_trans hB h.size) ((hb).below (h.mono hB)) hm (by omega) (by omega))
  have kc := fun (w : World) (C : Array Value) (n c : Nat) => Lib.run_convert_bytes_const (P := Tryz.prog) w 24 5 C n c Tryz.underlying24 Tryz.underlying5
  have hl16 : Wd.num b 16 2 < 65536 := Wd.num_lt b 16 2
  generalize Wd.num b 16 2 = n16 at *
  generalize Wd.num b 56 2 = n56 at *
  generalize Wd.num b 18 2 = n18 at *
  generalize Wd.num b 20 4 = n20 at *
  generalize Wd.num b 54 2 = n54 at *
  have Hb := hide hb
  clear hb hbl
  rcases hq with ⟨h64, h2, h3, h4, h5, h6, h7, h8⟩ | ⟨h64, h2, h3, h4, h5, h6, h7, h8⟩
  have i64 : (64 : Int) ≤ (m : Int) := by omega
  have H2 := hide h2
  clear h2
  have e162 : (((n16 : Nat) : Int) == 2) = true := by simp; omega
  have e1862 : (((n18 : Nat) : Int) == 62) = true := by simp; omega
  have e201 : (((n20 : Nat) : Int) == 1) = true := by simp; omega
  have e5456 : (((n54 : Nat) : Int) == 56) = true := by simp; omega
  have i7 : (0 : Int) < ((n56 : Nat) : Int) := by omega
  have i8 : ((n56 : Nat) : Int) ≤ 8 := by omega
  clear h3 h4 h5 h6 h7 h8
  rotate_left
  have i64 : (64 : Int) ≤ (m : Int) := by omega
  have H2 := hide h2
  clear h2
  have e162 : (((n16 : Nat) : Int) == 2) = false := by simp; omega
  have e163 : (((n16 : Nat) : Int) == 3) = true := by simp; omega
  have e1862 : (((n18 : Nat) : Int) == 62) = true := by simp; omega
  have e201 : (((n20 : Nat) : Int) == 1) = true := by simp; omega
  have e5456 : (((n54 : Nat) : Int) == 56) = true := by simp; omega
  have i7 : (0 : Int) < ((n56 : Nat) : Int) := by omega
  have i8 : ((n56 : Nat) : Int) ≤ 8 := by omega
  clear h3 h4 h5 h6 h7 h8
  rotate_left
  all_goals (
    go_enter Tryz.func43, Tryz.ntmps43
    go_wp2_with (first
      | (go_at_call 90; refine (prefix_any _ _ _ _ _ _ _ b _ hmc (((unhide Hb).more hB).alloc (Nat.le_refl _) _) (magic_row _ _)).mono ?_; rintro e w0 ⟨rfl, rfl⟩; rw [unhide H2]; have HB := hide ((Below.refl w.heap.size w).alloc (Nat.le_refl _) (.cells #[.int .u8 127, .int .u8 69, .int .u8 76, .int .u8 70, .int .u8 2, .int .u8 1, .int .u8 1] 5 (7, 8))))
      | (go_at_call_of 44 (Value.int IntKind.u64 16); refine ((unhide G1) _ (unhide HB)).mono ?_; rintro e w1 ⟨rfl, hx⟩; replace HB := hide ((unhide HB).trans (hx.mono (unhide HB).size)); clear hx)
      | (go_at_call_of 44 (Value.int IntKind.u64 56); refine ((unhide G2) _ (unhide HB)).mono ?_; rintro e w1 ⟨rfl, hx⟩; replace HB := hide ((unhide HB).trans (hx.mono (unhide HB).size)); clear hx)
      | (go_at_call_of 44 (Value.int IntKind.u64 18); refine ((unhide G3) _ (unhide HB)).mono ?_; rintro e w1 ⟨rfl, hx⟩; replace HB := hide ((unhide HB).trans (hx.mono (unhide HB).size)); clear hx)
      | (go_at_call_of 44 (Value.int IntKind.u64 20); refine ((unhide G4) _ (unhide HB)).mono ?_; rintro e w1 ⟨rfl, hx⟩; replace HB := hide ((unhide HB).trans (hx.mono (unhide HB).size)); clear hx)
      | (go_at_call_of 44 (Value.int IntKind.u64 54); refine ((unhide G5) _ (unhide HB)).mono ?_; rintro e w1 ⟨rfl, hx⟩; replace HB := hide ((unhide HB).trans (hx.mono (unhide HB).size)); clear hx)
      | (go_at_call_of 45 (Value.bool true); refine (must_yes _ _).mono ?_; rintro e w1 ⟨rfl, rfl⟩)
      | (go_at_call_of 45 (Value.bool false); refine (must_no _ _).mono ?_; rintro e w1 ⟨rfl, rfl⟩))
    go_ret
    exact ⟨rfl, unhide HB⟩)
theorem header_bs (A : Option Addr) (m c : Nat) (B : Nat) (b : List UInt8) (w : World) (hB : B ≤ w.heap.size) (hb : Rd w B 1 A m (u8s b)) (hm : m ≤ maxLen) (hmc : m ≤ c) (h64 : ¬ 64 ≤ m) :
    Calls Tryz.prog 43 #[.slice A m c] w fun e w' => e = wrongs 13 ∧ Below w.heap.size w w' := by
  have i64 : ¬ (64 : Int) ≤ (m : Int) := by omega
  unfold maxLen at hm
  go_enter Tryz.func43, Tryz.ntmps43
  go_wp2_with (go_at_call_of 45 (Value.bool false); refine (must_no _ _).mono ?_; rintro e w1 ⟨rfl, rfl⟩)
  exact ⟨rfl, rfl, Below.refl _ _⟩
theorem header_ok (A : Option Addr) (m c : Nat) (B : Nat) (b : List UInt8) (w : World) (hB : B ≤ w.heap.size) (hb : Rd w B 1 A m (u8s b)) (hm : m ≤ maxLen) (hmc : m ≤ c) (h : El.hdrOk b = true) :
    Calls Tryz.prog 43 #[.slice A m c] w fun e w' => e = .returned (.int .u64 (Wd.num b 56 2)) ∧ Below w.heap.size w w' := by
  have hbl : b.length = m := by simpa using hb.len1
  unfold El.hdrOk at h
  simp only [Bool.and_eq_true, Bool.or_eq_true, beq_iff_eq, decide_eq_true_eq] at h
  obtain ⟨⟨⟨⟨h1, h2⟩, h3⟩, ⟨h4, h5⟩, h6⟩, h7, h8⟩ := h
  have h64 : 64 ≤ m := by omega
  rcases h3 with h3 | h3
  · exact header_yes A m c B b w hB hb hm hmc (.inl ⟨h64, h2, h3, h4, h5, h6, h7, h8⟩)
  · exact header_yes A m c B b w hB hb hm hmc (.inr ⟨h64, h2, h3, h4, h5, h6, h7, h8⟩)
theorem header_bad (A : Option Addr) (m c : Nat) (B : Nat) (b : List UInt8) (w : World) (hB : B ≤ w.heap.size) (hb : Rd w B 1 A m (u8s b)) (hm : m ≤ maxLen) (hmc : m ≤ c) (h : El.hdrOk b = false) :
    Calls Tryz.prog 43 #[.slice A m c] w fun e w' => e = wrongs 13 ∧ Below w.heap.size w w' := by
  have hbl : b.length = m := by simpa using hb.len1
  by_cases h1 : 64 ≤ m
  · by_cases h2 : Lib.hasPrefix b El.magic = true
    · by_cases h3 : Wd.num b 16 2 = 2 ∨ Wd.num b 16 2 = 3
      · by_cases h4 : Wd.num b 18 2 = 62
        · by_cases h5 : Wd.num b 20 4 = 1
          · by_cases h6 : Wd.num b 54 2 = 56
            · by_cases h7 : 0 < Wd.num b 56 2
              · by_cases h8 : Wd.num b 56 2 ≤ 8
                · exfalso
                  have : El.hdrOk b = true := by
                    unfold El.hdrOk
                    simp only [Bool.and_eq_true, Bool.or_eq_true, beq_iff_eq, decide_eq_true_eq]
                    exact ⟨⟨⟨⟨by omega, h2⟩, h3⟩, ⟨h4, h5⟩, h6⟩, h7, h8⟩
                  rw [this] at h
                  cases h
                · rcases h3 with h3 | h3
                  · exact header_no A m c B b w hB hb hm hmc (.inr (.inr (.inr (.inr (.inl ⟨h1, h2, h3, h4, h5, h6, h7, h8⟩)))))
                  · exact header_no A m c B b w hB hb hm hmc (.inr (.inr (.inr (.inr (.inr (.inr (.inr (.inr (.inr (.inl ⟨h1, h2, h3, h4, h5, h6, h7, h8⟩))))))))))
              · rcases h3 with h3 | h3
                · exact header_no A m c B b w hB hb hm hmc (.inr (.inr (.inr (.inl ⟨h1, h2, h3, h4, h5, h6, h7⟩))))
                · exact header_no A m c B b w hB hb hm hmc (.inr (.inr (.inr (.inr (.inr (.inr (.inr (.inr (.inl ⟨h1, h2, h3, h4, h5, h6, h7⟩)))))))))
            · rcases h3 with h3 | h3
              · exact header_no A m c B b w hB hb hm hmc (.inr (.inr (.inl ⟨h1, h2, h3, h4, h5, h6⟩)))
              · exact header_no A m c B b w hB hb hm hmc (.inr (.inr (.inr (.inr (.inr (.inr (.inr (.inl ⟨h1, h2, h3, h4, h5, h6⟩))))))))
          · rcases h3 with h3 | h3
            · exact header_no A m c B b w hB hb hm hmc (.inr (.inl ⟨h1, h2, h3, h4, h5⟩))
            · exact header_no A m c B b w hB hb hm hmc (.inr (.inr (.inr (.inr (.inr (.inr (.inl ⟨h1, h2, h3, h4, h5⟩)))))))
        · rcases h3 with h3 | h3
          · exact header_no A m c B b w hB hb hm hmc (.inl ⟨h1, h2, h3, h4⟩)
          · exact header_no A m c B b w hB hb hm hmc (.inr (.inr (.inr (.inr (.inr (.inl ⟨h1, h2, h3, h4⟩))))))
      · rw [not_or] at h3
        exact header_no A m c B b w hB hb hm hmc (.inr (.inr (.inr (.inr (.inr (.inr (.inr (.inr (.inr (.inr (.inl ⟨h1, h2, h3.1, h3.2⟩)))))))))))
    · exact header_no A m c B b w hB hb hm hmc (.inr (.inr (.inr (.inr (.inr (.inr (.inr (.inr (.inr (.inr (.inr ⟨h1, (by simpa using h2)⟩)))))))))))
  · exact header_bs A m c B b w hB hb hm hmc h1
end Go.Proofs.YtnbecdahfgkffaaGreat
namespace Go.Proofs.YtnbecdahfgkffaaGreat
open Go.RowKit
def segVal (s : El.Sg) : Value := .agg #[.int .u32 s.kind, .int .u8 s.flags, .int .u64 s.off, .int .u64 s.addr, .int .u64 s.fsz, .int .u64 s.msz]
theorem segInfo : (Tryz.prog.info? 58).map (·.size) = some 6 := by kernel_rfl
theorem segOne (k fl o a f z : Int) : (#[.int .u32 k, .int .u8 fl, .int .u64 o, .int .u64 a, .int .u64 f, .int .u64 z] : Array Value).all (·.oneCell') = true := by simp [Value.oneCell']
theorem at_off (A : Option Addr) (m c : Nat) (B : Nat) (b : List UInt8) (p o s : Nat) (oi si : Int) (ho : (o : Int) = oi) (hsi : (s : Int) = si) (w : World) (hB : B ≤ w.heap.size) (hb : Rd w B 1 A m (u8s b)) (hm : m ≤ maxLen) (hs : s = 1 ∨ s = 2 ∨ s = 4 ∨ s = 8) (hin : p + o + s ≤ m) :
    Calls Tryz.prog 44 #[.slice A m c, .int .u64 ((p : Int) + oi), .int .i64 si] w fun e w' => e = .returned (.int .u64 (Wd.num b (p + o) s)) ∧ Below w.heap.size w w' := by
  subst ho
  subst hsi
  have h := at_yes A m c B b (p + o) s w hB hb hm hs hin
  rwa [show (((p + o : Nat)) : Int) = (p : Int) + (o : Int) from by omega] at h
theorem at_lit (A : Option Addr) (m c : Nat) (B : Nat) (b : List UInt8) (p s : Nat) (si : Int) (hsi : (s : Int) = si) (w : World) (hB : B ≤ w.heap.size) (hb : Rd w B 1 A m (u8s b)) (hm : m ≤ maxLen) (hs : s = 1 ∨ s = 2 ∨ s = 4 ∨ s = 8) (hin : p + s ≤ m) :
    Calls Tryz.prog 44 #[.slice A m c, .int .u64 (p : Int), .int .i64 si] w fun e w' => e = .returned (.int .u64 (Wd.num b p s)) ∧ Below w.heap.size w w' := by
  subst hsi
  exact at_yes A m c B b p s w hB hb hm hs hin
set_option maxHeartbeats 60000000 in
theorem seg_no0 (A : Option Addr) (m c : Nat) (B : Nat) (b : List UInt8) (p ty : Nat) (w : World) (hB : B ≤ w.heap.size) (hb : Rd w B 1 A m (u8s b)) (hm : m ≤ maxLen) (hin : p + 56 ≤ m) (hp : p ≤ 4294967296) (hty : ty < 65536)
    (hq : ((¬ Wd.num b (p + 4) 4 ≤ 7))
    ∨ ((Wd.num b (p + 4) 4 ≤ 7) ∧ (¬ Wd.num b (p + 32) 8 ≤ Wd.num b (p + 40) 8))
    ∨ ((Wd.num b (p + 4) 4 ≤ 7) ∧ (Wd.num b (p + 32) 8 ≤ Wd.num b (p + 40) 8) ∧ (¬ Wd.num b (p + 8) 8 + Wd.num b (p + 32) 8 ≤ m))
    ∨ ((Wd.num b (p + 4) 4 ≤ 7) ∧ (Wd.num b (p + 32) 8 ≤ Wd.num b (p + 40) 8) ∧ (Wd.num b (p + 8) 8 + Wd.num b (p + 32) 8 ≤ m) ∧ (ty = 3) ∧ (Wd.num b p 4 = 1) ∧ (¬ Wd.num b (p + 16) 8 + Wd.num b (p + 40) 8 ≤ 4294967296))
    ∨ ((Wd.num b (p + 4) 4 ≤ 7) ∧ (Wd.num b (p + 32) 8 ≤ Wd.num b (p + 40) 8) ∧ (Wd.num b (p + 8) 8 + Wd.num b (p + 32) 8 ≤ m) ∧ (ty = 3) ∧ (Wd.num b p 4 = 1) ∧ (Wd.num b (p + 16) 8 + Wd.num b (p + 40) 8 ≤ 4294967296) ∧ (¬ Wd.num b (p + 48) 8 = 4096))
    ∨ ((Wd.num b (p + 4) 4 ≤ 7) ∧ (Wd.num b (p + 32) 8 ≤ Wd.num b (p + 40) 8) ∧ (Wd.num b (p + 8) 8 + Wd.num b (p + 32) 8 ≤ m) ∧ (ty = 3) ∧ (Wd.num b p 4 = 1) ∧ (Wd.num b (p + 16) 8 + Wd.num b (p + 40) 8 ≤ 4294967296) ∧ (Wd.num b (p + 48) 8 = 4096) ∧ (¬ Wd.num b (p + 8) 8 % 4096 = Wd.num b (p + 16) 8 % 4096))
    ∨ ((Wd.num b (p + 4) 4 ≤ 7) ∧ (Wd.num b (p + 32) 8 ≤ Wd.num b (p + 40) 8) ∧ (Wd.num b (p + 8) 8 + Wd.num b (p + 32) 8 ≤ m) ∧ (ty = 3) ∧ (Wd.num b p 4 = 1) ∧ (Wd.num b (p + 16) 8 + Wd.num b (p + 40) 8 ≤ 4294967296) ∧ (Wd.num b (p + 48) 8 = 4096) ∧ (Wd.num b (p + 8) 8 % 4096 = Wd.num b (p + 16) 8 % 4096) ∧ (¬ 0 < Wd.num b (p + 40) 8))
    ∨ ((Wd.num b (p + 4) 4 ≤ 7) ∧ (Wd.num b (p + 32) 8 ≤ Wd.num b (p + 40) 8) ∧ (Wd.num b (p + 8) 8 + Wd.num b (p + 32) 8 ≤ m) ∧ (ty = 3) ∧ (Wd.num b p 4 = 2) ∧ (¬ Wd.num b (p + 16) 8 + Wd.num b (p + 40) 8 ≤ 4294967296))
    ∨ ((Wd.num b (p + 4) 4 ≤ 7) ∧ (Wd.num b (p + 32) 8 ≤ Wd.num b (p + 40) 8) ∧ (Wd.num b (p + 8) 8 + Wd.num b (p + 32) 8 ≤ m) ∧ (ty = 3) ∧ (Wd.num b p 4 = 3) ∧ (¬ Wd.num b (p + 16) 8 + Wd.num b (p + 40) 8 ≤ 4294967296))
    ∨ ((Wd.num b (p + 4) 4 ≤ 7) ∧ (Wd.num b (p + 32) 8 ≤ Wd.num b (p + 40) 8) ∧ (Wd.num b (p + 8) 8 + Wd.num b (p + 32) 8 ≤ m) ∧ (ty = 3) ∧ (Wd.num b p 4 = 6) ∧ (¬ Wd.num b (p + 16) 8 + Wd.num b (p + 40) 8 ≤ 4294967296))
    ∨ ((Wd.num b (p + 4) 4 ≤ 7) ∧ (Wd.num b (p + 32) 8 ≤ Wd.num b (p + 40) 8) ∧ (Wd.num b (p + 8) 8 + Wd.num b (p + 32) 8 ≤ m) ∧ (¬ ty = 3) ∧ (Wd.num b p 4 = 1) ∧ (¬ Wd.num b (p + 16) 8 + Wd.num b (p + 40) 8 ≤ 140737488355328))
    ∨ ((Wd.num b (p + 4) 4 ≤ 7) ∧ (Wd.num b (p + 32) 8 ≤ Wd.num b (p + 40) 8) ∧ (Wd.num b (p + 8) 8 + Wd.num b (p + 32) 8 ≤ m) ∧ (¬ ty = 3) ∧ (Wd.num b p 4 = 1) ∧ (Wd.num b (p + 16) 8 + Wd.num b (p + 40) 8 ≤ 140737488355328) ∧ (¬ Wd.num b (p + 48) 8 = 4096))
    ∨ ((Wd.num b (p + 4) 4 ≤ 7) ∧ (Wd.num b (p + 32) 8 ≤ Wd.num b (p + 40) 8) ∧ (Wd.num b (p + 8) 8 + Wd.num b (p + 32) 8 ≤ m) ∧ (¬ ty = 3) ∧ (Wd.num b p 4 = 1) ∧ (Wd.num b (p + 16) 8 + Wd.num b (p + 40) 8 ≤ 140737488355328) ∧ (Wd.num b (p + 48) 8 = 4096) ∧ (¬ Wd.num b (p + 8) 8 % 4096 = Wd.num b (p + 16) 8 % 4096))) :
    Calls Tryz.prog 47 #[.slice A m c, .int .u64 p, .int .u16 ty] w fun e w' => e = wrongs 25 ∧ Below w.heap.size w w' := by
  have hbl : b.length = m := by simpa using hb.len1
  have G0 := hide (fun (w' : World) (h : Below w.heap.size w w') => at_lit A m c B b p 4 4 rfl w' (Nat.le_trans hB h.size) ((hb).below (h.mono hB)) hm (by omega) (by omega))
  have G1 := hide (fun (w' : World) (h : Below w.heap.size w w') => at_off A m c B b p 4 4 4 4 rfl rfl w' (Nat.le_trans hB h.size) ((hb).below (h.mono hB)) hm (by omega) (by omega))
  have G2 := hide (fun (w' : World) (h : Below w.heap.size w w') => at_off A m c B b p 8 8 8 8 rfl rfl w' (Nat.le_trans hB h.size) ((hb).below (h.mono hB)) hm (by omega) (by omega))
  have G3 := hide (fun (w' : World) (h : Below w.heap.size w w') => at_off A m c B b p 16 8 16 8 rfl rfl w' (Nat.le_trans hB h.size) ((hb).below (h.mono hB)) hm (by omega) (by omega))
  have G4 := hide (fun (w' : World) (h : Below w.heap.size w w') => at_off A m c B b p 32 8 32 8 rfl rfl w' (Nat.le_trans hB h.size) ((hb).below (h.mono hB)) hm (by omega) (by omega))
  have G5 := hide (fun (w' : World) (h : Below w.heap.size w w') => at_off A m c B b p 40 8 40 8 rfl rfl w' (Nat.le_trans hB h.size) ((hb).below (h.mono hB)) hm (by omega) (by omega))
  have G6 := hide (fun (w' : World) (h : Below w.heap.size w w') => at_off A m c B b p 48 8 48 8 rfl rfl w' (Nat.le_trans hB h.size) ((hb).below (h.mono hB)) hm (by omega) (by omega))
  have l0 : Wd.num b p 4 < 4294967296 := Wd.num_lt _ _ _
  have l1 : Wd.num b (p + 4) 4 < 4294967296 := Wd.num_lt _ _ _
  have l2 : Wd.num b (p + 8) 8 < 18446744073709551616 := Wd.num_lt _ _ _
  have l3 : Wd.num b (p + 16) 8 < 18446744073709551616 := Wd.num_lt _ _ _
  have l4 : Wd.num b (p + 32) 8 < 18446744073709551616 := Wd.num_lt _ _ _
  have l5 : Wd.num b (p + 40) 8 < 18446744073709551616 := Wd.num_lt _ _ _
  have l6 : Wd.num b (p + 48) 8 < 18446744073709551616 := Wd.num_lt _ _ _
  generalize Wd.num b p 4 = k at *
  generalize Wd.num b (p + 4) 4 = fl at *
  generalize Wd.num b (p + 8) 8 = o at *
  generalize Wd.num b (p + 16) 8 = a at *
  generalize Wd.num b (p + 32) 8 = f at *
  generalize Wd.num b (p + 40) 8 = z at *
  generalize Wd.num b (p + 48) 8 = al at *
  unfold maxLen at hm
  clear hb hbl
  have HB := hide (Below.refl (w.alloc (.cells #[.int .u32 0, .int .u8 0, .int .u64 0, .int .u64 0, .int .u64 0, .int .u64 0] 58)).heap.size (w.alloc (.cells #[.int .u32 0, .int .u8 0, .int .u64 0, .int .u64 0, .int .u64 0, .int .u64 0] 58)))
  rcases hq with h1 | ⟨h1, h2⟩ | ⟨h1, h2, h3⟩ | ⟨h1, h2, h3, h4, h5, h6⟩ | ⟨h1, h2, h3, h4, h5, h6, h7⟩ | ⟨h1, h2, h3, h4, h5, h6, h7, h8⟩ | ⟨h1, h2, h3, h4, h5, h6, h7, h8, h9⟩ | ⟨h1, h2, h3, h4, h5, h6⟩ | ⟨h1, h2, h3, h4, h5, h6⟩ | ⟨h1, h2, h3, h4, h5, h6⟩ | ⟨h1, h2, h3, h4, h5, h6⟩ | ⟨h1, h2, h3, h4, h5, h6, h7⟩ | ⟨h1, h2, h3, h4, h5, h6, h7, h8⟩
  have i1 : decide (((fl : Nat) : Int) ≤ 7) = false := by simp; omega
  rotate_left
  have i1 : ((fl : Nat) : Int) ≤ 7 := by omega
  have i2 : decide (f ≤ z) = false := by simp; omega
  rotate_left
  have i1 : ((fl : Nat) : Int) ≤ 7 := by omega
  have i2 : ((f : Nat) : Int) ≤ ((z : Nat) : Int) := by omega
  have i3 : decide (((o : Nat) : Int) + ((f : Nat) : Int) ≤ ((m : Nat) : Int)) = false := by simp; omega
  rotate_left
  have i1 : ((fl : Nat) : Int) ≤ 7 := by omega
  have i2 : ((f : Nat) : Int) ≤ ((z : Nat) : Int) := by omega
  have i3 : decide (((o : Nat) : Int) + ((f : Nat) : Int) ≤ ((m : Nat) : Int)) = true := by simp; omega
  have ety3 : (((ty : Nat) : Int) == 3) = true := by simp; omega
  have ek1 : (((k : Nat) : Int) == 1) = true := by simp; omega
  have i6 : decide (((a : Nat) : Int) + ((z : Nat) : Int) ≤ 4294967296) = false := by simp; omega
  clear h5 h4
  rotate_left
  have i1 : ((fl : Nat) : Int) ≤ 7 := by omega
  have i2 : ((f : Nat) : Int) ≤ ((z : Nat) : Int) := by omega
  have i3 : decide (((o : Nat) : Int) + ((f : Nat) : Int) ≤ ((m : Nat) : Int)) = true := by simp; omega
  have ety3 : (((ty : Nat) : Int) == 3) = true := by simp; omega
  have ek1 : (((k : Nat) : Int) == 1) = true := by simp; omega
  have i6 : decide (((a : Nat) : Int) + ((z : Nat) : Int) ≤ 4294967296) = true := by simp; omega
  have eal4096 : (((al : Nat) : Int) == 4096) = false := by simp; omega
  clear h5 h4 h7
  rotate_left
  have i1 : ((fl : Nat) : Int) ≤ 7 := by omega
  have i2 : ((f : Nat) : Int) ≤ ((z : Nat) : Int) := by omega
  have i3 : decide (((o : Nat) : Int) + ((f : Nat) : Int) ≤ ((m : Nat) : Int)) = true := by simp; omega
  have ety3 : (((ty : Nat) : Int) == 3) = true := by simp; omega
  have ek1 : (((k : Nat) : Int) == 1) = true := by simp; omega
  have i6 : decide (((a : Nat) : Int) + ((z : Nat) : Int) ≤ 4294967296) = true := by simp; omega
  have eal4096 : (((al : Nat) : Int) == 4096) = true := by simp; omega
  have i8 : (((IntKind.u64.wrap (((o : Nat) : Int) - ((a : Nat) : Int))).tmod 4096) == 0) = false := by rw [IntKind.wrap_u64, Int.tmod_eq_emod_of_nonneg (by omega)]; simp; omega
  clear h5 h4 h7 h8
  rotate_left
  have i1 : ((fl : Nat) : Int) ≤ 7 := by omega
  have i2 : ((f : Nat) : Int) ≤ ((z : Nat) : Int) := by omega
  have i3 : decide (((o : Nat) : Int) + ((f : Nat) : Int) ≤ ((m : Nat) : Int)) = true := by simp; omega
  have ety3 : (((ty : Nat) : Int) == 3) = true := by simp; omega
  have ek1 : (((k : Nat) : Int) == 1) = true := by simp; omega
  have i6 : decide (((a : Nat) : Int) + ((z : Nat) : Int) ≤ 4294967296) = true := by simp; omega
  have eal4096 : (((al : Nat) : Int) == 4096) = true := by simp; omega
  have i8 : (((IntKind.u64.wrap (((o : Nat) : Int) - ((a : Nat) : Int))).tmod 4096) == 0) = true := by rw [IntKind.wrap_u64, Int.tmod_eq_emod_of_nonneg (by omega)]; simp; omega
  have i9 : ¬ (0 : Int) < ((z : Nat) : Int) := by omega
  have i9' : decide (0 < z) = false := by simp; omega
  clear h5 h4 h7 h8
  rotate_left
  have i1 : ((fl : Nat) : Int) ≤ 7 := by omega
  have i2 : ((f : Nat) : Int) ≤ ((z : Nat) : Int) := by omega
  have i3 : decide (((o : Nat) : Int) + ((f : Nat) : Int) ≤ ((m : Nat) : Int)) = true := by simp; omega
  have ety3 : (((ty : Nat) : Int) == 3) = true := by simp; omega
  have ek1 : (((k : Nat) : Int) == 1) = false := by simp; omega
  have ek2 : (((k : Nat) : Int) == 2) = true := by simp; omega
  have i6 : decide (((a : Nat) : Int) + ((z : Nat) : Int) ≤ 4294967296) = false := by simp; omega
  clear h5 h4
  rotate_left
  have i1 : ((fl : Nat) : Int) ≤ 7 := by omega
  have i2 : ((f : Nat) : Int) ≤ ((z : Nat) : Int) := by omega
  have i3 : decide (((o : Nat) : Int) + ((f : Nat) : Int) ≤ ((m : Nat) : Int)) = true := by simp; omega
  have ety3 : (((ty : Nat) : Int) == 3) = true := by simp; omega
  have ek1 : (((k : Nat) : Int) == 1) = false := by simp; omega
  have ek2 : (((k : Nat) : Int) == 2) = false := by simp; omega
  have ek3 : (((k : Nat) : Int) == 3) = true := by simp; omega
  have i6 : decide (((a : Nat) : Int) + ((z : Nat) : Int) ≤ 4294967296) = false := by simp; omega
  clear h5 h4
  rotate_left
  have i1 : ((fl : Nat) : Int) ≤ 7 := by omega
  have i2 : ((f : Nat) : Int) ≤ ((z : Nat) : Int) := by omega
  have i3 : decide (((o : Nat) : Int) + ((f : Nat) : Int) ≤ ((m : Nat) : Int)) = true := by simp; omega
  have ety3 : (((ty : Nat) : Int) == 3) = true := by simp; omega
  have ek1 : (((k : Nat) : Int) == 1) = false := by simp; omega
  have ek2 : (((k : Nat) : Int) == 2) = false := by simp; omega
  have ek3 : (((k : Nat) : Int) == 3) = false := by simp; omega
  have ek6 : (((k : Nat) : Int) == 6) = true := by simp; omega
  have i6 : decide (((a : Nat) : Int) + ((z : Nat) : Int) ≤ 4294967296) = false := by simp; omega
  clear h5 h4
  rotate_left
  have i1 : ((fl : Nat) : Int) ≤ 7 := by omega
  have i2 : ((f : Nat) : Int) ≤ ((z : Nat) : Int) := by omega
  have i3 : decide (((o : Nat) : Int) + ((f : Nat) : Int) ≤ ((m : Nat) : Int)) = true := by simp; omega
  have ety3 : (((ty : Nat) : Int) == 3) = false := by simp; omega
  have ek1 : (((k : Nat) : Int) == 1) = true := by simp; omega
  have i6 : decide (((a : Nat) : Int) + ((z : Nat) : Int) ≤ 140737488355328) = false := by simp; omega
  clear h5 h4
  rotate_left
  have i1 : ((fl : Nat) : Int) ≤ 7 := by omega
  have i2 : ((f : Nat) : Int) ≤ ((z : Nat) : Int) := by omega
  have i3 : decide (((o : Nat) : Int) + ((f : Nat) : Int) ≤ ((m : Nat) : Int)) = true := by simp; omega
  have ety3 : (((ty : Nat) : Int) == 3) = false := by simp; omega
  have ek1 : (((k : Nat) : Int) == 1) = true := by simp; omega
  have i6 : decide (((a : Nat) : Int) + ((z : Nat) : Int) ≤ 140737488355328) = true := by simp; omega
  have eal4096 : (((al : Nat) : Int) == 4096) = false := by simp; omega
  clear h5 h4 h7
  rotate_left
  have i1 : ((fl : Nat) : Int) ≤ 7 := by omega
  have i2 : ((f : Nat) : Int) ≤ ((z : Nat) : Int) := by omega
  have i3 : decide (((o : Nat) : Int) + ((f : Nat) : Int) ≤ ((m : Nat) : Int)) = true := by simp; omega
  have ety3 : (((ty : Nat) : Int) == 3) = false := by simp; omega
  have ek1 : (((k : Nat) : Int) == 1) = true := by simp; omega
  have i6 : decide (((a : Nat) : Int) + ((z : Nat) : Int) ≤ 140737488355328) = true := by simp; omega
  have eal4096 : (((al : Nat) : Int) == 4096) = true := by simp; omega
  have i8 : (((IntKind.u64.wrap (((o : Nat) : Int) - ((a : Nat) : Int))).tmod 4096) == 0) = false := by rw [IntKind.wrap_u64, Int.tmod_eq_emod_of_nonneg (by omega)]; simp; omega
  clear h5 h4 h7 h8
  rotate_left
  all_goals (
    go_enter Tryz.func47, Tryz.ntmps47
    go_wp2_with (first
      | (go_at_call_of 44 (Value.int IntKind.u64 ((p : Nat) : Int)); refine ((unhide G0) _ (below_new (unhide HB))).mono ?_; rintro e w1 ⟨rfl, hx⟩; replace HB := hide ((unhide HB).trans (hx.mono (unhide HB).size)); clear hx)
      | (go_at_call_of 44 (Value.int IntKind.u64 (@HAdd.hAdd Int Int Int instHAdd ((p : Nat) : Int) 4)); refine ((unhide G1) _ (below_new (unhide HB))).mono ?_; rintro e w1 ⟨rfl, hx⟩; replace HB := hide ((unhide HB).trans (hx.mono (unhide HB).size)); clear hx)
      | (go_at_call_of 44 (Value.int IntKind.u64 (@HAdd.hAdd Int Int Int instHAdd ((p : Nat) : Int) 8)); refine ((unhide G2) _ (below_new (unhide HB))).mono ?_; rintro e w1 ⟨rfl, hx⟩; replace HB := hide ((unhide HB).trans (hx.mono (unhide HB).size)); clear hx)
      | (go_at_call_of 44 (Value.int IntKind.u64 (@HAdd.hAdd Int Int Int instHAdd ((p : Nat) : Int) 16)); refine ((unhide G3) _ (below_new (unhide HB))).mono ?_; rintro e w1 ⟨rfl, hx⟩; replace HB := hide ((unhide HB).trans (hx.mono (unhide HB).size)); clear hx)
      | (go_at_call_of 44 (Value.int IntKind.u64 (@HAdd.hAdd Int Int Int instHAdd ((p : Nat) : Int) 32)); refine ((unhide G4) _ (below_new (unhide HB))).mono ?_; rintro e w1 ⟨rfl, hx⟩; replace HB := hide ((unhide HB).trans (hx.mono (unhide HB).size)); clear hx)
      | (go_at_call_of 44 (Value.int IntKind.u64 (@HAdd.hAdd Int Int Int instHAdd ((p : Nat) : Int) 40)); refine ((unhide G5) _ (below_new (unhide HB))).mono ?_; rintro e w1 ⟨rfl, hx⟩; replace HB := hide ((unhide HB).trans (hx.mono (unhide HB).size)); clear hx; have hn := newblk (unhide HB); have hsz := lt_of_block hn; have Hn := hide hn; clear hn)
      | (go_at_call_of 44 (Value.int IntKind.u64 (@HAdd.hAdd Int Int Int instHAdd ((p : Nat) : Int) 48)); refine ((unhide G6) _ (below_new (unhide HB))).mono ?_; rintro e w1 ⟨rfl, hx⟩; replace HB := hide ((unhide HB).trans (hx.mono (unhide HB).size)); clear hx)
      | (go_at_call_of 45 (Value.bool true); refine (must_yes _ _).mono ?_; rintro e w1 ⟨rfl, rfl⟩)
      | (go_at_call_of 45 (Value.bool false); refine (must_no _ _).mono ?_; rintro e w1 ⟨rfl, rfl⟩)
      | (go_at_call_of 46 (Value.int IntKind.u64 ((o : Nat) : Int)); refine (inside_any _ _ _ _ (by omega) (by omega) (by omega) (by omega) (by omega)).mono ?_; rintro e w1 ⟨rfl, rfl⟩)
      | (go_at_call_of 46 (Value.int IntKind.u64 ((a : Nat) : Int)); refine (inside_any _ _ _ _ (by omega) (by omega) (by omega) (by omega) (by omega)).mono ?_; rintro e w1 ⟨rfl, rfl⟩)
      | ((with_reducible refine (@id (wpList _ _ _ (Oper.mk none (Op.store 58 (.tmp 6) (.tmp 97)) _ _ _ none :: _) _ _) ?_)); refine wpList_store_row rfl 58 (.tmp 6) (.tmp 97) rfl w.heap.size #[.int .u32 k, .int .u8 fl, .int .u64 o, .int .u64 a, .int .u64 f, .int .u64 z] rfl rfl 58 _ ((Below.heap_alloc _ _ _ hsz).trans (unhide Hn)) segInfo rfl (segOne _ _ _ _ _ _) ?_))
    refine ⟨rfl, rfl, ?_⟩
    go_grown
    all_goals first | exact below_new (unhide HB) | (have := (below_new (unhide HB)).size; simp; omega))
set_option maxHeartbeats 60000000 in
theorem seg_no1 (A : Option Addr) (m c : Nat) (B : Nat) (b : List UInt8) (p ty : Nat) (w : World) (hB : B ≤ w.heap.size) (hb : Rd w B 1 A m (u8s b)) (hm : m ≤ maxLen) (hin : p + 56 ≤ m) (hp : p ≤ 4294967296) (hty : ty < 65536)
    (hq : ((Wd.num b (p + 4) 4 ≤ 7) ∧ (Wd.num b (p + 32) 8 ≤ Wd.num b (p + 40) 8) ∧ (Wd.num b (p + 8) 8 + Wd.num b (p + 32) 8 ≤ m) ∧ (¬ ty = 3) ∧ (Wd.num b p 4 = 1) ∧ (Wd.num b (p + 16) 8 + Wd.num b (p + 40) 8 ≤ 140737488355328) ∧ (Wd.num b (p + 48) 8 = 4096) ∧ (Wd.num b (p + 8) 8 % 4096 = Wd.num b (p + 16) 8 % 4096) ∧ (¬ 0 < Wd.num b (p + 40) 8))
    ∨ ((Wd.num b (p + 4) 4 ≤ 7) ∧ (Wd.num b (p + 32) 8 ≤ Wd.num b (p + 40) 8) ∧ (Wd.num b (p + 8) 8 + Wd.num b (p + 32) 8 ≤ m) ∧ (¬ ty = 3) ∧ (Wd.num b p 4 = 2) ∧ (¬ Wd.num b (p + 16) 8 + Wd.num b (p + 40) 8 ≤ 140737488355328))
    ∨ ((Wd.num b (p + 4) 4 ≤ 7) ∧ (Wd.num b (p + 32) 8 ≤ Wd.num b (p + 40) 8) ∧ (Wd.num b (p + 8) 8 + Wd.num b (p + 32) 8 ≤ m) ∧ (¬ ty = 3) ∧ (Wd.num b p 4 = 3) ∧ (¬ Wd.num b (p + 16) 8 + Wd.num b (p + 40) 8 ≤ 140737488355328))
    ∨ ((Wd.num b (p + 4) 4 ≤ 7) ∧ (Wd.num b (p + 32) 8 ≤ Wd.num b (p + 40) 8) ∧ (Wd.num b (p + 8) 8 + Wd.num b (p + 32) 8 ≤ m) ∧ (¬ ty = 3) ∧ (Wd.num b p 4 = 6) ∧ (¬ Wd.num b (p + 16) 8 + Wd.num b (p + 40) 8 ≤ 140737488355328))) :
    Calls Tryz.prog 47 #[.slice A m c, .int .u64 p, .int .u16 ty] w fun e w' => e = wrongs 25 ∧ Below w.heap.size w w' := by
  have hbl : b.length = m := by simpa using hb.len1
  have G0 := hide (fun (w' : World) (h : Below w.heap.size w w') => at_lit A m c B b p 4 4 rfl w' (Nat.le_trans hB h.size) ((hb).below (h.mono hB)) hm (by omega) (by omega))
  have G1 := hide (fun (w' : World) (h : Below w.heap.size w w') => at_off A m c B b p 4 4 4 4 rfl rfl w' (Nat.le_trans hB h.size) ((hb).below (h.mono hB)) hm (by omega) (by omega))
  have G2 := hide (fun (w' : World) (h : Below w.heap.size w w') => at_off A m c B b p 8 8 8 8 rfl rfl w' (Nat.le_trans hB h.size) ((hb).below (h.mono hB)) hm (by omega) (by omega))
  have G3 := hide (fun (w' : World) (h : Below w.heap.size w w') => at_off A m c B b p 16 8 16 8 rfl rfl w' (Nat.le_trans hB h.size) ((hb).below (h.mono hB)) hm (by omega) (by omega))
  have G4 := hide (fun (w' : World) (h : Below w.heap.size w w') => at_off A m c B b p 32 8 32 8 rfl rfl w' (Nat.le_trans hB h.size) ((hb).below (h.mono hB)) hm (by omega) (by omega))
  have G5 := hide (fun (w' : World) (h : Below w.heap.size w w') => at_off A m c B b p 40 8 40 8 rfl rfl w' (Nat.le_trans hB h.size) ((hb).below (h.mono hB)) hm (by omega) (by omega))
  have G6 := hide (fun (w' : World) (h : Below w.heap.size w w') => at_off A m c B b p 48 8 48 8 rfl rfl w' (Nat.le_trans hB h.size) ((hb).below (h.mono hB)) hm (by omega) (by omega))
  have l0 : Wd.num b p 4 < 4294967296 := Wd.num_lt _ _ _
  have l1 : Wd.num b (p + 4) 4 < 4294967296 := Wd.num_lt _ _ _
  have l2 : Wd.num b (p + 8) 8 < 18446744073709551616 := Wd.num_lt _ _ _
  have l3 : Wd.num b (p + 16) 8 < 18446744073709551616 := Wd.num_lt _ _ _
  have l4 : Wd.num b (p + 32) 8 < 18446744073709551616 := Wd.num_lt _ _ _
  have l5 : Wd.num b (p + 40) 8 < 18446744073709551616 := Wd.num_lt _ _ _
  have l6 : Wd.num b (p + 48) 8 < 18446744073709551616 := Wd.num_lt _ _ _
  generalize Wd.num b p 4 = k at *
  generalize Wd.num b (p + 4) 4 = fl at *
  generalize Wd.num b (p + 8) 8 = o at *
  generalize Wd.num b (p + 16) 8 = a at *
  generalize Wd.num b (p + 32) 8 = f at *
  generalize Wd.num b (p + 40) 8 = z at *
  generalize Wd.num b (p + 48) 8 = al at *
  unfold maxLen at hm
  clear hb hbl
  have HB := hide (Below.refl (w.alloc (.cells #[.int .u32 0, .int .u8 0, .int .u64 0, .int .u64 0, .int .u64 0, .int .u64 0] 58)).heap.size (w.alloc (.cells #[.int .u32 0, .int .u8 0, .int .u64 0, .int .u64 0, .int .u64 0, .int .u64 0] 58)))
  rcases hq with ⟨h1, h2, h3, h4, h5, h6, h7, h8, h9⟩ | ⟨h1, h2, h3, h4, h5, h6⟩ | ⟨h1, h2, h3, h4, h5, h6⟩ | ⟨h1, h2, h3, h4, h5, h6⟩
  have i1 : ((fl : Nat) : Int) ≤ 7 := by omega
  have i2 : ((f : Nat) : Int) ≤ ((z : Nat) : Int) := by omega
  have i3 : decide (((o : Nat) : Int) + ((f : Nat) : Int) ≤ ((m : Nat) : Int)) = true := by simp; omega
  have ety3 : (((ty : Nat) : Int) == 3) = false := by simp; omega
  have ek1 : (((k : Nat) : Int) == 1) = true := by simp; omega
  have i6 : decide (((a : Nat) : Int) + ((z : Nat) : Int) ≤ 140737488355328) = true := by simp; omega
  have eal4096 : (((al : Nat) : Int) == 4096) = true := by simp; omega
  have i8 : (((IntKind.u64.wrap (((o : Nat) : Int) - ((a : Nat) : Int))).tmod 4096) == 0) = true := by rw [IntKind.wrap_u64, Int.tmod_eq_emod_of_nonneg (by omega)]; simp; omega
  have i9 : ¬ (0 : Int) < ((z : Nat) : Int) := by omega
  have i9' : decide (0 < z) = false := by simp; omega
  clear h5 h4 h7 h8
  rotate_left
  have i1 : ((fl : Nat) : Int) ≤ 7 := by omega
  have i2 : ((f : Nat) : Int) ≤ ((z : Nat) : Int) := by omega
  have i3 : decide (((o : Nat) : Int) + ((f : Nat) : Int) ≤ ((m : Nat) : Int)) = true := by simp; omega
  have ety3 : (((ty : Nat) : Int) == 3) = false := by simp; omega
  have ek1 : (((k : Nat) : Int) == 1) = false := by simp; omega
  have ek2 : (((k : Nat) : Int) == 2) = true := by simp; omega
  have i6 : decide (((a : Nat) : Int) + ((z : Nat) : Int) ≤ 140737488355328) = false := by simp; omega
  clear h5 h4
  rotate_left
  have i1 : ((fl : Nat) : Int) ≤ 7 := by omega
  have i2 : ((f : Nat) : Int) ≤ ((z : Nat) : Int) := by omega
  have i3 : decide (((o : Nat) : Int) + ((f : Nat) : Int) ≤ ((m : Nat) : Int)) = true := by simp; omega
  have ety3 : (((ty : Nat) : Int) == 3) = false := by simp; omega
  have ek1 : (((k : Nat) : Int) == 1) = false := by simp; omega
  have ek2 : (((k : Nat) : Int) == 2) = false := by simp; omega
  have ek3 : (((k : Nat) : Int) == 3) = true := by simp; omega
  have i6 : decide (((a : Nat) : Int) + ((z : Nat) : Int) ≤ 140737488355328) = false := by simp; omega
  clear h5 h4
  rotate_left
  have i1 : ((fl : Nat) : Int) ≤ 7 := by omega
  have i2 : ((f : Nat) : Int) ≤ ((z : Nat) : Int) := by omega
  have i3 : decide (((o : Nat) : Int) + ((f : Nat) : Int) ≤ ((m : Nat) : Int)) = true := by simp; omega
  have ety3 : (((ty : Nat) : Int) == 3) = false := by simp; omega
  have ek1 : (((k : Nat) : Int) == 1) = false := by simp; omega
  have ek2 : (((k : Nat) : Int) == 2) = false := by simp; omega
  have ek3 : (((k : Nat) : Int) == 3) = false := by simp; omega
  have ek6 : (((k : Nat) : Int) == 6) = true := by simp; omega
  have i6 : decide (((a : Nat) : Int) + ((z : Nat) : Int) ≤ 140737488355328) = false := by simp; omega
  clear h5 h4
  rotate_left
  all_goals (
    go_enter Tryz.func47, Tryz.ntmps47
    go_wp2_with (first
      | (go_at_call_of 44 (Value.int IntKind.u64 ((p : Nat) : Int)); refine ((unhide G0) _ (below_new (unhide HB))).mono ?_; rintro e w1 ⟨rfl, hx⟩; replace HB := hide ((unhide HB).trans (hx.mono (unhide HB).size)); clear hx)
      | (go_at_call_of 44 (Value.int IntKind.u64 (@HAdd.hAdd Int Int Int instHAdd ((p : Nat) : Int) 4)); refine ((unhide G1) _ (below_new (unhide HB))).mono ?_; rintro e w1 ⟨rfl, hx⟩; replace HB := hide ((unhide HB).trans (hx.mono (unhide HB).size)); clear hx)
      | (go_at_call_of 44 (Value.int IntKind.u64 (@HAdd.hAdd Int Int Int instHAdd ((p : Nat) : Int) 8)); refine ((unhide G2) _ (below_new (unhide HB))).mono ?_; rintro e w1 ⟨rfl, hx⟩; replace HB := hide ((unhide HB).trans (hx.mono (unhide HB).size)); clear hx)
      | (go_at_call_of 44 (Value.int IntKind.u64 (@HAdd.hAdd Int Int Int instHAdd ((p : Nat) : Int) 16)); refine ((unhide G3) _ (below_new (unhide HB))).mono ?_; rintro e w1 ⟨rfl, hx⟩; replace HB := hide ((unhide HB).trans (hx.mono (unhide HB).size)); clear hx)
      | (go_at_call_of 44 (Value.int IntKind.u64 (@HAdd.hAdd Int Int Int instHAdd ((p : Nat) : Int) 32)); refine ((unhide G4) _ (below_new (unhide HB))).mono ?_; rintro e w1 ⟨rfl, hx⟩; replace HB := hide ((unhide HB).trans (hx.mono (unhide HB).size)); clear hx)
      | (go_at_call_of 44 (Value.int IntKind.u64 (@HAdd.hAdd Int Int Int instHAdd ((p : Nat) : Int) 40)); refine ((unhide G5) _ (below_new (unhide HB))).mono ?_; rintro e w1 ⟨rfl, hx⟩; replace HB := hide ((unhide HB).trans (hx.mono (unhide HB).size)); clear hx; have hn := newblk (unhide HB); have hsz := lt_of_block hn; have Hn := hide hn; clear hn)
      | (go_at_call_of 44 (Value.int IntKind.u64 (@HAdd.hAdd Int Int Int instHAdd ((p : Nat) : Int) 48)); refine ((unhide G6) _ (below_new (unhide HB))).mono ?_; rintro e w1 ⟨rfl, hx⟩; replace HB := hide ((unhide HB).trans (hx.mono (unhide HB).size)); clear hx)
      | (go_at_call_of 45 (Value.bool true); refine (must_yes _ _).mono ?_; rintro e w1 ⟨rfl, rfl⟩)
      | (go_at_call_of 45 (Value.bool false); refine (must_no _ _).mono ?_; rintro e w1 ⟨rfl, rfl⟩)
      | (go_at_call_of 46 (Value.int IntKind.u64 ((o : Nat) : Int)); refine (inside_any _ _ _ _ (by omega) (by omega) (by omega) (by omega) (by omega)).mono ?_; rintro e w1 ⟨rfl, rfl⟩)
      | (go_at_call_of 46 (Value.int IntKind.u64 ((a : Nat) : Int)); refine (inside_any _ _ _ _ (by omega) (by omega) (by omega) (by omega) (by omega)).mono ?_; rintro e w1 ⟨rfl, rfl⟩)
      | ((with_reducible refine (@id (wpList _ _ _ (Oper.mk none (Op.store 58 (.tmp 6) (.tmp 97)) _ _ _ none :: _) _ _) ?_)); refine wpList_store_row rfl 58 (.tmp 6) (.tmp 97) rfl w.heap.size #[.int .u32 k, .int .u8 fl, .int .u64 o, .int .u64 a, .int .u64 f, .int .u64 z] rfl rfl 58 _ ((Below.heap_alloc _ _ _ hsz).trans (unhide Hn)) segInfo rfl (segOne _ _ _ _ _ _) ?_))
    refine ⟨rfl, rfl, ?_⟩
    go_grown
    all_goals first | exact below_new (unhide HB) | (have := (below_new (unhide HB)).size; simp; omega))
set_option maxHeartbeats 60000000 in
theorem seg_yes0 (A : Option Addr) (m c : Nat) (B : Nat) (b : List UInt8) (p ty : Nat) (w : World) (hB : B ≤ w.heap.size) (hb : Rd w B 1 A m (u8s b)) (hm : m ≤ maxLen) (hin : p + 56 ≤ m) (hp : p ≤ 4294967296) (hty : ty < 65536)
    (hq : ((Wd.num b (p + 4) 4 ≤ 7) ∧ (Wd.num b (p + 32) 8 ≤ Wd.num b (p + 40) 8) ∧ (Wd.num b (p + 8) 8 + Wd.num b (p + 32) 8 ≤ m) ∧ (ty = 3) ∧ (Wd.num b p 4 = 1) ∧ (Wd.num b (p + 16) 8 + Wd.num b (p + 40) 8 ≤ 4294967296) ∧ (Wd.num b (p + 48) 8 = 4096) ∧ (Wd.num b (p + 8) 8 % 4096 = Wd.num b (p + 16) 8 % 4096) ∧ (0 < Wd.num b (p + 40) 8))
    ∨ ((Wd.num b (p + 4) 4 ≤ 7) ∧ (Wd.num b (p + 32) 8 ≤ Wd.num b (p + 40) 8) ∧ (Wd.num b (p + 8) 8 + Wd.num b (p + 32) 8 ≤ m) ∧ (ty = 3) ∧ (Wd.num b p 4 = 2) ∧ (Wd.num b (p + 16) 8 + Wd.num b (p + 40) 8 ≤ 4294967296))
    ∨ ((Wd.num b (p + 4) 4 ≤ 7) ∧ (Wd.num b (p + 32) 8 ≤ Wd.num b (p + 40) 8) ∧ (Wd.num b (p + 8) 8 + Wd.num b (p + 32) 8 ≤ m) ∧ (ty = 3) ∧ (Wd.num b p 4 = 3) ∧ (Wd.num b (p + 16) 8 + Wd.num b (p + 40) 8 ≤ 4294967296))
    ∨ ((Wd.num b (p + 4) 4 ≤ 7) ∧ (Wd.num b (p + 32) 8 ≤ Wd.num b (p + 40) 8) ∧ (Wd.num b (p + 8) 8 + Wd.num b (p + 32) 8 ≤ m) ∧ (ty = 3) ∧ (Wd.num b p 4 = 6) ∧ (Wd.num b (p + 16) 8 + Wd.num b (p + 40) 8 ≤ 4294967296))
    ∨ ((Wd.num b (p + 4) 4 ≤ 7) ∧ (Wd.num b (p + 32) 8 ≤ Wd.num b (p + 40) 8) ∧ (Wd.num b (p + 8) 8 + Wd.num b (p + 32) 8 ≤ m) ∧ (¬ ty = 3) ∧ (Wd.num b p 4 = 1) ∧ (Wd.num b (p + 16) 8 + Wd.num b (p + 40) 8 ≤ 140737488355328) ∧ (Wd.num b (p + 48) 8 = 4096) ∧ (Wd.num b (p + 8) 8 % 4096 = Wd.num b (p + 16) 8 % 4096) ∧ (0 < Wd.num b (p + 40) 8))
    ∨ ((Wd.num b (p + 4) 4 ≤ 7) ∧ (Wd.num b (p + 32) 8 ≤ Wd.num b (p + 40) 8) ∧ (Wd.num b (p + 8) 8 + Wd.num b (p + 32) 8 ≤ m) ∧ (¬ ty = 3) ∧ (Wd.num b p 4 = 2) ∧ (Wd.num b (p + 16) 8 + Wd.num b (p + 40) 8 ≤ 140737488355328))
    ∨ ((Wd.num b (p + 4) 4 ≤ 7) ∧ (Wd.num b (p + 32) 8 ≤ Wd.num b (p + 40) 8) ∧ (Wd.num b (p + 8) 8 + Wd.num b (p + 32) 8 ≤ m) ∧ (¬ ty = 3) ∧ (Wd.num b p 4 = 3) ∧ (Wd.num b (p + 16) 8 + Wd.num b (p + 40) 8 ≤ 140737488355328))
    ∨ ((Wd.num b (p + 4) 4 ≤ 7) ∧ (Wd.num b (p + 32) 8 ≤ Wd.num b (p + 40) 8) ∧ (Wd.num b (p + 8) 8 + Wd.num b (p + 32) 8 ≤ m) ∧ (¬ ty = 3) ∧ (Wd.num b p 4 = 6) ∧ (Wd.num b (p + 16) 8 + Wd.num b (p + 40) 8 ≤ 140737488355328))
    ∨ ((Wd.num b (p + 4) 4 ≤ 7) ∧ (Wd.num b (p + 32) 8 ≤ Wd.num b (p + 40) 8) ∧ (Wd.num b (p + 8) 8 + Wd.num b (p + 32) 8 ≤ m) ∧ (¬ Wd.num b p 4 = 1 ∧ ¬ Wd.num b p 4 = 2 ∧ ¬ Wd.num b p 4 = 3 ∧ ¬ Wd.num b p 4 = 6))) :
    Calls Tryz.prog 47 #[.slice A m c, .int .u64 p, .int .u16 ty] w fun e w' => e = .returned (segVal (El.segAt b p)) ∧ Below w.heap.size w w' := by
  unfold El.segAt
  have hbl : b.length = m := by simpa using hb.len1
  have G0 := hide (fun (w' : World) (h : Below w.heap.size w w') => at_lit A m c B b p 4 4 rfl w' (Nat.le_trans hB h.size) ((hb).below (h.mono hB)) hm (by omega) (by omega))
  have G1 := hide (fun (w' : World) (h : Below w.heap.size w w') => at_off A m c B b p 4 4 4 4 rfl rfl w' (Nat.le_trans hB h.size) ((hb).below (h.mono hB)) hm (by omega) (by omega))
  have G2 := hide (fun (w' : World) (h : Below w.heap.size w w') => at_off A m c B b p 8 8 8 8 rfl rfl w' (Nat.le_trans hB h.size) ((hb).below (h.mono hB)) hm (by omega) (by omega))
  have G3 := hide (fun (w' : World) (h : Below w.heap.size w w') => at_off A m c B b p 16 8 16 8 rfl rfl w' (Nat.le_trans hB h.size) ((hb).below (h.mono hB)) hm (by omega) (by omega))
  have G4 := hide (fun (w' : World) (h : Below w.heap.size w w') => at_off A m c B b p 32 8 32 8 rfl rfl w' (Nat.le_trans hB h.size) ((hb).below (h.mono hB)) hm (by omega) (by omega))
  have G5 := hide (fun (w' : World) (h : Below w.heap.size w w') => at_off A m c B b p 40 8 40 8 rfl rfl w' (Nat.le_trans hB h.size) ((hb).below (h.mono hB)) hm (by omega) (by omega))
  have G6 := hide (fun (w' : World) (h : Below w.heap.size w w') => at_off A m c B b p 48 8 48 8 rfl rfl w' (Nat.le_trans hB h.size) ((hb).below (h.mono hB)) hm (by omega) (by omega))
  have l0 : Wd.num b p 4 < 4294967296 := Wd.num_lt _ _ _
  have l1 : Wd.num b (p + 4) 4 < 4294967296 := Wd.num_lt _ _ _
  have l2 : Wd.num b (p + 8) 8 < 18446744073709551616 := Wd.num_lt _ _ _
  have l3 : Wd.num b (p + 16) 8 < 18446744073709551616 := Wd.num_lt _ _ _
  have l4 : Wd.num b (p + 32) 8 < 18446744073709551616 := Wd.num_lt _ _ _
  have l5 : Wd.num b (p + 40) 8 < 18446744073709551616 := Wd.num_lt _ _ _
  have l6 : Wd.num b (p + 48) 8 < 18446744073709551616 := Wd.num_lt _ _ _
  generalize Wd.num b p 4 = k at *
  generalize Wd.num b (p + 4) 4 = fl at *
  generalize Wd.num b (p + 8) 8 = o at *
  generalize Wd.num b (p + 16) 8 = a at *
  generalize Wd.num b (p + 32) 8 = f at *
  generalize Wd.num b (p + 40) 8 = z at *
  generalize Wd.num b (p + 48) 8 = al at *
  unfold maxLen at hm
  clear hb hbl
  have HB := hide (Below.refl (w.alloc (.cells #[.int .u32 0, .int .u8 0, .int .u64 0, .int .u64 0, .int .u64 0, .int .u64 0] 58)).heap.size (w.alloc (.cells #[.int .u32 0, .int .u8 0, .int .u64 0, .int .u64 0, .int .u64 0, .int .u64 0] 58)))
  rcases hq with ⟨h1, h2, h3, h4, h5, h6, h7, h8, h9⟩ | ⟨h1, h2, h3, h4, h5, h6⟩ | ⟨h1, h2, h3, h4, h5, h6⟩ | ⟨h1, h2, h3, h4, h5, h6⟩ | ⟨h1, h2, h3, h4, h5, h6, h7, h8, h9⟩ | ⟨h1, h2, h3, h4, h5, h6⟩ | ⟨h1, h2, h3, h4, h5, h6⟩ | ⟨h1, h2, h3, h4, h5, h6⟩ | ⟨h1, h2, h3, h5⟩
  have i1 : ((fl : Nat) : Int) ≤ 7 := by omega
  have i2 : ((f : Nat) : Int) ≤ ((z : Nat) : Int) := by omega
  have i3 : decide (((o : Nat) : Int) + ((f : Nat) : Int) ≤ ((m : Nat) : Int)) = true := by simp; omega
  have ety3 : (((ty : Nat) : Int) == 3) = true := by simp; omega
  have ek1 : (((k : Nat) : Int) == 1) = true := by simp; omega
  have i6 : decide (((a : Nat) : Int) + ((z : Nat) : Int) ≤ 4294967296) = true := by simp; omega
  have eal4096 : (((al : Nat) : Int) == 4096) = true := by simp; omega
  have i8 : (((IntKind.u64.wrap (((o : Nat) : Int) - ((a : Nat) : Int))).tmod 4096) == 0) = true := by rw [IntKind.wrap_u64, Int.tmod_eq_emod_of_nonneg (by omega)]; simp; omega
  have i9 : (0 : Int) < ((z : Nat) : Int) := by omega
  clear h5 h4 h7 h8
  rotate_left
  have i1 : ((fl : Nat) : Int) ≤ 7 := by omega
  have i2 : ((f : Nat) : Int) ≤ ((z : Nat) : Int) := by omega
  have i3 : decide (((o : Nat) : Int) + ((f : Nat) : Int) ≤ ((m : Nat) : Int)) = true := by simp; omega
  have ety3 : (((ty : Nat) : Int) == 3) = true := by simp; omega
  have ek1 : (((k : Nat) : Int) == 1) = false := by simp; omega
  have ek2 : (((k : Nat) : Int) == 2) = true := by simp; omega
  have i6 : decide (((a : Nat) : Int) + ((z : Nat) : Int) ≤ 4294967296) = true := by simp; omega
  clear h5 h4
  rotate_left
  have i1 : ((fl : Nat) : Int) ≤ 7 := by omega
  have i2 : ((f : Nat) : Int) ≤ ((z : Nat) : Int) := by omega
  have i3 : decide (((o : Nat) : Int) + ((f : Nat) : Int) ≤ ((m : Nat) : Int)) = true := by simp; omega
  have ety3 : (((ty : Nat) : Int) == 3) = true := by simp; omega
  have ek1 : (((k : Nat) : Int) == 1) = false := by simp; omega
  have ek2 : (((k : Nat) : Int) == 2) = false := by simp; omega
  have ek3 : (((k : Nat) : Int) == 3) = true := by simp; omega
  have i6 : decide (((a : Nat) : Int) + ((z : Nat) : Int) ≤ 4294967296) = true := by simp; omega
  clear h5 h4
  rotate_left
  have i1 : ((fl : Nat) : Int) ≤ 7 := by omega
  have i2 : ((f : Nat) : Int) ≤ ((z : Nat) : Int) := by omega
  have i3 : decide (((o : Nat) : Int) + ((f : Nat) : Int) ≤ ((m : Nat) : Int)) = true := by simp; omega
  have ety3 : (((ty : Nat) : Int) == 3) = true := by simp; omega
  have ek1 : (((k : Nat) : Int) == 1) = false := by simp; omega
  have ek2 : (((k : Nat) : Int) == 2) = false := by simp; omega
  have ek3 : (((k : Nat) : Int) == 3) = false := by simp; omega
  have ek6 : (((k : Nat) : Int) == 6) = true := by simp; omega
  have i6 : decide (((a : Nat) : Int) + ((z : Nat) : Int) ≤ 4294967296) = true := by simp; omega
  clear h5 h4
  rotate_left
  have i1 : ((fl : Nat) : Int) ≤ 7 := by omega
  have i2 : ((f : Nat) : Int) ≤ ((z : Nat) : Int) := by omega
  have i3 : decide (((o : Nat) : Int) + ((f : Nat) : Int) ≤ ((m : Nat) : Int)) = true := by simp; omega
  have ety3 : (((ty : Nat) : Int) == 3) = false := by simp; omega
  have ek1 : (((k : Nat) : Int) == 1) = true := by simp; omega
  have i6 : decide (((a : Nat) : Int) + ((z : Nat) : Int) ≤ 140737488355328) = true := by simp; omega
  have eal4096 : (((al : Nat) : Int) == 4096) = true := by simp; omega
  have i8 : (((IntKind.u64.wrap (((o : Nat) : Int) - ((a : Nat) : Int))).tmod 4096) == 0) = true := by rw [IntKind.wrap_u64, Int.tmod_eq_emod_of_nonneg (by omega)]; simp; omega
  have i9 : (0 : Int) < ((z : Nat) : Int) := by omega
  clear h5 h4 h7 h8
  rotate_left
  have i1 : ((fl : Nat) : Int) ≤ 7 := by omega
  have i2 : ((f : Nat) : Int) ≤ ((z : Nat) : Int) := by omega
  have i3 : decide (((o : Nat) : Int) + ((f : Nat) : Int) ≤ ((m : Nat) : Int)) = true := by simp; omega
  have ety3 : (((ty : Nat) : Int) == 3) = false := by simp; omega
  have ek1 : (((k : Nat) : Int) == 1) = false := by simp; omega
  have ek2 : (((k : Nat) : Int) == 2) = true := by simp; omega
  have i6 : decide (((a : Nat) : Int) + ((z : Nat) : Int) ≤ 140737488355328) = true := by simp; omega
  clear h5 h4
  rotate_left
  have i1 : ((fl : Nat) : Int) ≤ 7 := by omega
  have i2 : ((f : Nat) : Int) ≤ ((z : Nat) : Int) := by omega
  have i3 : decide (((o : Nat) : Int) + ((f : Nat) : Int) ≤ ((m : Nat) : Int)) = true := by simp; omega
  have ety3 : (((ty : Nat) : Int) == 3) = false := by simp; omega
  have ek1 : (((k : Nat) : Int) == 1) = false := by simp; omega
  have ek2 : (((k : Nat) : Int) == 2) = false := by simp; omega
  have ek3 : (((k : Nat) : Int) == 3) = true := by simp; omega
  have i6 : decide (((a : Nat) : Int) + ((z : Nat) : Int) ≤ 140737488355328) = true := by simp; omega
  clear h5 h4
  rotate_left
  have i1 : ((fl : Nat) : Int) ≤ 7 := by omega
  have i2 : ((f : Nat) : Int) ≤ ((z : Nat) : Int) := by omega
  have i3 : decide (((o : Nat) : Int) + ((f : Nat) : Int) ≤ ((m : Nat) : Int)) = true := by simp; omega
  have ety3 : (((ty : Nat) : Int) == 3) = false := by simp; omega
  have ek1 : (((k : Nat) : Int) == 1) = false := by simp; omega
  have ek2 : (((k : Nat) : Int) == 2) = false := by simp; omega
  have ek3 : (((k : Nat) : Int) == 3) = false := by simp; omega
  have ek6 : (((k : Nat) : Int) == 6) = true := by simp; omega
  have i6 : decide (((a : Nat) : Int) + ((z : Nat) : Int) ≤ 140737488355328) = true := by simp; omega
  clear h5 h4
  rotate_left
  have i1 : ((fl : Nat) : Int) ≤ 7 := by omega
  have i2 : ((f : Nat) : Int) ≤ ((z : Nat) : Int) := by omega
  have i3 : decide (((o : Nat) : Int) + ((f : Nat) : Int) ≤ ((m : Nat) : Int)) = true := by simp; omega
  obtain ⟨k1, k2, k3, k6⟩ := h5
  have ek1 : (((k : Nat) : Int) == 1) = false := by simp; omega
  have ek2 : (((k : Nat) : Int) == 2) = false := by simp; omega
  have ek3 : (((k : Nat) : Int) == 3) = false := by simp; omega
  have ek6 : (((k : Nat) : Int) == 6) = false := by simp; omega
  clear k1 k2 k3 k6
  rotate_left
  all_goals (
    go_enter Tryz.func47, Tryz.ntmps47
    go_wp2_with (first
      | (go_at_call_of 44 (Value.int IntKind.u64 ((p : Nat) : Int)); refine ((unhide G0) _ (below_new (unhide HB))).mono ?_; rintro e w1 ⟨rfl, hx⟩; replace HB := hide ((unhide HB).trans (hx.mono (unhide HB).size)); clear hx)
      | (go_at_call_of 44 (Value.int IntKind.u64 (@HAdd.hAdd Int Int Int instHAdd ((p : Nat) : Int) 4)); refine ((unhide G1) _ (below_new (unhide HB))).mono ?_; rintro e w1 ⟨rfl, hx⟩; replace HB := hide ((unhide HB).trans (hx.mono (unhide HB).size)); clear hx)
      | (go_at_call_of 44 (Value.int IntKind.u64 (@HAdd.hAdd Int Int Int instHAdd ((p : Nat) : Int) 8)); refine ((unhide G2) _ (below_new (unhide HB))).mono ?_; rintro e w1 ⟨rfl, hx⟩; replace HB := hide ((unhide HB).trans (hx.mono (unhide HB).size)); clear hx)
      | (go_at_call_of 44 (Value.int IntKind.u64 (@HAdd.hAdd Int Int Int instHAdd ((p : Nat) : Int) 16)); refine ((unhide G3) _ (below_new (unhide HB))).mono ?_; rintro e w1 ⟨rfl, hx⟩; replace HB := hide ((unhide HB).trans (hx.mono (unhide HB).size)); clear hx)
      | (go_at_call_of 44 (Value.int IntKind.u64 (@HAdd.hAdd Int Int Int instHAdd ((p : Nat) : Int) 32)); refine ((unhide G4) _ (below_new (unhide HB))).mono ?_; rintro e w1 ⟨rfl, hx⟩; replace HB := hide ((unhide HB).trans (hx.mono (unhide HB).size)); clear hx)
      | (go_at_call_of 44 (Value.int IntKind.u64 (@HAdd.hAdd Int Int Int instHAdd ((p : Nat) : Int) 40)); refine ((unhide G5) _ (below_new (unhide HB))).mono ?_; rintro e w1 ⟨rfl, hx⟩; replace HB := hide ((unhide HB).trans (hx.mono (unhide HB).size)); clear hx; have hn := newblk (unhide HB); have hsz := lt_of_block hn; have Hn := hide hn; clear hn)
      | (go_at_call_of 44 (Value.int IntKind.u64 (@HAdd.hAdd Int Int Int instHAdd ((p : Nat) : Int) 48)); refine ((unhide G6) _ (below_new (unhide HB))).mono ?_; rintro e w1 ⟨rfl, hx⟩; replace HB := hide ((unhide HB).trans (hx.mono (unhide HB).size)); clear hx)
      | (go_at_call_of 45 (Value.bool true); refine (must_yes _ _).mono ?_; rintro e w1 ⟨rfl, rfl⟩)
      | (go_at_call_of 45 (Value.bool false); refine (must_no _ _).mono ?_; rintro e w1 ⟨rfl, rfl⟩)
      | (go_at_call_of 46 (Value.int IntKind.u64 ((o : Nat) : Int)); refine (inside_any _ _ _ _ (by omega) (by omega) (by omega) (by omega) (by omega)).mono ?_; rintro e w1 ⟨rfl, rfl⟩)
      | (go_at_call_of 46 (Value.int IntKind.u64 ((a : Nat) : Int)); refine (inside_any _ _ _ _ (by omega) (by omega) (by omega) (by omega) (by omega)).mono ?_; rintro e w1 ⟨rfl, rfl⟩)
      | ((with_reducible refine (@id (wpList _ _ _ (Oper.mk none (Op.store 58 (.tmp 6) (.tmp 97)) _ _ _ none :: _) _ _) ?_)); refine wpList_store_row rfl 58 (.tmp 6) (.tmp 97) rfl w.heap.size #[.int .u32 k, .int .u8 fl, .int .u64 o, .int .u64 a, .int .u64 f, .int .u64 z] rfl rfl 58 _ ((Below.heap_alloc _ _ _ hsz).trans (unhide Hn)) segInfo rfl (segOne _ _ _ _ _ _) ?_))
    refine bodyPost_ret (results_cell_row (P := Tryz.prog) rfl _ _ w.heap.size 58 #[.int .u32 k, .int .u8 fl, .int .u64 o, .int .u64 a, .int .u64 f, .int .u64 z] (0, 0) _ rfl (setRow_heap _ _ _ _ _ _ ((Below.heap_alloc _ _ _ hsz).trans (unhide Hn))) Tryz.underlying58 rfl segInfo) rfl ⟨rfl, ?_⟩
    exact below_setRow ((below_new (unhide HB)).alloc (below_new (unhide HB)).size _) (Nat.le_refl _) _)
theorem segment_any (A : Option Addr) (m c : Nat) (B : Nat) (b : List UInt8) (p ty : Nat) (w : World) (hB : B ≤ w.heap.size) (hb : Rd w B 1 A m (u8s b)) (hm : m ≤ maxLen) (hin : p + 56 ≤ m) (hp : p ≤ 4294967296) (hty : ty < 65536) :
    Calls Tryz.prog 47 #[.slice A m c, .int .u64 p, .int .u16 ty] w fun e w' => e = (if El.segOk b p ty then .returned (segVal (El.segAt b p)) else wrongs 25) ∧ Below w.heap.size w w' := by
  have hbl : b.length = m := by simpa using hb.len1
  have yes : El.segOk b p ty = true → Calls Tryz.prog 47 #[.slice A m c, .int .u64 p, .int .u16 ty] w (fun e w' => e = .returned (segVal (El.segAt b p)) ∧ Below w.heap.size w w') → Calls Tryz.prog 47 #[.slice A m c, .int .u64 p, .int .u16 ty] w fun e w' => e = (if El.segOk b p ty then .returned (segVal (El.segAt b p)) else wrongs 25) ∧ Below w.heap.size w w' := fun h c => by rw [h]; exact c
  have no : El.segOk b p ty = false → Calls Tryz.prog 47 #[.slice A m c, .int .u64 p, .int .u16 ty] w (fun e w' => e = wrongs 25 ∧ Below w.heap.size w w') → Calls Tryz.prog 47 #[.slice A m c, .int .u64 p, .int .u16 ty] w fun e w' => e = (if El.segOk b p ty then .returned (segVal (El.segAt b p)) else wrongs 25) ∧ Below w.heap.size w w' := fun h c => by rw [h]; exact c
  by_cases h1 : Wd.num b (p + 4) 4 ≤ 7
  case neg => exact no (by simp [El.segOk, El.flagsB, El.insideB, El.endB, El.alignB, El.knownB, El.endOf, El.segAt, *] <;> omega) (seg_no0 A m c B b p ty w hB hb hm hin hp hty (.inl h1))
  by_cases h2 : Wd.num b (p + 32) 8 ≤ Wd.num b (p + 40) 8
  case neg => exact no (by simp [El.segOk, El.flagsB, El.insideB, El.endB, El.alignB, El.knownB, El.endOf, El.segAt, *] <;> omega) (seg_no0 A m c B b p ty w hB hb hm hin hp hty (.inr (.inl ⟨h1, h2⟩)))
  by_cases h3 : Wd.num b (p + 8) 8 + Wd.num b (p + 32) 8 ≤ m
  case neg => exact no (by simp [El.segOk, El.flagsB, El.insideB, El.endB, El.alignB, El.knownB, El.endOf, El.segAt, *] <;> omega) (seg_no0 A m c B b p ty w hB hb hm hin hp hty (.inr (.inr (.inl ⟨h1, h2, h3⟩))))
  by_cases h5 : ¬ Wd.num b p 4 = 1 ∧ ¬ Wd.num b p 4 = 2 ∧ ¬ Wd.num b p 4 = 3 ∧ ¬ Wd.num b p 4 = 6
  · exact yes (by simp [El.segOk, El.flagsB, El.insideB, El.endB, El.alignB, El.knownB, El.endOf, El.segAt, *] <;> omega) (seg_yes0 A m c B b p ty w hB hb hm hin hp hty (.inr (.inr (.inr (.inr (.inr (.inr (.inr (.inr ⟨h1, h2, h3, h5⟩)))))))))
  have h5' : Wd.num b p 4 = 1 ∨ Wd.num b p 4 = 2 ∨ Wd.num b p 4 = 3 ∨ Wd.num b p 4 = 6 := by omega
  clear h5
  by_cases h4 : ty = 3
  · by_cases h6 : Wd.num b (p + 16) 8 + Wd.num b (p + 40) 8 ≤ 4294967296
    · rcases h5' with h5 | h5 | h5 | h5
      · by_cases h7 : Wd.num b (p + 48) 8 = 4096
        · by_cases h8 : Wd.num b (p + 8) 8 % 4096 = Wd.num b (p + 16) 8 % 4096
          · by_cases h9 : 0 < Wd.num b (p + 40) 8
            · exact yes (by simp [El.segOk, El.flagsB, El.insideB, El.endB, El.alignB, El.knownB, El.endOf, El.segAt, *] <;> omega) (seg_yes0 A m c B b p ty w hB hb hm hin hp hty (.inl ⟨h1, h2, h3, h4, h5, h6, h7, h8, h9⟩))
            · exact no (by simp [El.segOk, El.flagsB, El.insideB, El.endB, El.alignB, El.knownB, El.endOf, El.segAt, *] <;> omega) (seg_no0 A m c B b p ty w hB hb hm hin hp hty (.inr (.inr (.inr (.inr (.inr (.inr (.inl ⟨h1, h2, h3, h4, h5, h6, h7, h8, h9⟩))))))))
          · exact no (by simp [El.segOk, El.flagsB, El.insideB, El.endB, El.alignB, El.knownB, El.endOf, El.segAt, *] <;> omega) (seg_no0 A m c B b p ty w hB hb hm hin hp hty (.inr (.inr (.inr (.inr (.inr (.inl ⟨h1, h2, h3, h4, h5, h6, h7, h8⟩)))))))
        · exact no (by simp [El.segOk, El.flagsB, El.insideB, El.endB, El.alignB, El.knownB, El.endOf, El.segAt, *] <;> omega) (seg_no0 A m c B b p ty w hB hb hm hin hp hty (.inr (.inr (.inr (.inr (.inl ⟨h1, h2, h3, h4, h5, h6, h7⟩))))))
      · exact yes (by simp [El.segOk, El.flagsB, El.insideB, El.endB, El.alignB, El.knownB, El.endOf, El.segAt, *] <;> omega) (seg_yes0 A m c B b p ty w hB hb hm hin hp hty (.inr (.inl ⟨h1, h2, h3, h4, h5, h6⟩)))
      · exact yes (by simp [El.segOk, El.flagsB, El.insideB, El.endB, El.alignB, El.knownB, El.endOf, El.segAt, *] <;> omega) (seg_yes0 A m c B b p ty w hB hb hm hin hp hty (.inr (.inr (.inl ⟨h1, h2, h3, h4, h5, h6⟩))))
      · exact yes (by simp [El.segOk, El.flagsB, El.insideB, El.endB, El.alignB, El.knownB, El.endOf, El.segAt, *] <;> omega) (seg_yes0 A m c B b p ty w hB hb hm hin hp hty (.inr (.inr (.inr (.inl ⟨h1, h2, h3, h4, h5, h6⟩)))))
    · rcases h5' with h5 | h5 | h5 | h5
      · exact no (by simp [El.segOk, El.flagsB, El.insideB, El.endB, El.alignB, El.knownB, El.endOf, El.segAt, *] <;> omega) (seg_no0 A m c B b p ty w hB hb hm hin hp hty (.inr (.inr (.inr (.inl ⟨h1, h2, h3, h4, h5, h6⟩)))))
      · exact no (by simp [El.segOk, El.flagsB, El.insideB, El.endB, El.alignB, El.knownB, El.endOf, El.segAt, *] <;> omega) (seg_no0 A m c B b p ty w hB hb hm hin hp hty (.inr (.inr (.inr (.inr (.inr (.inr (.inr (.inl ⟨h1, h2, h3, h4, h5, h6⟩)))))))))
      · exact no (by simp [El.segOk, El.flagsB, El.insideB, El.endB, El.alignB, El.knownB, El.endOf, El.segAt, *] <;> omega) (seg_no0 A m c B b p ty w hB hb hm hin hp hty (.inr (.inr (.inr (.inr (.inr (.inr (.inr (.inr (.inl ⟨h1, h2, h3, h4, h5, h6⟩))))))))))
      · exact no (by simp [El.segOk, El.flagsB, El.insideB, El.endB, El.alignB, El.knownB, El.endOf, El.segAt, *] <;> omega) (seg_no0 A m c B b p ty w hB hb hm hin hp hty (.inr (.inr (.inr (.inr (.inr (.inr (.inr (.inr (.inr (.inl ⟨h1, h2, h3, h4, h5, h6⟩)))))))))))
  · by_cases h6 : Wd.num b (p + 16) 8 + Wd.num b (p + 40) 8 ≤ 140737488355328
    · rcases h5' with h5 | h5 | h5 | h5
      · by_cases h7 : Wd.num b (p + 48) 8 = 4096
        · by_cases h8 : Wd.num b (p + 8) 8 % 4096 = Wd.num b (p + 16) 8 % 4096
          · by_cases h9 : 0 < Wd.num b (p + 40) 8
            · exact yes (by simp [El.segOk, El.flagsB, El.insideB, El.endB, El.alignB, El.knownB, El.endOf, El.segAt, *] <;> omega) (seg_yes0 A m c B b p ty w hB hb hm hin hp hty (.inr (.inr (.inr (.inr (.inl ⟨h1, h2, h3, h4, h5, h6, h7, h8, h9⟩))))))
            · exact no (by simp [El.segOk, El.flagsB, El.insideB, El.endB, El.alignB, El.knownB, El.endOf, El.segAt, *] <;> omega) (seg_no1 A m c B b p ty w hB hb hm hin hp hty (.inl ⟨h1, h2, h3, h4, h5, h6, h7, h8, h9⟩))
          · exact no (by simp [El.segOk, El.flagsB, El.insideB, El.endB, El.alignB, El.knownB, El.endOf, El.segAt, *] <;> omega) (seg_no0 A m c B b p ty w hB hb hm hin hp hty (.inr (.inr (.inr (.inr (.inr (.inr (.inr (.inr (.inr (.inr (.inr (.inr ⟨h1, h2, h3, h4, h5, h6, h7, h8⟩)))))))))))))
        · exact no (by simp [El.segOk, El.flagsB, El.insideB, El.endB, El.alignB, El.knownB, El.endOf, El.segAt, *] <;> omega) (seg_no0 A m c B b p ty w hB hb hm hin hp hty (.inr (.inr (.inr (.inr (.inr (.inr (.inr (.inr (.inr (.inr (.inr (.inl ⟨h1, h2, h3, h4, h5, h6, h7⟩)))))))))))))
      · exact yes (by simp [El.segOk, El.flagsB, El.insideB, El.endB, El.alignB, El.knownB, El.endOf, El.segAt, *] <;> omega) (seg_yes0 A m c B b p ty w hB hb hm hin hp hty (.inr (.inr (.inr (.inr (.inr (.inl ⟨h1, h2, h3, h4, h5, h6⟩)))))))
      · exact yes (by simp [El.segOk, El.flagsB, El.insideB, El.endB, El.alignB, El.knownB, El.endOf, El.segAt, *] <;> omega) (seg_yes0 A m c B b p ty w hB hb hm hin hp hty (.inr (.inr (.inr (.inr (.inr (.inr (.inl ⟨h1, h2, h3, h4, h5, h6⟩))))))))
      · exact yes (by simp [El.segOk, El.flagsB, El.insideB, El.endB, El.alignB, El.knownB, El.endOf, El.segAt, *] <;> omega) (seg_yes0 A m c B b p ty w hB hb hm hin hp hty (.inr (.inr (.inr (.inr (.inr (.inr (.inr (.inl ⟨h1, h2, h3, h4, h5, h6⟩)))))))))
    · rcases h5' with h5 | h5 | h5 | h5
      · exact no (by simp [El.segOk, El.flagsB, El.insideB, El.endB, El.alignB, El.knownB, El.endOf, El.segAt, *] <;> omega) (seg_no0 A m c B b p ty w hB hb hm hin hp hty (.inr (.inr (.inr (.inr (.inr (.inr (.inr (.inr (.inr (.inr (.inl ⟨h1, h2, h3, h4, h5, h6⟩))))))))))))
      · exact no (by simp [El.segOk, El.flagsB, El.insideB, El.endB, El.alignB, El.knownB, El.endOf, El.segAt, *] <;> omega) (seg_no1 A m c B b p ty w hB hb hm hin hp hty (.inr (.inl ⟨h1, h2, h3, h4, h5, h6⟩)))
      · exact no (by simp [El.segOk, El.flagsB, El.insideB, El.endB, El.alignB, El.knownB, El.endOf, El.segAt, *] <;> omega) (seg_no1 A m c B b p ty w hB hb hm hin hp hty (.inr (.inr (.inl ⟨h1, h2, h3, h4, h5, h6⟩))))
      · exact no (by simp [El.segOk, El.flagsB, El.insideB, El.endB, El.alignB, El.knownB, El.endOf, El.segAt, *] <;> omega) (seg_no1 A m c B b p ty w hB hb hm hin hp hty (.inr (.inr (.inr ⟨h1, h2, h3, h4, h5, h6⟩))))
end Go.Proofs.YtnbecdahfgkffaaGreat
namespace Go.Proofs.YtnbecdahfgkffaaGreat
open Go.RowKit
def sgVals (s : El.Sg) : List Value := [.int .u32 s.kind, .int .u8 s.flags, .int .u64 s.off, .int .u64 s.addr, .int .u64 s.fsz, .int .u64 s.msz]
def segCells (l : List El.Sg) : List Value := l.flatMap sgVals
def SgFit (s : El.Sg) : Prop := s.kind < 4294967296 ∧ s.flags < 256 ∧ s.off < 18446744073709551616 ∧ s.addr < 18446744073709551616 ∧ s.fsz < 18446744073709551616 ∧ s.msz < 18446744073709551616
theorem segCells_len (l : List El.Sg) : (segCells l).length = l.length * 6 := by
  induction l with
  | nil => rfl
  | cons s r ih =>
    have : segCells (s :: r) = sgVals s ++ segCells r := rfl
    rw [this, List.length_append, ih, List.length_cons]
    simp [sgVals]
    omega
theorem segCells_at (l : List El.Sg) : ∀ (k : Nat) (s : El.Sg), l[k]? = some s → ∀ j, j < 6 → (segCells l)[k * 6 + j]? = (sgVals s)[j]? := by
  induction l with
  | nil => intro k s h; simp at h
  | cons a r ih =>
    intro k s h j hj
    have e : segCells (a :: r) = sgVals a ++ segCells r := rfl
    have hl : (sgVals a).length = 6 := rfl
    cases k with
    | zero =>
      simp at h
      subst h
      rw [e, List.getElem?_append_left (by omega)]
      congr 1
      omega
    | succ k =>
      simp at h
      rw [e, List.getElem?_append_right (by omega), hl, show (k + 1) * 6 + j - 6 = k * 6 + j from by omega]
      exact ih k s h j hj
theorem seg_at {w : World} {B n : Nat} {A : Option Addr} {l : List El.Sg} (h : Rd w B 6 A n (segCells l)) {k : Nat} {s : El.Sg} (hk : l[k]? = some s) :
    ∃ b off, A = some ⟨b, off, none⟩ ∧ b < B ∧ w.cell? ⟨b, off + k * 6, none⟩ = some (.int .u32 s.kind) ∧ w.cell? ⟨b, off + k * 6 + 1, none⟩ = some (.int .u8 s.flags) ∧ w.cell? ⟨b, off + k * 6 + 2, none⟩ = some (.int .u64 s.off) ∧
      w.cell? ⟨b, off + k * 6 + 3, none⟩ = some (.int .u64 s.addr) ∧ w.cell? ⟨b, off + k * 6 + 4, none⟩ = some (.int .u64 s.fsz) ∧ w.cell? ⟨b, off + k * 6 + 5, none⟩ = some (.int .u64 s.msz) := by
  have hc := segCells_at l k s hk
  obtain ⟨b, off, e, hb, hx⟩ := h.open_ (by
    intro e0
    have := hc 0 (by omega)
    rw [e0] at this
    simp [sgVals] at this)
  have key : ∀ j u, j < 6 → (sgVals s)[j]? = some u → w.cell? ⟨b, off + k * 6 + j, none⟩ = some u := fun j u hj hu => by
    have := hx (k * 6 + j) u ((hc j hj).trans hu)
    rwa [← Nat.add_assoc] at this
  exact ⟨b, off, e, hb, key 0 _ (by omega) rfl, key 1 _ (by omega) rfl, key 2 _ (by omega) rfl, key 3 _ (by omega) rfl, key 4 _ (by omega) rfl, key 5 _ (by omega) rfl⟩
theorem segCells_snoc (o : List El.Sg) (s : El.Sg) : segCells (o ++ [s]) = segCells o ++ [.int .u32 s.kind, .int .u8 s.flags, .int .u64 s.off, .int .u64 s.addr, .int .u64 s.fsz, .int .u64 s.msz] := by simp [segCells, sgVals]
theorem sgVals_one (s : El.Sg) : ∀ u ∈ sgVals s, u.oneCell' = true := by
  intro u hu
  simp [sgVals] at hu
  rcases hu with rfl | rfl | rfl | rfl | rfl | rfl <;> rfl
theorem segTy : SlTy Tryz.prog 42 58 6 40 := slTy_mk (z := .agg #[.int .u32 0, .int .u8 0, .int .u64 0, .int .u64 0, .int .u64 0, .int .u64 0]) Tryz.underlying42 (by kernel_rfl) rfl (by omega) (by omega)
set_option maxHeartbeats 1000000 in
theorem loads_any (A : Option Addr) (n c B : Nat) (l : List El.Sg) (ty en ph : Int) (w : World) (hB : B ≤ w.heap.size) (hl : Rd w B 6 A n (segCells l)) (hn : n ≤ 4294967296) :
    Calls Tryz.prog 17 #[.agg #[.int .u16 ty, .int .u64 en, .int .u64 ph, .slice A n c]] w fun e w' => ∃ A' c', e = .returned (.slice A' (El.loads l).length c') ∧
      w'.ownsRow w.heap.size 58 6 (.slice A' (El.loads l).length c') (El.loads l).length (segCells (El.loads l)) ∧ Below w.heap.size w w' := by
  have hln : l.length = n := by have := hl.1; rw [segCells_len] at this; omega
  have Hl := hide hl
  have Hln := hide hln
  clear hl hln
  go_enter Tryz.func17, Tryz.ntmps17
  go_wp2
  go_loopw [2, 8] (fun out i wr => ∃ (k : Nat) (A' : Option Addr) (c' : Nat) (o : List El.Sg), k ≤ n ∧ i = .int .i64 k ∧ out = .slice A' o.length c' ∧ o = El.loads (l.take k) ∧ o.length ≤ k ∧
    wr.ownsRow w.heap.size 58 6 (.slice A' o.length c') o.length (segCells o) ∧ Below w.heap.size w wr) (fun _ i _ => n - (intOf i).toNat)
  case atStart => exact ⟨0, none, 0, [], Nat.zero_le _, rfl, rfl, rfl, Nat.le_refl _, World.ownsRow_nil _ _ _ _, (Below.refl _ _).alloc (Nat.le_refl _) _⟩
  case round =>
    obtain ⟨k, A', c', o, hk, rfl, rfl, ho, hok, hown, hb⟩ := hrel
    have Ho := hide ho
    have hsz := hb.size
    clear ho
    by_cases hlt : k < n
    · obtain ⟨s, hs⟩ : ∃ s, l[k]? = some s := ⟨_, List.getElem?_eq_getElem (by rw [unhide Hln]; exact hlt)⟩
      obtain ⟨b1, o1, rfl, hbb, c0, c1, c2, c3, c4, c5⟩ := seg_at ((unhide Hl).below (hb.mono hB)) hs
      by_cases hc : s.kind = 1
      · have hbq : (((s.kind : Nat) : Int) == 1) = true := by rw [hc]; rfl
        have ho2 : o ++ [s] = El.loads (l.take (k + 1)) := by
          rw [List.take_add_one, hs, unhide Ho]
          simp [El.loads, El.isLoad, hc]
        have Ho2 := hide ho2
        clear ho2 hs hc
        go_wp2_with (at_builtin; refine wpList_app1g segTy rfl _ _ rfl w.heap.size (.slice A' o.length c') o.length (segCells o) rfl (hown.alloc _) #[.int .u32 s.kind, .int .u8 s.flags, .int .u64 s.off, .int .u64 s.addr, .int .u64 s.fsz, .int .u64 s.msz] _ rfl (by simp) rfl (sgVals_one s) (by omega) (by simp; omega) ?_; intro A2 c2 w1 hown' hgrow hat; have hb1 := hide ((hb.alloc hsz _).grown hgrow (by simp; omega) (fun k hk => (hown.lt k hk).1)); have Hown' := hide hown'; clear hgrow hat hown')
        go_roundw
        case rel =>
          refine ⟨k + 1, A2, c2, o ++ [s], by omega, by go_num, by simp, unhide Ho2, by simp; omega, ?_, unhide hb1⟩
          rw [segCells_snoc]
          simpa using unhide Hown'
        case measure => simp [intOf]; omega
      · have hbq : (((s.kind : Nat) : Int) == 1) = false := by simp; omega
        have ho2 : o = El.loads (l.take (k + 1)) := by
          rw [List.take_add_one, hs, unhide Ho]
          simp [El.loads, El.isLoad, hc]
        have Ho2 := hide ho2
        clear ho2 hs hc
        go_wp2
        go_roundw
        case rel => exact ⟨k + 1, A', c', o, by omega, by go_num, rfl, unhide Ho2, by omega, hown.alloc _, hb.alloc hsz _⟩
        case measure => simp [intOf]; omega
    · have ho2 : o = El.loads l := by
        have := unhide Ho
        rwa [List.take_of_length_le (by have := unhide Hln; omega)] at this
      have Ho2 := hide ho2
      clear ho2
      go_wp2
      go_ret
      rw [← unhide Ho2]
      exact ⟨A', c', rfl, hown, hb⟩
end Go.Proofs.YtnbecdahfgkffaaGreat
namespace Go.Proofs.YtnbecdahfgkffaaGreat
open Go.RowKit
structure MapG (w : World) (g : Nat) (d : TypeDesc) (m : List (Value × Value)) : Prop where
  there : ∃ es clk, w.heap[g]? = some (.map es clk) ∧ es.toList.map (fun e => (e.key, e.val)) = m
  keys : ∀ p ∈ m, Go.MapKept.IsKey d p.1
  once : m.Pairwise (fun p q => p.1 ≠ q.1)
section
variable {P : Program} {t kt e : TypeId} {d : TypeDesc} {w : World} {g : Nat} {m : List (Value × Value)} {x v : Value}
theorem MapG.nil (w : World) (d : TypeDesc) : MapG (w.alloc (.map #[] 0)) w.heap.size d [] := ⟨⟨#[], 0, heap_alloc_new _ _, rfl⟩, by simp, by simp⟩
theorem MapG.keep {w' : World} (h : MapG w g d m) (hk : w'.heap[g]? = w.heap[g]?) : MapG w' g d m := by
  obtain ⟨⟨es, clk, hg, hm⟩, hks, hone⟩ := h
  exact ⟨⟨es, clk, hk.trans hg, hm⟩, hks, hone⟩
theorem MapG.lt (h : MapG w g d m) : g < w.heap.size := by
  obtain ⟨⟨es, clk, hg, hm⟩, hks, hone⟩ := h
  exact (Array.getElem?_eq_some_iff.1 hg).1
theorem MapG.below {w' : World} {B : Nat} (h : MapG w g d m) (hb : Below B w w') (hg : g < B) : MapG w' g d m := h.keep (hb.block g hg)
theorem MapG.belowSz {w' : World} (h : MapG w g d m) (hb : Below w.heap.size w w') : MapG w' g d m := h.below hb h.lt
end
end Go.Proofs.YtnbecdahfgkffaaGreat
namespace Go.Proofs.YtnbecdahfgkffaaGreat
open Go.RowKit
structure MapB (w : World) (g : Nat) (d : TypeDesc) (m : List (Value × Value)) : Prop where
  there : ∃ es clk, w.heap[g]? = some (.map es clk) ∧ es.toList.map (fun e => (e.key, e.val)) = m ∧ (∀ x ∈ es.toList, x.born < clk) ∧ (es.toList.map (·.born)).Nodup
  keys : ∀ p ∈ m, Go.MapKept.IsKey d p.1
  once : m.Pairwise (fun p q => p.1 ≠ q.1)
section
variable {P : Program} {t kt e : TypeId} {d : TypeDesc} {w : World} {g : Nat} {m : List (Value × Value)} {x v : Value}
theorem MapB.toG (h : MapB w g d m) : MapG w g d m := by
  obtain ⟨⟨es, clk, h1, h2, _⟩, h3, h4⟩ := h
  exact ⟨⟨es, clk, h1, h2⟩, h3, h4⟩
theorem MapB.nil (w : World) (d : TypeDesc) : MapB (w.alloc (.map #[] 0)) w.heap.size d [] := ⟨⟨#[], 0, heap_alloc_new _ _, rfl, by simp, by simp⟩, by simp, by simp⟩
theorem MapB.keep {w' : World} (h : MapB w g d m) (hk : w'.heap[g]? = w.heap[g]?) : MapB w' g d m := by
  obtain ⟨⟨es, clk, h1, r⟩, h3, h4⟩ := h
  exact ⟨⟨es, clk, hk.trans h1, r⟩, h3, h4⟩
theorem MapB.lt (h : MapB w g d m) : g < w.heap.size := h.toG.lt
theorem MapB.below {w' : World} {B : Nat} (h : MapB w g d m) (hb : Below B w w') (hg : g < B) : MapB w' g d m := h.keep (hb.block g hg)
theorem MapB.belowSz {w' : World} (h : MapB w g d m) (hb : Below w.heap.size w w') : MapB w' g d m := h.below hb h.lt
end
end Go.Proofs.YtnbecdahfgkffaaGreat
namespace Go.Proofs.YtnbecdahfgkffaaGreat
end Go.Proofs.YtnbecdahfgkffaaGreat
namespace Go.Proofs.YtnbecdahfgkffaaGreat
open Go.RowKit
structure Ds where
  Ab : Option Addr
  m : Nat
  cb : Nat
  b : List UInt8
  ty : Int
  en : Int
  ph : Int
  As : Option Addr
  n : Nat
  c : Nat
  segs : List El.Sg
  Al : Option Addr
  k : Nat
  cl : Nat
  L : List (Nat × Nat)
  gm : Nat
def entC (l : List (Nat × Nat)) : List Value := l.flatMap fun e => [.int .u64 (e.1 : Nat), .int .u64 (e.2 : Nat)]
def Dy.tagsV (l : List (Nat × Nat)) : List (Value × Value) := (l.filter fun e => Dy.once e.1).map fun e => (.int .u64 (e.1 : Nat), .int .u64 (e.2 : Nat))
structure DsM (w : World) (B g : Nat) (d : Ds) (T : List (Nat × Nat)) : Prop where
  hB : B ≤ g
  blk : Blk w g 178 [.slice d.Ab d.m d.cb, .int .u16 d.ty, .int .u64 d.en, .int .u64 d.ph, .slice d.As d.n d.c, .slice d.Al d.k d.cl, .map (some d.gm)]
  b : Rd w B 1 d.Ab d.m (bys d.b)
  segs : Rd w B 6 d.As d.n (segCells d.segs)
  list : w.ownsRow B 182 2 (.slice d.Al d.k d.cl) d.k (entC d.L)
  tags : MapB w d.gm (.int .u64) (Dy.tagsV T)
  tagsB : B ≤ d.gm
section
variable {w w' : World} {B g : Nat} {d : Ds} {T : List (Nat × Nat)}
theorem DsM.belowSz (h : DsM w B g d T) (hb : Below w.heap.size w w') : DsM w' B g d T :=
  ⟨h.hB, h.blk.belowSz hb, h.b.below (hb.mono (Nat.le_trans h.hB (Nat.le_of_lt h.blk.lt))), h.segs.below (hb.mono (Nat.le_trans h.hB (Nat.le_of_lt h.blk.lt))), own_below h.list hb, h.tags.belowSz hb, h.tagsB⟩
theorem DsM.sz (h : DsM w B g d T) : B ≤ w.heap.size := Nat.le_trans h.hB (Nat.le_of_lt h.blk.lt)
theorem DsM.drewN (h : DsM w B g d T) (j : Nat) : DsM (w.drewN j) B g d T := h.belowSz (below_drewN' (Below.refl _ _) j)
theorem DsM.cells (h : DsM w B g d T) : w.cell? ⟨g, 0, none⟩ = some (.slice d.Ab d.m d.cb) ∧ w.cell? ⟨g, 1, none⟩ = some (.int .u16 d.ty) ∧ w.cell? ⟨g, 2, none⟩ = some (.int .u64 d.en) ∧ w.cell? ⟨g, 3, none⟩ = some (.int .u64 d.ph) ∧ w.cell? ⟨g, 4, none⟩ = some (.slice d.As d.n d.c) ∧ w.cell? ⟨g, 5, none⟩ = some (.slice d.Al d.k d.cl) ∧ w.cell? ⟨g, 6, none⟩ = some (.map (some d.gm)) :=
  ⟨h.blk.cell rfl, h.blk.cell rfl, h.blk.cell rfl, h.blk.cell rfl, h.blk.cell rfl, h.blk.cell rfl, h.blk.cell rfl⟩
end
namespace Dy
end Dy
end Go.Proofs.YtnbecdahfgkffaaGreat
namespace Go.Proofs.YtnbecdahfgkffaaGreat
open Go.RowKit
namespace Dy
end Dy
end Go.Proofs.YtnbecdahfgkffaaGreat
namespace Go.Proofs.YtnbecdahfgkffaaGreat.Dy
def mustV (t : Nat) : Int := if t = 2 then 23 else if t = 4 then 6 else if t = 5 then 10 else if t = 6 then 4 else if t = 7 then 8 else if t = 8 then 7 else if t = 9 then -24 else if t = 10 then 5 else if t = 11 then -24 else if t = 20 then -7 else if t = 23 then 2 else 0
def okE (T : List (Nat × Nat)) (e : Nat × Nat) : Bool := !once e.1 || ((val T e.1).isNone && (decide (0 ≤ mustV e.1) || decide ((e.2 : Int) = -mustV e.1)))
end Go.Proofs.YtnbecdahfgkffaaGreat.Dy
namespace Go.Proofs.YtnbecdahfgkffaaGreat
open Go.RowKit
def Dy.kn (t : Nat) (v : Int) : Value × Value := (.int .u64 (t : Nat), .int .i64 v)
def Dy.knownV : List (Value × Value) := [Dy.kn 1 0, Dy.kn 2 23, Dy.kn 4 6, Dy.kn 5 10, Dy.kn 6 4, Dy.kn 7 8, Dy.kn 8 7, Dy.kn 9 (-24), Dy.kn 10 5, Dy.kn 11 (-24), Dy.kn 14 0, Dy.kn 15 0, Dy.kn 20 (-7), Dy.kn 23 2, Dy.kn 29 0]
theorem zero_int (w : World) : (zeroValue 3).run Tryz.prog w = .ok (.int .i64 0) w := by kernel_rfl
end Go.Proofs.YtnbecdahfgkffaaGreat
namespace Go.Proofs.YtnbecdahfgkffaaGreat
open Go.RowKit
section
variable {P : Program} {ops : Array Oper} {W : World} {o : Oper} {a : Act}
variable {S : World → Prop}
end
theorem takeD {P : Program} {md : Region.Mode} {ops : Array Oper} {Q : Exit → Act → World → Prop} {S : World → Prop} {i : Nat} {oi : Oper} {v : Value} {d : Option Tmp} {fuel : Nat} {listed : Array Bool} {a : Act} {w : World} (hi : ops[i]? = some oi) (hd : oi.dst = d)
    (hs : Region.noSelect ops = true) (hf : Region.free md ops listed i = true) (hr : (Region.ready md ops listed).contains i = true)
    (hQ : ∀ c a w, Q (.panic c) (a.put d v) w → Q (.panic c) a w) (hy : YieldsIf P ops S oi v a) (hS : S w)
    (h : wpAnyH P md ops Q S fuel (listed.setIfInBounds i true) (a.put d v) w) : wpAnyH P md ops Q S (fuel + 1) listed a w := by
  subst hd
  exact wpAnyH_take hi hs hf hr hQ hy hS h
section
variable {ops : Array Oper} {W : World} {o : Oper} {a : Act} {S : World → Prop}
end
end Go.Proofs.YtnbecdahfgkffaaGreat
namespace Go.Proofs.YtnbecdahfgkffaaGreat
open Go.RowKit
namespace Dy
end Dy
section
variable {w w' : World} {B g : Nat} {d : Ds} {T T' : List (Nat × Nat)}
theorem DsM.put (h : DsM w B g d T) (hg : w.grownBy w' (some d.gm)) (hm : MapB w' d.gm (.int .u64) (Dy.tagsV T')) : DsM w' B g d T' := by
  obtain ⟨⟨es, clk, hmap, _⟩, _, _⟩ := h.tags
  have hne : ∀ k cs t fz, w.heap[k]? = some (.cells cs t fz) → k ≠ d.gm := by
    intro k cs t fz hk e
    rw [e, hmap] at hk
    cases hk
  refine ⟨h.hB, (hg.block g h.blk.lt (fun e => hne g _ _ _ h.blk (Option.some.inj e))).trans h.blk, h.b.keep ?_, h.segs.keep ?_, ?_, hm, h.tagsB⟩
  · intro p hp
    have := h.tagsB
    exact World.cell?_of_block (hg.block p.block (Nat.lt_of_lt_of_le hp h.sz) (fun e => by injection e with e; omega))
  · intro p hp
    have := h.tagsB
    exact World.cell?_of_block (hg.block p.block (Nat.lt_of_lt_of_le hp h.sz) (fun e => by injection e with e; omega))
  · refine ⟨h.list.1, h.list.2.imp id ?_⟩
    rintro ⟨q, cap, cur, e1, e2, e3, r⟩
    exact ⟨q, cap, cur, e1, e2, (hg.block q (Array.getElem?_eq_some_iff.1 e3).1 (fun e => hne q _ _ _ e3 (Option.some.inj e))).trans e3, r⟩
theorem DsM.same (h : DsM w B g d T) (ht : Dy.tagsV T' = Dy.tagsV T) : DsM w B g d T' := ⟨h.hB, h.blk, h.b, h.segs, h.list, by rw [ht]; exact h.tags, h.tagsB⟩
end
end Go.Proofs.YtnbecdahfgkffaaGreat
namespace Go.Proofs.YtnbecdahfgkffaaGreat
open Go.RowKit
theorem entC_len (l : List (Nat × Nat)) : (entC l).length = l.length * 2 := by
  induction l with
  | nil => rfl
  | cons a r ih =>
    unfold entC at ih ⊢
    rw [List.flatMap_cons, List.length_append, ih]
    simp
    omega
theorem tagsV_snoc (T : List (Nat × Nat)) (e : Nat × Nat) : Dy.tagsV (T ++ [e]) = Dy.tagsV T ++ if Dy.once e.1 = true then [(.int .u64 (e.1 : Nat), .int .u64 (e.2 : Nat))] else [] := by
  unfold Dy.tagsV
  rw [List.filter_append, List.map_append]
  congr 1
  by_cases h : Dy.once e.1 = true <;> simp [h]
theorem tagsV_take {L : List (Nat × Nat)} {k : Nat} {e : Nat × Nat} (he : L[k]? = some e) : Dy.tagsV (L.take (k + 1)) = Dy.tagsV (L.take k) ++ if Dy.once e.1 = true then [(.int .u64 (e.1 : Nat), .int .u64 (e.2 : Nat))] else [] := by
  rw [List.take_add_one, he]
  exact tagsV_snoc _ _
theorem DsM.len {w : World} {B g : Nat} {d : Ds} {T : List (Nat × Nat)} (h : DsM w B g d T) : d.k = d.L.length := by
  have := h.list.1
  rw [entC_len] at this
  omega
structure ChkR (w wr : World) (B g gkn : Nat) (d : Ds) (j : Nat) : Prop where
  ok : ∀ i e, i < j → d.L[i]? = some e → Dy.okE (d.L.take i) e = true
  ds : DsM wr B g d (d.L.take j)
  kn : MapB wr gkn (.int .u64) Dy.knownV
  b : Below B w wr
section
variable {w wr w2 : World} {B g gkn : Nat} {d : Ds} {j : Nat} {e : Nat × Nat}
theorem ChkR.keep (h : ChkR w wr B g gkn d j) (hb : Below wr.heap.size wr w2) : ChkR w w2 B g gkn d j :=
  ⟨h.ok, h.ds.belowSz hb, h.kn.belowSz hb, h.b.trans (hb.mono h.ds.sz)⟩
theorem ChkR.next (h : ChkR w wr B g gkn d j) (he : d.L[j]? = some e) (ho : Dy.once e.1 = false) : ChkR w wr B g gkn d (j + 1) := by
  refine ⟨?_, h.ds.same ?_, h.kn, h.b⟩
  · intro i x hi hx
    by_cases hij : i < j
    · exact h.ok i x hij hx
    · obtain rfl : i = j := by omega
      rw [he] at hx
      cases hx
      unfold Dy.okE
      rw [ho]
      rfl
  · rw [tagsV_take he, ho]
    simp
theorem ChkR.put (h : ChkR w wr B g gkn d j) (hgk : d.gm < gkn) (he : d.L[j]? = some e) (hok : Dy.okE (d.L.take j) e = true) (ho : Dy.once e.1 = true) (hm : MapB w2 d.gm (.int .u64) (Dy.tagsV (d.L.take j) ++ [(.int .u64 (e.1 : Nat), .int .u64 (e.2 : Nat))])) (hg : wr.grownBy w2 (some d.gm)) : ChkR w w2 B g gkn d (j + 1) := by
  refine ⟨?_, h.ds.put hg ?_, h.kn.keep (hg.block _ h.kn.lt (fun e => by have := Option.some.inj e; omega)), h.b.trans ((Below.refl B wr).grown hg h.ds.sz (fun k hk => by have := Option.some.inj hk; have := h.ds.tagsB; omega))⟩
  · intro i x hi hx
    by_cases hij : i < j
    · exact h.ok i x hij hx
    · obtain rfl : i = j := by omega
      rw [he] at hx
      cases hx
      exact hok
  · rw [tagsV_take he, if_pos ho]
    exact hm
end
end Go.Proofs.YtnbecdahfgkffaaGreat
namespace Go.Proofs.YtnbecdahfgkffaaGreat
open Go.RowKit
end Go.Proofs.YtnbecdahfgkffaaGreat
namespace Go.Proofs.YtnbecdahfgkffaaGreat
open Go.RowKit
def symV (x : Dy.Sym) : List Value := [.string x.name, .int .u64 (x.value : Nat), .int .u64 (x.size : Nat), .int .u8 (x.bind : Nat), .bool x.isdef]
def symC (l : List Dy.Sym) : List Value := l.flatMap symV
theorem syTy : SlTy Tryz.prog 26 48 5 40 := slTy_mk (z := .agg #[.string ⟨#[]⟩, .int .u64 0, .int .u64 0, .int .u8 0, .bool false]) Tryz.underlying26 (by kernel_rfl) rfl (by omega) (by omega)
theorem reTy : SlTy Tryz.prog 27 141 4 32 := slTy_mk (z := .agg #[.int .u64 0, .int .u32 0, .int .i64 0, .int .i64 0]) Tryz.underlying27 (by kernel_rfl) rfl (by omega) (by omega)
end Go.Proofs.YtnbecdahfgkffaaGreat
namespace Go.Proofs.YtnbecdahfgkffaaGreat
open Go.RowKit
theorem toList_empty {s : ByteArray} (h : s.size = 0) : s.toList.isEmpty = true := by rw [isEmpty_toList, decide_eq_true_eq]; exact h
theorem toList_some {s : ByteArray} (h : s.size ≠ 0) : s.toList.isEmpty = false := by rw [isEmpty_toList, decide_eq_false_iff_not]; exact h
theorem FiE.more {t : TypeId} {g o base n1 c1 n2 c2 : Nat} {l : List Value} {A A1 A2 : Option Addr} {w w1 w2 w3 : World} {xs1 xs2 : List UInt8} (h : FiE t g o l base A w w1 A1 n1 c1 xs1) (hb : Below w1.heap.size w1 w2) (k : Grew w2 w3 base (.slice A1 n1 c1) (.slice A2 n2 c2) n2 xs2) :
    Blk w3 g t (l.set o (.slice A1 n1 c1)) ∧ FiE t g o l base A w (w3.setCell ⟨g, o, none⟩ (.slice A2 n2 c2)) A2 n2 c2 xs2 := by
  obtain ⟨h1, h2⟩ := (h.m.below hb).app k
  exact ⟨h1, h.trans (FiE.after hb h2)⟩
theorem FiE.rdK {t : TypeId} {g o base n' c' B m size : Nat} {l : List Value} {A A' A2 : Option Addr} {w w' : World} {xs' : List UInt8} {ys : List Value} (h : FiE t g o l base A w w' A' n' c' xs') (r : Rd w B size A2 m ys) (hB : B ≤ w.heap.size) (h1 : bk A2 ≠ some g) (h2 : ∀ k, bk A2 = some k → bk A ≠ some k) : Rd w' B size A2 m ys := by
  refine ⟨r.1, r.2.imp id ?_⟩
  rintro ⟨b, off, rfl, hb, hc⟩
  refine ⟨b, off, rfl, hb, fun j u hu => (cell_blk (h.block b (by omega) (fun e => h1 (by rw [← e]; rfl)) (h2 b rfl)) (off + j)).trans (hc j u hu)⟩
theorem litA (w : World) : Rd (w.alloc (.cells #[.int .u8 0] 5)) (w.heap.size + 1) 1 (some ⟨w.heap.size, 0, none⟩) 1 (bys [0]) := Rd.row (w := w) rfl
theorem litS (w : World) (p : Addr) (u : Value) : Rd ((w.setCell p u).alloc (.cells #[.int .u8 0] 5)) (w.heap.size + 1) 1 (some ⟨w.heap.size, 0, none⟩) 1 (bys [0]) := by
  have h := litA (w.setCell p u)
  rw [show (w.setCell p u).heap.size = w.heap.size by simp] at h
  exact h
set_option maxRecDepth 100000 in
set_option maxHeartbeats 4000000 in
theorem rtput_any (t : TypeId) (g o : Nat) (l : List Value) (base : Nat) (A : Option Addr) (n c : Nat) (xs : List UInt8) (s : ByteArray) (w : World) (h : FiM w t g o l base A n c xs) (hbase : base ≤ w.heap.size) (hn : n ≤ 35184372088832) (hs : s.size ≤ 4294967296) :
    Calls Tryz.prog 85 #[.pointer (some ⟨g, o, none⟩), .string s] w fun e w' => ∃ A' n' c', e = .returned (.int .u64 (Mk.place xs s : Nat)) ∧ FiE t g o l base A w w' A' n' c' (Mk.put xs s) := by
  have hlen := h.len
  by_cases h0 : s.size = 0
  · have hq := toList_empty h0
    have hE := FiE.refl h
    have e1 : Mk.place xs s = 0 := by unfold Mk.place; rw [if_pos h0]
    have e2 : Mk.put xs s = xs := by unfold Mk.put; rw [if_pos h0]
    rw [e1, e2]
    have HE := hide hE
    clear hE e1 e2 h hlen h0
    go_enter Tryz.func85, Tryz.ntmps85
    go_wp2_with fail
    go_ret
    exact ⟨A, n, c, rfl, unhide HE⟩
  have hq := toList_some h0
  have e1 : Mk.place xs s = n := by unfold Mk.place; rw [if_neg h0, hlen]
  have e2 : Mk.put xs s = xs ++ s.data.toList ++ [0] := by unfold Mk.put; rw [if_neg h0]
  rw [e1, e2]
  have y0 := h.cell
  have H := hide h
  clear e1 e2 h hlen h0
  go_enter Tryz.func85, Tryz.ntmps85
  go_wp2_with (first
    | (at_builtin; refine wpList_appS rfl _ _ rfl base (.slice A n c) n xs rfl (unhide H).row s rfl (by omega) (by omega) ?_; intro A1 c1 w1 hG; obtain ⟨hb1, hE1⟩ := (unhide H).app hG; have z0 := hb1.cell (unhide H).at_; have z1 := hb1.free o; have y1 := hE1.m.cell; have HE1 := hide hE1; clear hG hb1 hE1 y0)
    | (at_builtin; refine wpList_app byteTy rfl _ _ rfl base (.slice A1 (n + s.size) c1) (n + s.size) _ rfl ((unhide HE1).m.row.alloc (.cells #[.int .u8 0] 5)) (w1.heap.size + 1) (some ⟨w1.heap.size, 0, none⟩) 1 1 (bys [0]) rfl (litS _ _ _) (bys_one _) (by omega) (by have := (unhide HE1).size; simp at this ⊢; omega) ?_; intro A2 c2 w2 ho2 hg2 ha2; obtain ⟨hb2, hE2⟩ := (unhide HE1).more ((Below.refl _ _).alloc (Nat.le_refl _) (.cells #[.int .u8 0] 5)) (show Grew _ w2 base _ _ (n + s.size + 1) (xs ++ s.data.toList ++ [0]) from ⟨by rw [bys_app]; exact ho2, hg2, ha2⟩); have z2 := hb2.cell (unhide HE1).m.at_; have z3 := hb2.free o; have HE2 := hide hE2; clear ho2 hg2 ha2 hb2 hE2 z0 z1 y1))
  go_ret
  exact ⟨A2, n + s.size + 1, c2, rfl, unhide HE2⟩
set_option maxRecDepth 100000 in
set_option maxHeartbeats 4000000 in
theorem rpair_any (A : Option Addr) (n c base : Nat) (xs : List UInt8) (a v : Nat) (w : World) (h : w.ownsRow base 5 1 (.slice A n c) n (bys xs)) (hbase : base ≤ w.heap.size) (hn : n ≤ 35184372088832) (ha : a < 18446744073709551616) (hv : v < 18446744073709551616) :
    Calls Tryz.prog 84 #[.slice A n c, .int .u64 a, .int .u64 v] w fun e w' => ∃ A' c', e = .returned (.slice A' (n + 16) c') ∧ Grew w w' base (.slice A n c) (.slice A' (n + 16) c') (n + 16) (xs ++ Mk.pairB (a, v)) := by
  have K1 := hide (rbytes14_any a 8 w ha (.inr (.inr (.inr rfl))))
  have H := hide h
  clear h
  go_enter Tryz.func84, Tryz.ntmps84
  go_wp2_with fail
  refine (unhide K1).mono ?_
  rintro e w1 ⟨A1, c1, rfl, ho1, hb1⟩
  have hs1 := hb1.size
  have Ho1 := hide ho1
  have Hb1 := hide hb1
  have Hr1 := hide (own_below (unhide H) hb1)
  clear ho1 hb1 K1
  go_wp2_with (at_builtin; refine wpList_app byteTy rfl _ _ rfl base (.slice A n c) n _ rfl (unhide Hr1) w1.heap.size A1 8 c1 (bys (Cl.lb a 8)) rfl (Rd.of_own (unhide Ho1)) (bys_one _) (by omega) (by omega) ?_; intro A2 c2 w2 ho2 hg2 hat2; have HG2 := hide (Grew.after (unhide Hb1) (show Grew w1 w2 base (.slice A n c) (.slice A2 (n + 8) c2) (n + 8) (xs ++ Cl.lb a 8) from ⟨by rw [bys_app]; exact ho2, hg2, hat2⟩)); clear ho2 hg2 hat2)
  refine (rbytes14_any v 8 w2 hv (.inr (.inr (.inr rfl)))).mono ?_
  rintro e w3 ⟨A3, c3, rfl, ho3, hb3⟩
  have hs2 := (unhide HG2).kept.size
  have hs3 := hb3.size
  have Ho3 := hide ho3
  have Hb3 := hide hb3
  have Hr3 := hide (own_below (unhide HG2).own hb3)
  clear ho3 hb3
  go_wp2_with (at_builtin; refine wpList_app byteTy rfl _ _ rfl base (.slice A2 (n + 8) c2) (n + 8) _ rfl (unhide Hr3) w3.heap.size A3 8 c3 (bys (Cl.lb v 8)) rfl (Rd.of_own (unhide Ho3)) (bys_one _) (by omega) (by omega) ?_; intro A4 c4 w4 ho4 hg4 hat4; have HG4 := hide ((unhide HG2).trans (Grew.after (unhide Hb3) (show Grew w3 w4 base (.slice A2 (n + 8) c2) (.slice A4 (n + 8 + 8) c4) (n + 8 + 8) (xs ++ Cl.lb a 8 ++ Cl.lb v 8) from ⟨by rw [bys_app]; exact ho4, hg4, hat4⟩))); clear ho4 hg4 hat4)
  go_ret
  have h := unhide HG4
  rw [List.append_assoc] at h
  exact ⟨A4, c4, rfl, h⟩
theorem modT (a n : Nat) : (a : Int).tmod (n : Int) = ((a % n : Nat) : Int) := by rw [Int.tmod_eq_emod_of_nonneg (by omega)]; omega
theorem modT8 (a r : Nat) (h : a % 8 = r) : (a : Int).tmod 8 = (r : Int) := by rw [Int.tmod_eq_emod_of_nonneg (by omega)]; omega
theorem gap_next {m n k : Nat} (hm : 0 < m) (h : k < Mk.gap m n) : (n + k) % m ≠ 0 := by
  unfold Mk.gap at h
  intro e
  have h1 : n % m < m := Nat.mod_lt _ hm
  by_cases h0 : n % m = 0
  · rw [h0, Nat.sub_zero, Nat.mod_self] at h; omega
  · rw [Nat.mod_eq_of_lt (by omega)] at h
    have h2 : n + k = m * (n / m) + (n % m + k) := by have := Nat.div_add_mod n m; omega
    rw [h2, Nat.mul_add_mod, Nat.mod_eq_of_lt (by omega)] at e
    omega
theorem gap_end {m n : Nat} (hm : 0 < m) : (n + Mk.gap m n) % m = 0 := by
  unfold Mk.gap
  have h1 : n % m < m := Nat.mod_lt _ hm
  by_cases h0 : n % m = 0
  · rw [h0, Nat.sub_zero, Nat.mod_self, Nat.add_zero]; exact h0
  · rw [Nat.mod_eq_of_lt (by omega : m - n % m < m)]
    have h2 : n + (m - n % m) = m * (n / m) + m := by have := Nat.div_add_mod n m; omega
    rw [h2, Nat.mul_add_mod, Nat.mod_self]
theorem gap_lt {m n : Nat} (hm : 0 < m) : Mk.gap m n < m := Nat.mod_lt _ hm
theorem zs_snoc (k : Nat) : Mk.zs k ++ [0] = Mk.zs (k + 1) := by unfold Mk.zs; rw [List.replicate_succ']
theorem zs_len (k : Nat) : (Mk.zs k).length = k := by simp [Mk.zs]
set_option maxRecDepth 100000 in
set_option maxHeartbeats 4000000 in
theorem rfput_any (t : TypeId) (g : Nat) (l : List Value) (base b0 : Nat) (A : Option Addr) (n c : Nat) (xs : List UInt8) (Ab : Option Addr) (m cb : Nat) (b : List UInt8) (w : World) (h : FiM w t g 0 l base A n c xs) (hb0 : l[1]? = some (.int .u64 (b0 : Nat))) (hbase : base ≤ w.heap.size) (hn : n ≤ 4294967296) (hm : m ≤ 4294967296) (hbs : b0 ≤ 4294967296)
    (hr : Rd w w.heap.size 1 Ab m (bys b)) (hbg : bk Ab ≠ some g) (hbA : ∀ k, bk Ab = some k → bk A ≠ some k) :
    Calls Tryz.prog 35 #[.pointer (some ⟨g, 0, none⟩), .slice Ab m cb] w fun e w' => ∃ A' n' c', e = .returned (.int .u64 (b0 + (Mk.pad 8 xs).length : Nat)) ∧ FiE t g 0 l base A w w' A' n' c' (Mk.pad 8 xs ++ b) := by
  have hlen := h.len
  have hpl : (Mk.pad 8 xs).length = n + Mk.gap 8 n := by unfold Mk.pad; rw [List.length_append, zs_len, hlen]
  rw [hpl]
  have hpe : Mk.pad 8 xs = xs ++ Mk.zs (Mk.gap 8 n) := by unfold Mk.pad; rw [hlen]
  rw [hpe]
  have hgl : Mk.gap 8 n < 8 := gap_lt (by omega)
  have hgn : ∀ k, k < Mk.gap 8 n → (n + k) % 8 ≠ 0 := fun k hk => gap_next (by omega) hk
  have hge : (n + Mk.gap 8 n) % 8 = 0 := gap_end (by omega)
  generalize Mk.gap 8 n = G at *
  have H := hide h
  have Hgn := hide hgn
  have Hge := hide hge
  have Hr := hide hr
  have Hbg := hide hbg
  have HbA := hide hbA
  have Hb0 := hide hb0
  clear h hgn hge hr hbg hbA hb0 hpl hpe hlen
  go_enter Tryz.func35, Tryz.ntmps35
  go_wp2_with fail
  go_loopg [] G (fun gk wr => ∃ (k : Nat) (A1 : Option Addr) (c1 : Nat), gk = G - k ∧ k ≤ G ∧ FiE t g 0 l base A w wr A1 (n + k) c1 (xs ++ Mk.zs k))
  case atStart => exact ⟨0, A, c, by omega, by omega, by simpa [Mk.zs] using FiE.refl (unhide H)⟩
  case round =>
  obtain ⟨k, A1, c1, hgk, hk, hE⟩ := hrel
  have Hgk := hide hgk
  have y0 := hE.m.cell
  have hsz := hE.size
  have y1 := hE.m.blk.cell (i := 1) (by rw [List.getElem?_set_ne (by omega)]; exact unhide Hb0)
  have HE := hide hE
  clear hgk hE
  rcases Nat.lt_or_ge k G with hlt | hge
  · obtain ⟨r, hr⟩ : ∃ r, (n + k) % 8 = r := ⟨_, rfl⟩
    have hr0 : ((r : Int) != 0) = true := by
      have := (unhide Hgn) k hlt
      rw [bne_iff_ne]
      omega
    have hrm := modT8 _ _ hr
    obtain ⟨v, hv⟩ : ∃ v, n + k = v := ⟨_, rfl⟩
    rw [hv] at y0 hrm
    have hE := unhide HE
    rw [hv] at hE
    have HE2 := hide hE
    have Hv := hide hv
    have hv2 : v ≤ 4294967304 := by omega
    clear HE hE hr hv y1
    go_wp2_with (at_builtin; refine wpList_app byteTy rfl _ _ rfl base (.slice A1 v c1) v _ rfl ((unhide HE2).m.row.alloc (.cells #[.int .u8 0] 5)) (wr.heap.size + 1) (some ⟨wr.heap.size, 0, none⟩) 1 1 (bys [0]) rfl (litA _) (bys_one _) (by omega) (by simp; omega) ?_; intro A2 c2 w2 ho2 hg2 ha2; obtain ⟨hb2, hE2⟩ := (unhide HE2).more ((Below.refl _ _).alloc (Nat.le_refl _) (.cells #[.int .u8 0] 5)) (show Grew _ w2 base _ _ (v + 1) (xs ++ Mk.zs k ++ [0]) from ⟨by rw [bys_app]; exact ho2, hg2, ha2⟩); have z2 := hb2.cell (unhide HE2).m.at_; have z3 := hb2.free 0; have HE3 := hide hE2; clear ho2 hg2 ha2 hb2 hE2 y0)
    have h3 := unhide HE3
    rw [List.append_assoc, zs_snoc] at h3
    have HE4 := hide h3
    clear h3 HE3
    go_roundg (G - (k + 1))
    case measure => have := unhide Hgk; omega
    case rel => exact ⟨k + 1, A2, c2, rfl, by omega, by rw [show n + (k + 1) = v + 1 from by have := unhide Hv; omega]; exact unhide HE4⟩
  · obtain rfl : k = G := by omega
    have hrm := modT8 _ _ (unhide Hge)
    obtain ⟨v, hv⟩ : ∃ v, n + k = v := ⟨_, rfl⟩
    rw [hv] at y0 hrm
    have hE := unhide HE
    rw [hv] at hE
    have Hv := hide hv
    have hv2 : v ≤ 4294967304 := by omega
    have HEn := hide (fun nq => hE.then_ (below_drewN' (Below.refl wr.heap.size wr) nq))
    have z0 : ∀ nq, (wr.drewN nq).cell? ⟨g, 0, none⟩ = some (.slice A1 v c1) := fun nq => y0
    clear HE hE hv Hge
    go_wp2_with fail
    go_quiet (fail)
    go_wp2_with (at_builtin; refine wpList_app byteTy rfl _ _ rfl base (.slice A1 v c1) v _ rfl ((unhide HEn) _).m.row w.heap.size Ab m cb (bys b) rfl (((unhide HEn) _).rdK (unhide Hr) (Nat.le_refl _) (unhide Hbg) (unhide HbA)) (bys_one _) (by omega) (by simp; omega) ?_; intro A2 c2 w2 ho2 hg2 ha2; obtain ⟨hb2, hE2⟩ := ((unhide HEn) _).more (Below.refl _ _) (show Grew _ w2 base _ _ (v + m) (xs ++ Mk.zs k ++ b) from ⟨by rw [bys_app]; exact ho2, hg2, ha2⟩); have z2 := hb2.cell ((unhide HEn) 0).m.at_; have z3 := hb2.free 0; have HE3 := hide hE2; clear ho2 hg2 ha2 hb2 hE2 y0 z0)
    go_ret
    rw [unhide Hv]
    exact ⟨A2, v + m, c2, by go_num, unhide HE3⟩
theorem flat_at {α : Type} (f : α → List Value) (z : Nat) (hf : ∀ x, (f x).length = z) (l : List α) : ∀ (k : Nat) (x : α), l[k]? = some x → ∀ j v, (f x)[j]? = some v → (l.flatMap f)[k * z + j]? = some v := by
  induction l with
  | nil => intro k x h; simp at h
  | cons a r ih =>
    intro k x h j v hv
    have hj : j < z := by have := (List.getElem?_eq_some_iff.1 hv).1; rwa [hf] at this
    cases k with
    | zero =>
      simp at h
      subst h
      rw [List.flatMap_cons, List.getElem?_append_left (by rw [hf]; omega), Nat.zero_mul, Nat.zero_add]
      exact hv
    | succ k =>
      simp at h
      rw [List.flatMap_cons, List.getElem?_append_right (by rw [hf, Nat.succ_mul]; omega), hf, show (k + 1) * z + j - z = k * z + j from by rw [Nat.succ_mul]; omega]
      exact ih k x h j v hv
def mrV (r : Mk.Rel) : List Value := [.int .u64 (r.off : Nat), .int .u32 (r.type : Nat), .int .i64 r.sym, .int .i64 r.add]
def mrC (l : List Mk.Rel) : List Value := l.flatMap mrV
theorem mksym_at {w : World} {B n : Nat} {A : Option Addr} {l : List Dy.Sym} (h : Rd w B 5 A n (symC l)) {k : Nat} {x : Dy.Sym} (hk : l[k]? = some x) :
    ∃ b off, A = some ⟨b, off, none⟩ ∧ b < B ∧ w.cell? ⟨b, off + k * 5, none⟩ = some (.string x.name) ∧ w.cell? ⟨b, off + k * 5 + 1, none⟩ = some (.int .u64 (x.value : Nat)) ∧ w.cell? ⟨b, off + k * 5 + 2, none⟩ = some (.int .u64 (x.size : Nat)) ∧ w.cell? ⟨b, off + k * 5 + 3, none⟩ = some (.int .u8 (x.bind : Nat)) ∧ w.cell? ⟨b, off + k * 5 + 4, none⟩ = some (.bool x.isdef) := by
  have hc := flat_at symV 5 (fun _ => rfl) l k x hk
  obtain ⟨b, off, ea, hb, hx⟩ := h.open_ (by intro e0; have := hc 0 _ rfl; rw [show l.flatMap symV = symC l from rfl, e0] at this; simp at this)
  refine ⟨b, off, ea, hb, ?_, ?_, ?_, ?_, ?_⟩
  · exact hx _ _ (hc 0 _ rfl)
  · rw [Nat.add_assoc]; exact hx _ _ (hc 1 _ rfl)
  · rw [Nat.add_assoc]; exact hx _ _ (hc 2 _ rfl)
  · rw [Nat.add_assoc]; exact hx _ _ (hc 3 _ rfl)
  · rw [Nat.add_assoc]; exact hx _ _ (hc 4 _ rfl)
theorem mkrel_at {w : World} {B n : Nat} {A : Option Addr} {l : List Mk.Rel} (h : Rd w B 4 A n (mrC l)) {k : Nat} {x : Mk.Rel} (hk : l[k]? = some x) :
    ∃ b off, A = some ⟨b, off, none⟩ ∧ b < B ∧ w.cell? ⟨b, off + k * 4, none⟩ = some (.int .u64 (x.off : Nat)) ∧ w.cell? ⟨b, off + k * 4 + 1, none⟩ = some (.int .u32 (x.type : Nat)) ∧ w.cell? ⟨b, off + k * 4 + 2, none⟩ = some (.int .i64 x.sym) ∧ w.cell? ⟨b, off + k * 4 + 3, none⟩ = some (.int .i64 x.add) := by
  have hc := flat_at mrV 4 (fun _ => rfl) l k x hk
  obtain ⟨b, off, ea, hb, hx⟩ := h.open_ (by intro e0; have := hc 0 _ rfl; rw [show l.flatMap mrV = mrC l from rfl, e0] at this; simp at this)
  refine ⟨b, off, ea, hb, ?_, ?_, ?_, ?_⟩
  · exact hx _ _ (hc 0 _ rfl)
  · rw [Nat.add_assoc]; exact hx _ _ (hc 1 _ rfl)
  · rw [Nat.add_assoc]; exact hx _ _ (hc 2 _ rfl)
  · rw [Nat.add_assoc]; exact hx _ _ (hc 3 _ rfl)
structure Dq where
  d : Mk.Dyn
  A1 : Option Addr
  c1 : Nat
  A2 : Option Addr
  c2 : Nat
  A3 : Option Addr
  c3 : Nat
def Dq.l (q : Dq) : List Value := [.slice q.A1 q.d.needed.length q.c1, .string q.d.soname, .string q.d.run, .slice q.A2 q.d.syms.length q.c2, .slice q.A3 q.d.relas.length q.c3]
structure DqM (w : World) (B : Nat) (q : Dq) : Prop where
  needed : Rd w B 1 q.A1 q.d.needed.length (q.d.needed.map Value.string)
  syms : Rd w B 5 q.A2 q.d.syms.length (symC q.d.syms)
  relas : Rd w B 4 q.A3 q.d.relas.length (mrC q.d.relas)
theorem DqM.below {w w' : World} {B : Nat} {q : Dq} (h : DqM w B q) (hb : Below B w w') : DqM w' B q := ⟨h.needed.below hb, h.syms.below hb, h.relas.below hb⟩
theorem DqM.more {w : World} {B B' : Nat} {q : Dq} (h : DqM w B q) (hB : B ≤ B') : DqM w B' q := ⟨h.needed.more hB, h.syms.more hB, h.relas.more hB⟩
structure DqOk (q : Dq) : Prop where
  n1 : q.d.needed.length ≤ 4294967296
  n2 : q.d.syms.length ≤ 4294967296
  n3 : q.d.relas.length ≤ 4294967296
  s1 : ∀ s ∈ q.d.needed, s.size ≤ 4294967296
  s2 : ∀ s ∈ q.d.syms, s.name.size ≤ 4294967296
  s3 : q.d.soname.size ≤ 4294967296
  s4 : q.d.run.size ≤ 4294967296
  c1 : q.d.needed.length ≤ q.c1
  c2 : q.d.syms.length ≤ q.c2
  c3 : q.d.relas.length ≤ q.c3
theorem nextL_drop {n b : Nat} {l : List Dy.Sym} {i : Nat} {x : Dy.Sym} (h : l[i]? = some x) : Mk.nextL n b (l.drop i) i = if Mk.hashOf x % n = b then i + 1 else Mk.nextL n b (l.drop (i + 1)) (i + 1) := by
  rw [List.drop_eq_getElem_cons (List.getElem?_eq_some_iff.1 h).1, (List.getElem?_eq_some_iff.1 h).2, Mk.nextL]
set_option maxRecDepth 100000 in
set_option maxHeartbeats 4000000 in
theorem rnext_any (q : Dq) (n b above B : Nat) (w : World) (hB : B ≤ w.heap.size) (h : DqM w B q) (ho : DqOk q) (hn : 0 < n) (hn2 : n ≤ 4294967296) (hab : above ≤ q.d.syms.length) (hbn : b < n) :
    Calls Tryz.prog 115 #[.agg q.l.toArray, .int .i64 n, .int .i64 b, .int .i64 above] w fun e w' => e = .returned (.int .i64 (Mk.next q.d.syms n b above : Nat)) ∧ Below w.heap.size w w' := by
  obtain ⟨⟨nd, so, ru, sy, re⟩, A1, c1, A2, c2, A3, c3⟩ := q
  have hbl := Blk.new w 29 [.slice A1 nd.length c1, .string so, .string ru, .slice A2 sy.length c2, .slice A3 re.length c3]
  have hb1 : Below w.heap.size w (w.alloc (.cells #[.slice A1 nd.length c1, .string so, .string ru, .slice A2 sy.length c2, .slice A3 re.length c3] 29)) := (Below.refl _ _).alloc (Nat.le_refl _) _
  have hsy : Rd w B 5 A2 sy.length (symC sy) := h.syms
  have hsy1 := hsy.below (hb1.mono hB)
  have hm : sy.length ≤ 4294967296 := ho.n2
  have hs2 : ∀ s ∈ sy, s.name.size ≤ 4294967296 := ho.s2
  have y3 := hbl.cell (i := 3) rfl
  show Calls _ _ #[.agg #[.slice A1 nd.length c1, .string so, .string ru, .slice A2 sy.length c2, .slice A3 re.length c3], .int .i64 n, .int .i64 b, .int .i64 above] w _
  have hab' : above ≤ sy.length := hab
  show Calls _ _ _ w fun e w' => e = .returned (.int .i64 (Mk.next sy n b above : Nat)) ∧ Below w.heap.size w w'
  clear hbl hsy h ho hab
  obtain ⟨m, hmm⟩ : ∃ m, sy.length = m := ⟨_, rfl⟩
  have Hs2 := hide hs2
  have Hsy := hide hsy1
  have Hb1 := hide hb1
  rw [hmm] at hm hab' y3 ⊢
  have Hmm := hide hmm
  have KH := hide (fun s (w : World) (hs : s.size ≤ 4294967296) => rhash_any s w hs)
  clear hs2 hsy1 hb1 hmm
  go_enter Tryz.func115, Tryz.ntmps115
  go_wp2_with fail
  have hgen : ∃ w1, w1 = (w.alloc (.cells #[.slice A1 nd.length c1, .string so, .string ru, .slice A2 m c2, .slice A3 re.length c3] 29)) := ⟨_, rfl⟩
  rw [unhide Hmm] at Hsy Hb1
  generalize (w.alloc (.cells #[.slice A1 nd.length c1, .string so, .string ru, .slice A2 m c2, .slice A3 re.length c3] 29)) = w1 at *
  clear hgen
  go_loopg [9] (m - above) (fun gk iv wr => ∃ i : Nat, gk = m - i ∧ above ≤ i ∧ i ≤ m ∧ iv = .int .i64 i ∧ wr = w1 ∧ Mk.next sy n b above = Mk.nextL n b (sy.drop i) i)
  case atStart => exact ⟨above, rfl, Nat.le_refl _, hab', rfl, rfl, rfl⟩
  case round =>
  obtain ⟨i, hgk, hi1, hi, rfl, rfl, hnx⟩ := hrel
  have Hgk := hide hgk
  clear hgk
  rcases Nat.lt_or_ge i m with hlt | hge
  case inr =>
    obtain rfl : i = m := by omega
    have e0 : Mk.next sy n b above = 0 := by rw [hnx, List.drop_of_length_le (by rw [unhide Hmm]; exact Nat.le_refl _)]; rfl
    have He0 := hide e0
    clear hnx e0
    go_wp2_with fail
    go_ret
    rw [unhide He0]
    exact ⟨rfl, unhide Hb1⟩
  obtain ⟨x, hx⟩ : ∃ x, sy[i]? = some x := ⟨_, List.getElem?_eq_getElem (by rw [unhide Hmm]; exact hlt)⟩
  obtain ⟨b1, o1, rfl, hb1, z0, -⟩ := mksym_at (unhide Hsy) hx
  have hxs := (unhide Hs2) x (List.mem_of_getElem? hx)
  rw [nextL_drop hx] at hnx
  have hhs := Dy.hash_lt x.name.data.toList
  have hho : Mk.hashOf x = Dy.hash x.name.data.toList := rfl
  rw [hho] at hnx
  have KX := hide ((unhide KH) x.name wr hxs)
  obtain ⟨hv, hhv⟩ : ∃ hv, Dy.hash x.name.data.toList = hv := ⟨_, rfl⟩
  rw [hhv] at hnx hhs KX
  have hmo := modT hv n
  obtain ⟨r, hr⟩ : ∃ r, hv % n = r := ⟨_, rfl⟩
  have hmo2 : (hv : Int) % (n : Int) = (r : Int) := by rw [← hr]; rfl
  rw [hr] at hnx hmo
  have hrn : r < n := by rw [← hr]; exact Nat.mod_lt _ hn
  clear hr hhv hho hx
  by_cases hrb : r = b
  · rw [if_pos hrb] at hnx
    subst hrb
    have Hnx := hide hnx
    clear hnx
    go_wp2_with (go_at_call 116; refine (unhide KX).mono ?_; rintro e w2 ⟨rfl, rfl⟩)
    go_ret
    rw [unhide Hnx]
    exact ⟨by go_num, unhide Hb1⟩
  · rw [if_neg hrb] at hnx
    have hrb2 : ((r : Int) == (b : Int)) = false := by rw [beq_eq_false_iff_ne]; omega
    have Hnx := hide hnx
    clear hnx hrb
    go_wp2_with (go_at_call 116; refine (unhide KX).mono ?_; rintro e w2 ⟨rfl, rfl⟩)
    go_roundg (m - (i + 1))
    case measure => have := unhide Hgk; omega
    case rel => exact ⟨i + 1, rfl, by omega, by omega, by go_num, rfl, unhide Hnx⟩
end Go.Proofs.YtnbecdahfgkffaaGreat
