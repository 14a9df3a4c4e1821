/- The walks of elf.must, reader.at, reader.header and reader.segment: what they return, and with which error they give up. Conditions: the bytes are no more than the model's greatest length. -/
import Derived.Test.YtkonolmakpeocaaWords
import Derived.Test.YtkonolmakpeocaaElfPure
import Derived.Test.YtkonolmakpeocaaShelf
import Derived.Lib.SlBytesConst
namespace Go.Proofs.Ytkonolmakpeocaa
set_option linter.unusedVariables false
set_option linter.unusedSimpArgs false
open Go.RowKit

/-- A slice value that reads as these bytes. -/
abbrev u8s (b : List UInt8) : List Value := b.map fun c => .int .u8 c.toNat

theorem bytesIn_rd {w : World} {B n : Nat} {A : Option Addr} {b : List UInt8} (h : Rd w B 1 A n (u8s b)) : Lib.BytesIn w A n (b.map fun c => ((c.toNat : Nat) : Int)) := by
  intro hn
  have hl : b.length = n := by simpa using h.len1
  obtain ⟨b1, o1, e, _, hc⟩ := h.open_ (by intro e; rw [List.map_eq_nil_iff] at e; subst e; simp at hl; omega)
  refine ⟨b1, o1, e, fun i hi => hc i _ ?_⟩
  have hi' : i < b.length := by omega
  simp [List.getElem?_eq_getElem hi', List.getD_eq_getElem?_getD]
theorem bytesOf_map (b : List UInt8) : Lib.bytesOf (b.map fun c => ((c.toNat : Nat) : Int)) = b := by
  unfold Lib.bytesOf
  rw [List.map_map]
  have : ((fun n : Int => UInt8.ofNat n.toNat) ∘ fun c : UInt8 => ((c.toNat : Nat) : Int)) = id := by
    funext c
    simp
  rw [this, List.map_id]

/-- what a panic of must is. -/
abbrev wrongs (e : Int) : Ending := .panicked [{ v := .iface 53 (.int .i64 e), recovered := false }]
theorem must_yes (e : Int) (w : World) : Calls Try.prog 28 #[.bool true, .int .i64 e] w fun r w' => r = .returned (.tuple #[]) ∧ w = w' := by
  go_enter Try.func28, Try.ntmps28
  go_wp2
  go_end0
  exact ⟨rfl, rfl⟩
theorem must_no (e : Int) (w : World) : Calls Try.prog 28 #[.bool false, .int .i64 e] w fun r w' => r = wrongs e ∧ w = w' := by
  go_enter Try.func28, Try.ntmps28
  go_wp2
  exact ⟨rfl, rfl, rfl⟩

theorem at_yes (A : Option Addr) (m c : Nat) (B : Nat) (b : List UInt8) (p s : Nat) (w : World) (hB : B ≤ w.heap.size) (hb : Rd w B 1 A m (u8s b)) (hm : m ≤ maxLen) (hs : s = 1 ∨ s = 2 ∨ s = 4 ∨ s = 8) (hin : p + s ≤ m) :
    Calls Try.prog 27 #[.slice A m c, .int .u64 p, .int .i64 s] w fun e w' => e = .returned (.int .u64 (Wd.num b p s)) ∧ Below w.heap.size w w' := by
  have hg := get_yes A m c B b p s w hB hb hm hs hin
  have Hg := hide hg
  clear hg hb hs hin
  go_enter Try.func27, Try.ntmps27
  go_wp2_with (first
    | (go_at_call 46; refine (unhide Hg).mono ?_; rintro e w1 ⟨rfl, hb1⟩)
    | (go_at_call 28; refine (must_yes _ _).mono ?_; rintro e w2 ⟨rfl, rfl⟩))
  go_ret
  exact ⟨rfl, hb1⟩

/-- A contract with two ends: one Bool decides which. -/
def Or2 (c : Bool) (ok bad : Ending) (w : World) (e : Ending) (w' : World) : Prop := e = (if c then ok else bad) ∧ Below w.heap.size w w'

theorem magic_row (w : World) (fz : Nat × Nat) : Rd (w.alloc (.cells #[.int .u8 127, .int .u8 69, .int .u8 76, .int .u8 70, .int .u8 2, .int .u8 1, .int .u8 1] 5 fz)) (w.heap.size + 1) 1 (some ⟨w.heap.size, 0, none⟩) 7 (u8s El.magic) := Rd.rowF (size := 1) (n := 7) rfl

/-- HasPrefix of the bytes and the seven that a program begins with, wherever these lie. -/
theorem prefix_any (A A2 : Option Addr) (m c d B B2 : Nat) (b : List UInt8) (W : World) (hmc : m ≤ c) (h1 : Rd W B 1 A m (u8s b)) (h2 : Rd W B2 1 A2 7 (u8s El.magic)) :
    Calls Try.prog 45 #[.slice A m c, .slice A2 7 d] W fun e w' => e = .returned (.bool (Lib.hasPrefix b El.magic)) ∧ W = w' := by
  have h := Try.bytes_HasPrefix_all A A2 m c 7 d _ _ W (by simpa using h1.len1) rfl hmc (bytesIn_rd h1) (bytesIn_rd h2)
  rw [bytesOf_map, bytesOf_map] at h
  exact flipw h

set_option maxHeartbeats 1600000 in
theorem header_ok2 (A : Option Addr) (m c : Nat) (B : Nat) (b : List UInt8) (w : World) (hB : B ≤ w.heap.size) (hb : Rd w B 1 A m (u8s b)) (hm : m ≤ maxLen) (hmc : m ≤ c) (h64 : 64 ≤ m) (h2 : Lib.hasPrefix b El.magic = true) (h3 : Wd.num b 16 2 = 2) (h4 : Wd.num b 18 2 = 62) (h5 : Wd.num b 20 4 = 1) (h6 : Wd.num b 54 2 = 56) (h7 : 0 < Wd.num b 56 2) (h8 : Wd.num b 56 2 ≤ 8) :
    Calls Try.prog 26 #[.slice A m c] w fun e w' => e = .returned (.int .u64 (Wd.num b 56 2)) ∧ Below w.heap.size w w' := by
  have hbl : b.length = m := by simpa using hb.len1
  have G1 := hide (fun (w' : World) (h : Below w.heap.size w w') => at_yes A m c B b 16 2 w' (Nat.le_trans hB h.size) ((hb).below (h.mono hB)) hm (by omega) (by omega))
  have G2 := hide (fun (w' : World) (h : Below w.heap.size w w') => at_yes A m c B b 56 2 w' (Nat.le_trans hB h.size) ((hb).below (h.mono hB)) hm (by omega) (by omega))
  have G3 := hide (fun (w' : World) (h : Below w.heap.size w w') => at_yes A m c B b 18 2 w' (Nat.le_trans hB h.size) ((hb).below (h.mono hB)) hm (by omega) (by omega))
  have G4 := hide (fun (w' : World) (h : Below w.heap.size w w') => at_yes A m c B b 20 4 w' (Nat.le_trans hB h.size) ((hb).below (h.mono hB)) hm (by omega) (by omega))
  have G5 := hide (fun (w' : World) (h : Below w.heap.size w w') => at_yes A m c B b 54 2 w' (Nat.le_trans hB h.size) ((hb).below (h.mono hB)) hm (by omega) (by omega))
  have kc := fun (w : World) (C : Array Value) (n c : Nat) => Lib.run_convert_bytes_const (P := Try.prog) w 22 5 C n c Try.underlying22 Try.underlying5
  have hl16 : Wd.num b 16 2 < 65536 := Wd.num_lt b 16 2
  generalize Wd.num b 16 2 = n16 at *
  generalize Wd.num b 56 2 = n56 at *
  generalize Wd.num b 18 2 = n18 at *
  generalize Wd.num b 20 4 = n20 at *
  generalize Wd.num b 54 2 = n54 at *
  have Hb := hide hb
  clear hb hbl
  have i64 : (64 : Int) ≤ (m : Int) := by omega
  have H2 := hide h2
  clear h2
  have e162 : (((n16 : Nat) : Int) == 2) = true := by simp; omega
  have e1862 : (((n18 : Nat) : Int) == 62) = true := by simp; omega
  have e201 : (((n20 : Nat) : Int) == 1) = true := by simp; omega
  have e5456 : (((n54 : Nat) : Int) == 56) = true := by simp; omega
  have i7 : (0 : Int) < ((n56 : Nat) : Int) := by omega
  have i8 : ((n56 : Nat) : Int) ≤ 8 := by omega
  clear h3 h4 h5 h6 h7 h8
  go_enter Try.func26, Try.ntmps26
  go_wp2_with (first
    | (go_at_call 45; refine (prefix_any _ _ _ _ _ _ _ b _ hmc (((unhide Hb).more hB).alloc (Nat.le_refl _) _) (magic_row _ _)).mono ?_; rintro e w0 ⟨rfl, rfl⟩; rw [unhide H2]; have HB := hide ((Below.refl w.heap.size w).alloc (Nat.le_refl _) (.cells #[.int .u8 127, .int .u8 69, .int .u8 76, .int .u8 70, .int .u8 2, .int .u8 1, .int .u8 1] 5 (7, 8))))
    | (go_at_call_of 27 (Value.int IntKind.u64 16); refine ((unhide G1) _ (unhide HB)).mono ?_; rintro e w1 ⟨rfl, hx⟩; replace HB := hide ((unhide HB).trans (hx.mono (unhide HB).size)); clear hx)
    | (go_at_call_of 27 (Value.int IntKind.u64 56); refine ((unhide G2) _ (unhide HB)).mono ?_; rintro e w1 ⟨rfl, hx⟩; replace HB := hide ((unhide HB).trans (hx.mono (unhide HB).size)); clear hx)
    | (go_at_call_of 27 (Value.int IntKind.u64 18); refine ((unhide G3) _ (unhide HB)).mono ?_; rintro e w1 ⟨rfl, hx⟩; replace HB := hide ((unhide HB).trans (hx.mono (unhide HB).size)); clear hx)
    | (go_at_call_of 27 (Value.int IntKind.u64 20); refine ((unhide G4) _ (unhide HB)).mono ?_; rintro e w1 ⟨rfl, hx⟩; replace HB := hide ((unhide HB).trans (hx.mono (unhide HB).size)); clear hx)
    | (go_at_call_of 27 (Value.int IntKind.u64 54); refine ((unhide G5) _ (unhide HB)).mono ?_; rintro e w1 ⟨rfl, hx⟩; replace HB := hide ((unhide HB).trans (hx.mono (unhide HB).size)); clear hx)
    | (go_at_call_of 28 (Value.bool true); refine (must_yes _ _).mono ?_; rintro e w1 ⟨rfl, rfl⟩)
    | (go_at_call_of 28 (Value.bool false); refine (must_no _ _).mono ?_; rintro e w1 ⟨rfl, rfl⟩))
  go_ret
  exact ⟨rfl, unhide HB⟩


set_option maxHeartbeats 1600000 in
theorem header_b182 (A : Option Addr) (m c : Nat) (B : Nat) (b : List UInt8) (w : World) (hB : B ≤ w.heap.size) (hb : Rd w B 1 A m (u8s b)) (hm : m ≤ maxLen) (hmc : m ≤ c) (h64 : 64 ≤ m) (h2 : Lib.hasPrefix b El.magic = true) (h3 : Wd.num b 16 2 = 2) (h4 : Wd.num b 18 2 ≠ 62) :
    Calls Try.prog 26 #[.slice A m c] w fun e w' => e = wrongs 13 ∧ Below w.heap.size w w' := by
  have hbl : b.length = m := by simpa using hb.len1
  have G1 := hide (fun (w' : World) (h : Below w.heap.size w w') => at_yes A m c B b 16 2 w' (Nat.le_trans hB h.size) ((hb).below (h.mono hB)) hm (by omega) (by omega))
  have G2 := hide (fun (w' : World) (h : Below w.heap.size w w') => at_yes A m c B b 56 2 w' (Nat.le_trans hB h.size) ((hb).below (h.mono hB)) hm (by omega) (by omega))
  have G3 := hide (fun (w' : World) (h : Below w.heap.size w w') => at_yes A m c B b 18 2 w' (Nat.le_trans hB h.size) ((hb).below (h.mono hB)) hm (by omega) (by omega))
  have G4 := hide (fun (w' : World) (h : Below w.heap.size w w') => at_yes A m c B b 20 4 w' (Nat.le_trans hB h.size) ((hb).below (h.mono hB)) hm (by omega) (by omega))
  have G5 := hide (fun (w' : World) (h : Below w.heap.size w w') => at_yes A m c B b 54 2 w' (Nat.le_trans hB h.size) ((hb).below (h.mono hB)) hm (by omega) (by omega))
  have kc := fun (w : World) (C : Array Value) (n c : Nat) => Lib.run_convert_bytes_const (P := Try.prog) w 22 5 C n c Try.underlying22 Try.underlying5
  have hl16 : Wd.num b 16 2 < 65536 := Wd.num_lt b 16 2
  generalize Wd.num b 16 2 = n16 at *
  generalize Wd.num b 56 2 = n56 at *
  generalize Wd.num b 18 2 = n18 at *
  generalize Wd.num b 20 4 = n20 at *
  generalize Wd.num b 54 2 = n54 at *
  have Hb := hide hb
  clear hb hbl
  have i64 : (64 : Int) ≤ (m : Int) := by omega
  have H2 := hide h2
  clear h2
  have e162 : (((n16 : Nat) : Int) == 2) = true := by simp; omega
  have e1862 : (((n18 : Nat) : Int) == 62) = false := by simp; omega
  clear h3 h4
  go_enter Try.func26, Try.ntmps26
  go_wp2_with (first
    | (go_at_call 45; refine (prefix_any _ _ _ _ _ _ _ b _ hmc (((unhide Hb).more hB).alloc (Nat.le_refl _) _) (magic_row _ _)).mono ?_; rintro e w0 ⟨rfl, rfl⟩; rw [unhide H2]; have HB := hide ((Below.refl w.heap.size w).alloc (Nat.le_refl _) (.cells #[.int .u8 127, .int .u8 69, .int .u8 76, .int .u8 70, .int .u8 2, .int .u8 1, .int .u8 1] 5 (7, 8))))
    | (go_at_call_of 27 (Value.int IntKind.u64 16); refine ((unhide G1) _ (unhide HB)).mono ?_; rintro e w1 ⟨rfl, hx⟩; replace HB := hide ((unhide HB).trans (hx.mono (unhide HB).size)); clear hx)
    | (go_at_call_of 27 (Value.int IntKind.u64 56); refine ((unhide G2) _ (unhide HB)).mono ?_; rintro e w1 ⟨rfl, hx⟩; replace HB := hide ((unhide HB).trans (hx.mono (unhide HB).size)); clear hx)
    | (go_at_call_of 27 (Value.int IntKind.u64 18); refine ((unhide G3) _ (unhide HB)).mono ?_; rintro e w1 ⟨rfl, hx⟩; replace HB := hide ((unhide HB).trans (hx.mono (unhide HB).size)); clear hx)
    | (go_at_call_of 27 (Value.int IntKind.u64 20); refine ((unhide G4) _ (unhide HB)).mono ?_; rintro e w1 ⟨rfl, hx⟩; replace HB := hide ((unhide HB).trans (hx.mono (unhide HB).size)); clear hx)
    | (go_at_call_of 27 (Value.int IntKind.u64 54); refine ((unhide G5) _ (unhide HB)).mono ?_; rintro e w1 ⟨rfl, hx⟩; replace HB := hide ((unhide HB).trans (hx.mono (unhide HB).size)); clear hx)
    | (go_at_call_of 28 (Value.bool true); refine (must_yes _ _).mono ?_; rintro e w1 ⟨rfl, rfl⟩)
    | (go_at_call_of 28 (Value.bool false); refine (must_no _ _).mono ?_; rintro e w1 ⟨rfl, rfl⟩))
  exact ⟨rfl, rfl, unhide HB⟩


set_option maxHeartbeats 1600000 in
theorem header_b202 (A : Option Addr) (m c : Nat) (B : Nat) (b : List UInt8) (w : World) (hB : B ≤ w.heap.size) (hb : Rd w B 1 A m (u8s b)) (hm : m ≤ maxLen) (hmc : m ≤ c) (h64 : 64 ≤ m) (h2 : Lib.hasPrefix b El.magic = true) (h3 : Wd.num b 16 2 = 2) (h4 : Wd.num b 18 2 = 62) (h5 : Wd.num b 20 4 ≠ 1) :
    Calls Try.prog 26 #[.slice A m c] w fun e w' => e = wrongs 13 ∧ Below w.heap.size w w' := by
  have hbl : b.length = m := by simpa using hb.len1
  have G1 := hide (fun (w' : World) (h : Below w.heap.size w w') => at_yes A m c B b 16 2 w' (Nat.le_trans hB h.size) ((hb).below (h.mono hB)) hm (by omega) (by omega))
  have G2 := hide (fun (w' : World) (h : Below w.heap.size w w') => at_yes A m c B b 56 2 w' (Nat.le_trans hB h.size) ((hb).below (h.mono hB)) hm (by omega) (by omega))
  have G3 := hide (fun (w' : World) (h : Below w.heap.size w w') => at_yes A m c B b 18 2 w' (Nat.le_trans hB h.size) ((hb).below (h.mono hB)) hm (by omega) (by omega))
  have G4 := hide (fun (w' : World) (h : Below w.heap.size w w') => at_yes A m c B b 20 4 w' (Nat.le_trans hB h.size) ((hb).below (h.mono hB)) hm (by omega) (by omega))
  have G5 := hide (fun (w' : World) (h : Below w.heap.size w w') => at_yes A m c B b 54 2 w' (Nat.le_trans hB h.size) ((hb).below (h.mono hB)) hm (by omega) (by omega))
  have kc := fun (w : World) (C : Array Value) (n c : Nat) => Lib.run_convert_bytes_const (P := Try.prog) w 22 5 C n c Try.underlying22 Try.underlying5
  have hl16 : Wd.num b 16 2 < 65536 := Wd.num_lt b 16 2
  generalize Wd.num b 16 2 = n16 at *
  generalize Wd.num b 56 2 = n56 at *
  generalize Wd.num b 18 2 = n18 at *
  generalize Wd.num b 20 4 = n20 at *
  generalize Wd.num b 54 2 = n54 at *
  have Hb := hide hb
  clear hb hbl
  have i64 : (64 : Int) ≤ (m : Int) := by omega
  have H2 := hide h2
  clear h2
  have e162 : (((n16 : Nat) : Int) == 2) = true := by simp; omega
  have e1862 : (((n18 : Nat) : Int) == 62) = true := by simp; omega
  have e201 : (((n20 : Nat) : Int) == 1) = false := by simp; omega
  clear h3 h4 h5
  go_enter Try.func26, Try.ntmps26
  go_wp2_with (first
    | (go_at_call 45; refine (prefix_any _ _ _ _ _ _ _ b _ hmc (((unhide Hb).more hB).alloc (Nat.le_refl _) _) (magic_row _ _)).mono ?_; rintro e w0 ⟨rfl, rfl⟩; rw [unhide H2]; have HB := hide ((Below.refl w.heap.size w).alloc (Nat.le_refl _) (.cells #[.int .u8 127, .int .u8 69, .int .u8 76, .int .u8 70, .int .u8 2, .int .u8 1, .int .u8 1] 5 (7, 8))))
    | (go_at_call_of 27 (Value.int IntKind.u64 16); refine ((unhide G1) _ (unhide HB)).mono ?_; rintro e w1 ⟨rfl, hx⟩; replace HB := hide ((unhide HB).trans (hx.mono (unhide HB).size)); clear hx)
    | (go_at_call_of 27 (Value.int IntKind.u64 56); refine ((unhide G2) _ (unhide HB)).mono ?_; rintro e w1 ⟨rfl, hx⟩; replace HB := hide ((unhide HB).trans (hx.mono (unhide HB).size)); clear hx)
    | (go_at_call_of 27 (Value.int IntKind.u64 18); refine ((unhide G3) _ (unhide HB)).mono ?_; rintro e w1 ⟨rfl, hx⟩; replace HB := hide ((unhide HB).trans (hx.mono (unhide HB).size)); clear hx)
    | (go_at_call_of 27 (Value.int IntKind.u64 20); refine ((unhide G4) _ (unhide HB)).mono ?_; rintro e w1 ⟨rfl, hx⟩; replace HB := hide ((unhide HB).trans (hx.mono (unhide HB).size)); clear hx)
    | (go_at_call_of 27 (Value.int IntKind.u64 54); refine ((unhide G5) _ (unhide HB)).mono ?_; rintro e w1 ⟨rfl, hx⟩; replace HB := hide ((unhide HB).trans (hx.mono (unhide HB).size)); clear hx)
    | (go_at_call_of 28 (Value.bool true); refine (must_yes _ _).mono ?_; rintro e w1 ⟨rfl, rfl⟩)
    | (go_at_call_of 28 (Value.bool false); refine (must_no _ _).mono ?_; rintro e w1 ⟨rfl, rfl⟩))
  exact ⟨rfl, rfl, unhide HB⟩


set_option maxHeartbeats 1600000 in
theorem header_b542 (A : Option Addr) (m c : Nat) (B : Nat) (b : List UInt8) (w : World) (hB : B ≤ w.heap.size) (hb : Rd w B 1 A m (u8s b)) (hm : m ≤ maxLen) (hmc : m ≤ c) (h64 : 64 ≤ m) (h2 : Lib.hasPrefix b El.magic = true) (h3 : Wd.num b 16 2 = 2) (h4 : Wd.num b 18 2 = 62) (h5 : Wd.num b 20 4 = 1) (h6 : Wd.num b 54 2 ≠ 56) :
    Calls Try.prog 26 #[.slice A m c] w fun e w' => e = wrongs 13 ∧ Below w.heap.size w w' := by
  have hbl : b.length = m := by simpa using hb.len1
  have G1 := hide (fun (w' : World) (h : Below w.heap.size w w') => at_yes A m c B b 16 2 w' (Nat.le_trans hB h.size) ((hb).below (h.mono hB)) hm (by omega) (by omega))
  have G2 := hide (fun (w' : World) (h : Below w.heap.size w w') => at_yes A m c B b 56 2 w' (Nat.le_trans hB h.size) ((hb).below (h.mono hB)) hm (by omega) (by omega))
  have G3 := hide (fun (w' : World) (h : Below w.heap.size w w') => at_yes A m c B b 18 2 w' (Nat.le_trans hB h.size) ((hb).below (h.mono hB)) hm (by omega) (by omega))
  have G4 := hide (fun (w' : World) (h : Below w.heap.size w w') => at_yes A m c B b 20 4 w' (Nat.le_trans hB h.size) ((hb).below (h.mono hB)) hm (by omega) (by omega))
  have G5 := hide (fun (w' : World) (h : Below w.heap.size w w') => at_yes A m c B b 54 2 w' (Nat.le_trans hB h.size) ((hb).below (h.mono hB)) hm (by omega) (by omega))
  have kc := fun (w : World) (C : Array Value) (n c : Nat) => Lib.run_convert_bytes_const (P := Try.prog) w 22 5 C n c Try.underlying22 Try.underlying5
  have hl16 : Wd.num b 16 2 < 65536 := Wd.num_lt b 16 2
  generalize Wd.num b 16 2 = n16 at *
  generalize Wd.num b 56 2 = n56 at *
  generalize Wd.num b 18 2 = n18 at *
  generalize Wd.num b 20 4 = n20 at *
  generalize Wd.num b 54 2 = n54 at *
  have Hb := hide hb
  clear hb hbl
  have i64 : (64 : Int) ≤ (m : Int) := by omega
  have H2 := hide h2
  clear h2
  have e162 : (((n16 : Nat) : Int) == 2) = true := by simp; omega
  have e1862 : (((n18 : Nat) : Int) == 62) = true := by simp; omega
  have e201 : (((n20 : Nat) : Int) == 1) = true := by simp; omega
  have e5456 : (((n54 : Nat) : Int) == 56) = false := by simp; omega
  clear h3 h4 h5 h6
  go_enter Try.func26, Try.ntmps26
  go_wp2_with (first
    | (go_at_call 45; refine (prefix_any _ _ _ _ _ _ _ b _ hmc (((unhide Hb).more hB).alloc (Nat.le_refl _) _) (magic_row _ _)).mono ?_; rintro e w0 ⟨rfl, rfl⟩; rw [unhide H2]; have HB := hide ((Below.refl w.heap.size w).alloc (Nat.le_refl _) (.cells #[.int .u8 127, .int .u8 69, .int .u8 76, .int .u8 70, .int .u8 2, .int .u8 1, .int .u8 1] 5 (7, 8))))
    | (go_at_call_of 27 (Value.int IntKind.u64 16); refine ((unhide G1) _ (unhide HB)).mono ?_; rintro e w1 ⟨rfl, hx⟩; replace HB := hide ((unhide HB).trans (hx.mono (unhide HB).size)); clear hx)
    | (go_at_call_of 27 (Value.int IntKind.u64 56); refine ((unhide G2) _ (unhide HB)).mono ?_; rintro e w1 ⟨rfl, hx⟩; replace HB := hide ((unhide HB).trans (hx.mono (unhide HB).size)); clear hx)
    | (go_at_call_of 27 (Value.int IntKind.u64 18); refine ((unhide G3) _ (unhide HB)).mono ?_; rintro e w1 ⟨rfl, hx⟩; replace HB := hide ((unhide HB).trans (hx.mono (unhide HB).size)); clear hx)
    | (go_at_call_of 27 (Value.int IntKind.u64 20); refine ((unhide G4) _ (unhide HB)).mono ?_; rintro e w1 ⟨rfl, hx⟩; replace HB := hide ((unhide HB).trans (hx.mono (unhide HB).size)); clear hx)
    | (go_at_call_of 27 (Value.int IntKind.u64 54); refine ((unhide G5) _ (unhide HB)).mono ?_; rintro e w1 ⟨rfl, hx⟩; replace HB := hide ((unhide HB).trans (hx.mono (unhide HB).size)); clear hx)
    | (go_at_call_of 28 (Value.bool true); refine (must_yes _ _).mono ?_; rintro e w1 ⟨rfl, rfl⟩)
    | (go_at_call_of 28 (Value.bool false); refine (must_no _ _).mono ?_; rintro e w1 ⟨rfl, rfl⟩))
  exact ⟨rfl, rfl, unhide HB⟩


set_option maxHeartbeats 1600000 in
theorem header_b02 (A : Option Addr) (m c : Nat) (B : Nat) (b : List UInt8) (w : World) (hB : B ≤ w.heap.size) (hb : Rd w B 1 A m (u8s b)) (hm : m ≤ maxLen) (hmc : m ≤ c) (h64 : 64 ≤ m) (h2 : Lib.hasPrefix b El.magic = true) (h3 : Wd.num b 16 2 = 2) (h4 : Wd.num b 18 2 = 62) (h5 : Wd.num b 20 4 = 1) (h6 : Wd.num b 54 2 = 56) (h7 : ¬ 0 < Wd.num b 56 2) :
    Calls Try.prog 26 #[.slice A m c] w fun e w' => e = wrongs 13 ∧ Below w.heap.size w w' := by
  have hbl : b.length = m := by simpa using hb.len1
  have G1 := hide (fun (w' : World) (h : Below w.heap.size w w') => at_yes A m c B b 16 2 w' (Nat.le_trans hB h.size) ((hb).below (h.mono hB)) hm (by omega) (by omega))
  have G2 := hide (fun (w' : World) (h : Below w.heap.size w w') => at_yes A m c B b 56 2 w' (Nat.le_trans hB h.size) ((hb).below (h.mono hB)) hm (by omega) (by omega))
  have G3 := hide (fun (w' : World) (h : Below w.heap.size w w') => at_yes A m c B b 18 2 w' (Nat.le_trans hB h.size) ((hb).below (h.mono hB)) hm (by omega) (by omega))
  have G4 := hide (fun (w' : World) (h : Below w.heap.size w w') => at_yes A m c B b 20 4 w' (Nat.le_trans hB h.size) ((hb).below (h.mono hB)) hm (by omega) (by omega))
  have G5 := hide (fun (w' : World) (h : Below w.heap.size w w') => at_yes A m c B b 54 2 w' (Nat.le_trans hB h.size) ((hb).below (h.mono hB)) hm (by omega) (by omega))
  have kc := fun (w : World) (C : Array Value) (n c : Nat) => Lib.run_convert_bytes_const (P := Try.prog) w 22 5 C n c Try.underlying22 Try.underlying5
  have hl16 : Wd.num b 16 2 < 65536 := Wd.num_lt b 16 2
  generalize Wd.num b 16 2 = n16 at *
  generalize Wd.num b 56 2 = n56 at *
  generalize Wd.num b 18 2 = n18 at *
  generalize Wd.num b 20 4 = n20 at *
  generalize Wd.num b 54 2 = n54 at *
  have Hb := hide hb
  clear hb hbl
  have i64 : (64 : Int) ≤ (m : Int) := by omega
  have H2 := hide h2
  clear h2
  have e162 : (((n16 : Nat) : Int) == 2) = true := by simp; omega
  have e1862 : (((n18 : Nat) : Int) == 62) = true := by simp; omega
  have e201 : (((n20 : Nat) : Int) == 1) = true := by simp; omega
  have e5456 : (((n54 : Nat) : Int) == 56) = true := by simp; omega
  have i7 : ¬ (0 : Int) < ((n56 : Nat) : Int) := by omega
  clear h3 h4 h5 h6 h7
  go_enter Try.func26, Try.ntmps26
  go_wp2_with (first
    | (go_at_call 45; refine (prefix_any _ _ _ _ _ _ _ b _ hmc (((unhide Hb).more hB).alloc (Nat.le_refl _) _) (magic_row _ _)).mono ?_; rintro e w0 ⟨rfl, rfl⟩; rw [unhide H2]; have HB := hide ((Below.refl w.heap.size w).alloc (Nat.le_refl _) (.cells #[.int .u8 127, .int .u8 69, .int .u8 76, .int .u8 70, .int .u8 2, .int .u8 1, .int .u8 1] 5 (7, 8))))
    | (go_at_call_of 27 (Value.int IntKind.u64 16); refine ((unhide G1) _ (unhide HB)).mono ?_; rintro e w1 ⟨rfl, hx⟩; replace HB := hide ((unhide HB).trans (hx.mono (unhide HB).size)); clear hx)
    | (go_at_call_of 27 (Value.int IntKind.u64 56); refine ((unhide G2) _ (unhide HB)).mono ?_; rintro e w1 ⟨rfl, hx⟩; replace HB := hide ((unhide HB).trans (hx.mono (unhide HB).size)); clear hx)
    | (go_at_call_of 27 (Value.int IntKind.u64 18); refine ((unhide G3) _ (unhide HB)).mono ?_; rintro e w1 ⟨rfl, hx⟩; replace HB := hide ((unhide HB).trans (hx.mono (unhide HB).size)); clear hx)
    | (go_at_call_of 27 (Value.int IntKind.u64 20); refine ((unhide G4) _ (unhide HB)).mono ?_; rintro e w1 ⟨rfl, hx⟩; replace HB := hide ((unhide HB).trans (hx.mono (unhide HB).size)); clear hx)
    | (go_at_call_of 27 (Value.int IntKind.u64 54); refine ((unhide G5) _ (unhide HB)).mono ?_; rintro e w1 ⟨rfl, hx⟩; replace HB := hide ((unhide HB).trans (hx.mono (unhide HB).size)); clear hx)
    | (go_at_call_of 28 (Value.bool true); refine (must_yes _ _).mono ?_; rintro e w1 ⟨rfl, rfl⟩)
    | (go_at_call_of 28 (Value.bool false); refine (must_no _ _).mono ?_; rintro e w1 ⟨rfl, rfl⟩))
  exact ⟨rfl, rfl, unhide HB⟩


set_option maxHeartbeats 1600000 in
theorem header_b82 (A : Option Addr) (m c : Nat) (B : Nat) (b : List UInt8) (w : World) (hB : B ≤ w.heap.size) (hb : Rd w B 1 A m (u8s b)) (hm : m ≤ maxLen) (hmc : m ≤ c) (h64 : 64 ≤ m) (h2 : Lib.hasPrefix b El.magic = true) (h3 : Wd.num b 16 2 = 2) (h4 : Wd.num b 18 2 = 62) (h5 : Wd.num b 20 4 = 1) (h6 : Wd.num b 54 2 = 56) (h7 : 0 < Wd.num b 56 2) (h8 : ¬ Wd.num b 56 2 ≤ 8) :
    Calls Try.prog 26 #[.slice A m c] w fun e w' => e = wrongs 13 ∧ Below w.heap.size w w' := by
  have hbl : b.length = m := by simpa using hb.len1
  have G1 := hide (fun (w' : World) (h : Below w.heap.size w w') => at_yes A m c B b 16 2 w' (Nat.le_trans hB h.size) ((hb).below (h.mono hB)) hm (by omega) (by omega))
  have G2 := hide (fun (w' : World) (h : Below w.heap.size w w') => at_yes A m c B b 56 2 w' (Nat.le_trans hB h.size) ((hb).below (h.mono hB)) hm (by omega) (by omega))
  have G3 := hide (fun (w' : World) (h : Below w.heap.size w w') => at_yes A m c B b 18 2 w' (Nat.le_trans hB h.size) ((hb).below (h.mono hB)) hm (by omega) (by omega))
  have G4 := hide (fun (w' : World) (h : Below w.heap.size w w') => at_yes A m c B b 20 4 w' (Nat.le_trans hB h.size) ((hb).below (h.mono hB)) hm (by omega) (by omega))
  have G5 := hide (fun (w' : World) (h : Below w.heap.size w w') => at_yes A m c B b 54 2 w' (Nat.le_trans hB h.size) ((hb).below (h.mono hB)) hm (by omega) (by omega))
  have kc := fun (w : World) (C : Array Value) (n c : Nat) => Lib.run_convert_bytes_const (P := Try.prog) w 22 5 C n c Try.underlying22 Try.underlying5
  have hl16 : Wd.num b 16 2 < 65536 := Wd.num_lt b 16 2
  generalize Wd.num b 16 2 = n16 at *
  generalize Wd.num b 56 2 = n56 at *
  generalize Wd.num b 18 2 = n18 at *
  generalize Wd.num b 20 4 = n20 at *
  generalize Wd.num b 54 2 = n54 at *
  have Hb := hide hb
  clear hb hbl
  have i64 : (64 : Int) ≤ (m : Int) := by omega
  have H2 := hide h2
  clear h2
  have e162 : (((n16 : Nat) : Int) == 2) = true := by simp; omega
  have e1862 : (((n18 : Nat) : Int) == 62) = true := by simp; omega
  have e201 : (((n20 : Nat) : Int) == 1) = true := by simp; omega
  have e5456 : (((n54 : Nat) : Int) == 56) = true := by simp; omega
  have i7 : (0 : Int) < ((n56 : Nat) : Int) := by omega
  have i8 : decide (((n56 : Nat) : Int) ≤ 8) = false := by simp; omega
  clear h3 h4 h5 h6 h7 h8
  go_enter Try.func26, Try.ntmps26
  go_wp2_with (first
    | (go_at_call 45; refine (prefix_any _ _ _ _ _ _ _ b _ hmc (((unhide Hb).more hB).alloc (Nat.le_refl _) _) (magic_row _ _)).mono ?_; rintro e w0 ⟨rfl, rfl⟩; rw [unhide H2]; have HB := hide ((Below.refl w.heap.size w).alloc (Nat.le_refl _) (.cells #[.int .u8 127, .int .u8 69, .int .u8 76, .int .u8 70, .int .u8 2, .int .u8 1, .int .u8 1] 5 (7, 8))))
    | (go_at_call_of 27 (Value.int IntKind.u64 16); refine ((unhide G1) _ (unhide HB)).mono ?_; rintro e w1 ⟨rfl, hx⟩; replace HB := hide ((unhide HB).trans (hx.mono (unhide HB).size)); clear hx)
    | (go_at_call_of 27 (Value.int IntKind.u64 56); refine ((unhide G2) _ (unhide HB)).mono ?_; rintro e w1 ⟨rfl, hx⟩; replace HB := hide ((unhide HB).trans (hx.mono (unhide HB).size)); clear hx)
    | (go_at_call_of 27 (Value.int IntKind.u64 18); refine ((unhide G3) _ (unhide HB)).mono ?_; rintro e w1 ⟨rfl, hx⟩; replace HB := hide ((unhide HB).trans (hx.mono (unhide HB).size)); clear hx)
    | (go_at_call_of 27 (Value.int IntKind.u64 20); refine ((unhide G4) _ (unhide HB)).mono ?_; rintro e w1 ⟨rfl, hx⟩; replace HB := hide ((unhide HB).trans (hx.mono (unhide HB).size)); clear hx)
    | (go_at_call_of 27 (Value.int IntKind.u64 54); refine ((unhide G5) _ (unhide HB)).mono ?_; rintro e w1 ⟨rfl, hx⟩; replace HB := hide ((unhide HB).trans (hx.mono (unhide HB).size)); clear hx)
    | (go_at_call_of 28 (Value.bool true); refine (must_yes _ _).mono ?_; rintro e w1 ⟨rfl, rfl⟩)
    | (go_at_call_of 28 (Value.bool false); refine (must_no _ _).mono ?_; rintro e w1 ⟨rfl, rfl⟩))
  exact ⟨rfl, rfl, unhide HB⟩


set_option maxHeartbeats 1600000 in
theorem header_ok3 (A : Option Addr) (m c : Nat) (B : Nat) (b : List UInt8) (w : World) (hB : B ≤ w.heap.size) (hb : Rd w B 1 A m (u8s b)) (hm : m ≤ maxLen) (hmc : m ≤ c) (h64 : 64 ≤ m) (h2 : Lib.hasPrefix b El.magic = true) (h3 : Wd.num b 16 2 = 3) (h4 : Wd.num b 18 2 = 62) (h5 : Wd.num b 20 4 = 1) (h6 : Wd.num b 54 2 = 56) (h7 : 0 < Wd.num b 56 2) (h8 : Wd.num b 56 2 ≤ 8) :
    Calls Try.prog 26 #[.slice A m c] w fun e w' => e = .returned (.int .u64 (Wd.num b 56 2)) ∧ Below w.heap.size w w' := by
  have hbl : b.length = m := by simpa using hb.len1
  have G1 := hide (fun (w' : World) (h : Below w.heap.size w w') => at_yes A m c B b 16 2 w' (Nat.le_trans hB h.size) ((hb).below (h.mono hB)) hm (by omega) (by omega))
  have G2 := hide (fun (w' : World) (h : Below w.heap.size w w') => at_yes A m c B b 56 2 w' (Nat.le_trans hB h.size) ((hb).below (h.mono hB)) hm (by omega) (by omega))
  have G3 := hide (fun (w' : World) (h : Below w.heap.size w w') => at_yes A m c B b 18 2 w' (Nat.le_trans hB h.size) ((hb).below (h.mono hB)) hm (by omega) (by omega))
  have G4 := hide (fun (w' : World) (h : Below w.heap.size w w') => at_yes A m c B b 20 4 w' (Nat.le_trans hB h.size) ((hb).below (h.mono hB)) hm (by omega) (by omega))
  have G5 := hide (fun (w' : World) (h : Below w.heap.size w w') => at_yes A m c B b 54 2 w' (Nat.le_trans hB h.size) ((hb).below (h.mono hB)) hm (by omega) (by omega))
  have kc := fun (w : World) (C : Array Value) (n c : Nat) => Lib.run_convert_bytes_const (P := Try.prog) w 22 5 C n c Try.underlying22 Try.underlying5
  have hl16 : Wd.num b 16 2 < 65536 := Wd.num_lt b 16 2
  generalize Wd.num b 16 2 = n16 at *
  generalize Wd.num b 56 2 = n56 at *
  generalize Wd.num b 18 2 = n18 at *
  generalize Wd.num b 20 4 = n20 at *
  generalize Wd.num b 54 2 = n54 at *
  have Hb := hide hb
  clear hb hbl
  have i64 : (64 : Int) ≤ (m : Int) := by omega
  have H2 := hide h2
  clear h2
  have e162 : (((n16 : Nat) : Int) == 2) = false := by simp; omega
  have e163 : (((n16 : Nat) : Int) == 3) = true := by simp; omega
  have e1862 : (((n18 : Nat) : Int) == 62) = true := by simp; omega
  have e201 : (((n20 : Nat) : Int) == 1) = true := by simp; omega
  have e5456 : (((n54 : Nat) : Int) == 56) = true := by simp; omega
  have i7 : (0 : Int) < ((n56 : Nat) : Int) := by omega
  have i8 : ((n56 : Nat) : Int) ≤ 8 := by omega
  clear h3 h4 h5 h6 h7 h8
  go_enter Try.func26, Try.ntmps26
  go_wp2_with (first
    | (go_at_call 45; refine (prefix_any _ _ _ _ _ _ _ b _ hmc (((unhide Hb).more hB).alloc (Nat.le_refl _) _) (magic_row _ _)).mono ?_; rintro e w0 ⟨rfl, rfl⟩; rw [unhide H2]; have HB := hide ((Below.refl w.heap.size w).alloc (Nat.le_refl _) (.cells #[.int .u8 127, .int .u8 69, .int .u8 76, .int .u8 70, .int .u8 2, .int .u8 1, .int .u8 1] 5 (7, 8))))
    | (go_at_call_of 27 (Value.int IntKind.u64 16); refine ((unhide G1) _ (unhide HB)).mono ?_; rintro e w1 ⟨rfl, hx⟩; replace HB := hide ((unhide HB).trans (hx.mono (unhide HB).size)); clear hx)
    | (go_at_call_of 27 (Value.int IntKind.u64 56); refine ((unhide G2) _ (unhide HB)).mono ?_; rintro e w1 ⟨rfl, hx⟩; replace HB := hide ((unhide HB).trans (hx.mono (unhide HB).size)); clear hx)
    | (go_at_call_of 27 (Value.int IntKind.u64 18); refine ((unhide G3) _ (unhide HB)).mono ?_; rintro e w1 ⟨rfl, hx⟩; replace HB := hide ((unhide HB).trans (hx.mono (unhide HB).size)); clear hx)
    | (go_at_call_of 27 (Value.int IntKind.u64 20); refine ((unhide G4) _ (unhide HB)).mono ?_; rintro e w1 ⟨rfl, hx⟩; replace HB := hide ((unhide HB).trans (hx.mono (unhide HB).size)); clear hx)
    | (go_at_call_of 27 (Value.int IntKind.u64 54); refine ((unhide G5) _ (unhide HB)).mono ?_; rintro e w1 ⟨rfl, hx⟩; replace HB := hide ((unhide HB).trans (hx.mono (unhide HB).size)); clear hx)
    | (go_at_call_of 28 (Value.bool true); refine (must_yes _ _).mono ?_; rintro e w1 ⟨rfl, rfl⟩)
    | (go_at_call_of 28 (Value.bool false); refine (must_no _ _).mono ?_; rintro e w1 ⟨rfl, rfl⟩))
  go_ret
  exact ⟨rfl, unhide HB⟩


set_option maxHeartbeats 1600000 in
theorem header_b183 (A : Option Addr) (m c : Nat) (B : Nat) (b : List UInt8) (w : World) (hB : B ≤ w.heap.size) (hb : Rd w B 1 A m (u8s b)) (hm : m ≤ maxLen) (hmc : m ≤ c) (h64 : 64 ≤ m) (h2 : Lib.hasPrefix b El.magic = true) (h3 : Wd.num b 16 2 = 3) (h4 : Wd.num b 18 2 ≠ 62) :
    Calls Try.prog 26 #[.slice A m c] w fun e w' => e = wrongs 13 ∧ Below w.heap.size w w' := by
  have hbl : b.length = m := by simpa using hb.len1
  have G1 := hide (fun (w' : World) (h : Below w.heap.size w w') => at_yes A m c B b 16 2 w' (Nat.le_trans hB h.size) ((hb).below (h.mono hB)) hm (by omega) (by omega))
  have G2 := hide (fun (w' : World) (h : Below w.heap.size w w') => at_yes A m c B b 56 2 w' (Nat.le_trans hB h.size) ((hb).below (h.mono hB)) hm (by omega) (by omega))
  have G3 := hide (fun (w' : World) (h : Below w.heap.size w w') => at_yes A m c B b 18 2 w' (Nat.le_trans hB h.size) ((hb).below (h.mono hB)) hm (by omega) (by omega))
  have G4 := hide (fun (w' : World) (h : Below w.heap.size w w') => at_yes A m c B b 20 4 w' (Nat.le_trans hB h.size) ((hb).below (h.mono hB)) hm (by omega) (by omega))
  have G5 := hide (fun (w' : World) (h : Below w.heap.size w w') => at_yes A m c B b 54 2 w' (Nat.le_trans hB h.size) ((hb).below (h.mono hB)) hm (by omega) (by omega))
  have kc := fun (w : World) (C : Array Value) (n c : Nat) => Lib.run_convert_bytes_const (P := Try.prog) w 22 5 C n c Try.underlying22 Try.underlying5
  have hl16 : Wd.num b 16 2 < 65536 := Wd.num_lt b 16 2
  generalize Wd.num b 16 2 = n16 at *
  generalize Wd.num b 56 2 = n56 at *
  generalize Wd.num b 18 2 = n18 at *
  generalize Wd.num b 20 4 = n20 at *
  generalize Wd.num b 54 2 = n54 at *
  have Hb := hide hb
  clear hb hbl
  have i64 : (64 : Int) ≤ (m : Int) := by omega
  have H2 := hide h2
  clear h2
  have e162 : (((n16 : Nat) : Int) == 2) = false := by simp; omega
  have e163 : (((n16 : Nat) : Int) == 3) = true := by simp; omega
  have e1862 : (((n18 : Nat) : Int) == 62) = false := by simp; omega
  clear h3 h4
  go_enter Try.func26, Try.ntmps26
  go_wp2_with (first
    | (go_at_call 45; refine (prefix_any _ _ _ _ _ _ _ b _ hmc (((unhide Hb).more hB).alloc (Nat.le_refl _) _) (magic_row _ _)).mono ?_; rintro e w0 ⟨rfl, rfl⟩; rw [unhide H2]; have HB := hide ((Below.refl w.heap.size w).alloc (Nat.le_refl _) (.cells #[.int .u8 127, .int .u8 69, .int .u8 76, .int .u8 70, .int .u8 2, .int .u8 1, .int .u8 1] 5 (7, 8))))
    | (go_at_call_of 27 (Value.int IntKind.u64 16); refine ((unhide G1) _ (unhide HB)).mono ?_; rintro e w1 ⟨rfl, hx⟩; replace HB := hide ((unhide HB).trans (hx.mono (unhide HB).size)); clear hx)
    | (go_at_call_of 27 (Value.int IntKind.u64 56); refine ((unhide G2) _ (unhide HB)).mono ?_; rintro e w1 ⟨rfl, hx⟩; replace HB := hide ((unhide HB).trans (hx.mono (unhide HB).size)); clear hx)
    | (go_at_call_of 27 (Value.int IntKind.u64 18); refine ((unhide G3) _ (unhide HB)).mono ?_; rintro e w1 ⟨rfl, hx⟩; replace HB := hide ((unhide HB).trans (hx.mono (unhide HB).size)); clear hx)
    | (go_at_call_of 27 (Value.int IntKind.u64 20); refine ((unhide G4) _ (unhide HB)).mono ?_; rintro e w1 ⟨rfl, hx⟩; replace HB := hide ((unhide HB).trans (hx.mono (unhide HB).size)); clear hx)
    | (go_at_call_of 27 (Value.int IntKind.u64 54); refine ((unhide G5) _ (unhide HB)).mono ?_; rintro e w1 ⟨rfl, hx⟩; replace HB := hide ((unhide HB).trans (hx.mono (unhide HB).size)); clear hx)
    | (go_at_call_of 28 (Value.bool true); refine (must_yes _ _).mono ?_; rintro e w1 ⟨rfl, rfl⟩)
    | (go_at_call_of 28 (Value.bool false); refine (must_no _ _).mono ?_; rintro e w1 ⟨rfl, rfl⟩))
  exact ⟨rfl, rfl, unhide HB⟩


set_option maxHeartbeats 1600000 in
theorem header_b203 (A : Option Addr) (m c : Nat) (B : Nat) (b : List UInt8) (w : World) (hB : B ≤ w.heap.size) (hb : Rd w B 1 A m (u8s b)) (hm : m ≤ maxLen) (hmc : m ≤ c) (h64 : 64 ≤ m) (h2 : Lib.hasPrefix b El.magic = true) (h3 : Wd.num b 16 2 = 3) (h4 : Wd.num b 18 2 = 62) (h5 : Wd.num b 20 4 ≠ 1) :
    Calls Try.prog 26 #[.slice A m c] w fun e w' => e = wrongs 13 ∧ Below w.heap.size w w' := by
  have hbl : b.length = m := by simpa using hb.len1
  have G1 := hide (fun (w' : World) (h : Below w.heap.size w w') => at_yes A m c B b 16 2 w' (Nat.le_trans hB h.size) ((hb).below (h.mono hB)) hm (by omega) (by omega))
  have G2 := hide (fun (w' : World) (h : Below w.heap.size w w') => at_yes A m c B b 56 2 w' (Nat.le_trans hB h.size) ((hb).below (h.mono hB)) hm (by omega) (by omega))
  have G3 := hide (fun (w' : World) (h : Below w.heap.size w w') => at_yes A m c B b 18 2 w' (Nat.le_trans hB h.size) ((hb).below (h.mono hB)) hm (by omega) (by omega))
  have G4 := hide (fun (w' : World) (h : Below w.heap.size w w') => at_yes A m c B b 20 4 w' (Nat.le_trans hB h.size) ((hb).below (h.mono hB)) hm (by omega) (by omega))
  have G5 := hide (fun (w' : World) (h : Below w.heap.size w w') => at_yes A m c B b 54 2 w' (Nat.le_trans hB h.size) ((hb).below (h.mono hB)) hm (by omega) (by omega))
  have kc := fun (w : World) (C : Array Value) (n c : Nat) => Lib.run_convert_bytes_const (P := Try.prog) w 22 5 C n c Try.underlying22 Try.underlying5
  have hl16 : Wd.num b 16 2 < 65536 := Wd.num_lt b 16 2
  generalize Wd.num b 16 2 = n16 at *
  generalize Wd.num b 56 2 = n56 at *
  generalize Wd.num b 18 2 = n18 at *
  generalize Wd.num b 20 4 = n20 at *
  generalize Wd.num b 54 2 = n54 at *
  have Hb := hide hb
  clear hb hbl
  have i64 : (64 : Int) ≤ (m : Int) := by omega
  have H2 := hide h2
  clear h2
  have e162 : (((n16 : Nat) : Int) == 2) = false := by simp; omega
  have e163 : (((n16 : Nat) : Int) == 3) = true := by simp; omega
  have e1862 : (((n18 : Nat) : Int) == 62) = true := by simp; omega
  have e201 : (((n20 : Nat) : Int) == 1) = false := by simp; omega
  clear h3 h4 h5
  go_enter Try.func26, Try.ntmps26
  go_wp2_with (first
    | (go_at_call 45; refine (prefix_any _ _ _ _ _ _ _ b _ hmc (((unhide Hb).more hB).alloc (Nat.le_refl _) _) (magic_row _ _)).mono ?_; rintro e w0 ⟨rfl, rfl⟩; rw [unhide H2]; have HB := hide ((Below.refl w.heap.size w).alloc (Nat.le_refl _) (.cells #[.int .u8 127, .int .u8 69, .int .u8 76, .int .u8 70, .int .u8 2, .int .u8 1, .int .u8 1] 5 (7, 8))))
    | (go_at_call_of 27 (Value.int IntKind.u64 16); refine ((unhide G1) _ (unhide HB)).mono ?_; rintro e w1 ⟨rfl, hx⟩; replace HB := hide ((unhide HB).trans (hx.mono (unhide HB).size)); clear hx)
    | (go_at_call_of 27 (Value.int IntKind.u64 56); refine ((unhide G2) _ (unhide HB)).mono ?_; rintro e w1 ⟨rfl, hx⟩; replace HB := hide ((unhide HB).trans (hx.mono (unhide HB).size)); clear hx)
    | (go_at_call_of 27 (Value.int IntKind.u64 18); refine ((unhide G3) _ (unhide HB)).mono ?_; rintro e w1 ⟨rfl, hx⟩; replace HB := hide ((unhide HB).trans (hx.mono (unhide HB).size)); clear hx)
    | (go_at_call_of 27 (Value.int IntKind.u64 20); refine ((unhide G4) _ (unhide HB)).mono ?_; rintro e w1 ⟨rfl, hx⟩; replace HB := hide ((unhide HB).trans (hx.mono (unhide HB).size)); clear hx)
    | (go_at_call_of 27 (Value.int IntKind.u64 54); refine ((unhide G5) _ (unhide HB)).mono ?_; rintro e w1 ⟨rfl, hx⟩; replace HB := hide ((unhide HB).trans (hx.mono (unhide HB).size)); clear hx)
    | (go_at_call_of 28 (Value.bool true); refine (must_yes _ _).mono ?_; rintro e w1 ⟨rfl, rfl⟩)
    | (go_at_call_of 28 (Value.bool false); refine (must_no _ _).mono ?_; rintro e w1 ⟨rfl, rfl⟩))
  exact ⟨rfl, rfl, unhide HB⟩


set_option maxHeartbeats 1600000 in
theorem header_b543 (A : Option Addr) (m c : Nat) (B : Nat) (b : List UInt8) (w : World) (hB : B ≤ w.heap.size) (hb : Rd w B 1 A m (u8s b)) (hm : m ≤ maxLen) (hmc : m ≤ c) (h64 : 64 ≤ m) (h2 : Lib.hasPrefix b El.magic = true) (h3 : Wd.num b 16 2 = 3) (h4 : Wd.num b 18 2 = 62) (h5 : Wd.num b 20 4 = 1) (h6 : Wd.num b 54 2 ≠ 56) :
    Calls Try.prog 26 #[.slice A m c] w fun e w' => e = wrongs 13 ∧ Below w.heap.size w w' := by
  have hbl : b.length = m := by simpa using hb.len1
  have G1 := hide (fun (w' : World) (h : Below w.heap.size w w') => at_yes A m c B b 16 2 w' (Nat.le_trans hB h.size) ((hb).below (h.mono hB)) hm (by omega) (by omega))
  have G2 := hide (fun (w' : World) (h : Below w.heap.size w w') => at_yes A m c B b 56 2 w' (Nat.le_trans hB h.size) ((hb).below (h.mono hB)) hm (by omega) (by omega))
  have G3 := hide (fun (w' : World) (h : Below w.heap.size w w') => at_yes A m c B b 18 2 w' (Nat.le_trans hB h.size) ((hb).below (h.mono hB)) hm (by omega) (by omega))
  have G4 := hide (fun (w' : World) (h : Below w.heap.size w w') => at_yes A m c B b 20 4 w' (Nat.le_trans hB h.size) ((hb).below (h.mono hB)) hm (by omega) (by omega))
  have G5 := hide (fun (w' : World) (h : Below w.heap.size w w') => at_yes A m c B b 54 2 w' (Nat.le_trans hB h.size) ((hb).below (h.mono hB)) hm (by omega) (by omega))
  have kc := fun (w : World) (C : Array Value) (n c : Nat) => Lib.run_convert_bytes_const (P := Try.prog) w 22 5 C n c Try.underlying22 Try.underlying5
  have hl16 : Wd.num b 16 2 < 65536 := Wd.num_lt b 16 2
  generalize Wd.num b 16 2 = n16 at *
  generalize Wd.num b 56 2 = n56 at *
  generalize Wd.num b 18 2 = n18 at *
  generalize Wd.num b 20 4 = n20 at *
  generalize Wd.num b 54 2 = n54 at *
  have Hb := hide hb
  clear hb hbl
  have i64 : (64 : Int) ≤ (m : Int) := by omega
  have H2 := hide h2
  clear h2
  have e162 : (((n16 : Nat) : Int) == 2) = false := by simp; omega
  have e163 : (((n16 : Nat) : Int) == 3) = true := by simp; omega
  have e1862 : (((n18 : Nat) : Int) == 62) = true := by simp; omega
  have e201 : (((n20 : Nat) : Int) == 1) = true := by simp; omega
  have e5456 : (((n54 : Nat) : Int) == 56) = false := by simp; omega
  clear h3 h4 h5 h6
  go_enter Try.func26, Try.ntmps26
  go_wp2_with (first
    | (go_at_call 45; refine (prefix_any _ _ _ _ _ _ _ b _ hmc (((unhide Hb).more hB).alloc (Nat.le_refl _) _) (magic_row _ _)).mono ?_; rintro e w0 ⟨rfl, rfl⟩; rw [unhide H2]; have HB := hide ((Below.refl w.heap.size w).alloc (Nat.le_refl _) (.cells #[.int .u8 127, .int .u8 69, .int .u8 76, .int .u8 70, .int .u8 2, .int .u8 1, .int .u8 1] 5 (7, 8))))
    | (go_at_call_of 27 (Value.int IntKind.u64 16); refine ((unhide G1) _ (unhide HB)).mono ?_; rintro e w1 ⟨rfl, hx⟩; replace HB := hide ((unhide HB).trans (hx.mono (unhide HB).size)); clear hx)
    | (go_at_call_of 27 (Value.int IntKind.u64 56); refine ((unhide G2) _ (unhide HB)).mono ?_; rintro e w1 ⟨rfl, hx⟩; replace HB := hide ((unhide HB).trans (hx.mono (unhide HB).size)); clear hx)
    | (go_at_call_of 27 (Value.int IntKind.u64 18); refine ((unhide G3) _ (unhide HB)).mono ?_; rintro e w1 ⟨rfl, hx⟩; replace HB := hide ((unhide HB).trans (hx.mono (unhide HB).size)); clear hx)
    | (go_at_call_of 27 (Value.int IntKind.u64 20); refine ((unhide G4) _ (unhide HB)).mono ?_; rintro e w1 ⟨rfl, hx⟩; replace HB := hide ((unhide HB).trans (hx.mono (unhide HB).size)); clear hx)
    | (go_at_call_of 27 (Value.int IntKind.u64 54); refine ((unhide G5) _ (unhide HB)).mono ?_; rintro e w1 ⟨rfl, hx⟩; replace HB := hide ((unhide HB).trans (hx.mono (unhide HB).size)); clear hx)
    | (go_at_call_of 28 (Value.bool true); refine (must_yes _ _).mono ?_; rintro e w1 ⟨rfl, rfl⟩)
    | (go_at_call_of 28 (Value.bool false); refine (must_no _ _).mono ?_; rintro e w1 ⟨rfl, rfl⟩))
  exact ⟨rfl, rfl, unhide HB⟩


set_option maxHeartbeats 1600000 in
theorem header_b03 (A : Option Addr) (m c : Nat) (B : Nat) (b : List UInt8) (w : World) (hB : B ≤ w.heap.size) (hb : Rd w B 1 A m (u8s b)) (hm : m ≤ maxLen) (hmc : m ≤ c) (h64 : 64 ≤ m) (h2 : Lib.hasPrefix b El.magic = true) (h3 : Wd.num b 16 2 = 3) (h4 : Wd.num b 18 2 = 62) (h5 : Wd.num b 20 4 = 1) (h6 : Wd.num b 54 2 = 56) (h7 : ¬ 0 < Wd.num b 56 2) :
    Calls Try.prog 26 #[.slice A m c] w fun e w' => e = wrongs 13 ∧ Below w.heap.size w w' := by
  have hbl : b.length = m := by simpa using hb.len1
  have G1 := hide (fun (w' : World) (h : Below w.heap.size w w') => at_yes A m c B b 16 2 w' (Nat.le_trans hB h.size) ((hb).below (h.mono hB)) hm (by omega) (by omega))
  have G2 := hide (fun (w' : World) (h : Below w.heap.size w w') => at_yes A m c B b 56 2 w' (Nat.le_trans hB h.size) ((hb).below (h.mono hB)) hm (by omega) (by omega))
  have G3 := hide (fun (w' : World) (h : Below w.heap.size w w') => at_yes A m c B b 18 2 w' (Nat.le_trans hB h.size) ((hb).below (h.mono hB)) hm (by omega) (by omega))
  have G4 := hide (fun (w' : World) (h : Below w.heap.size w w') => at_yes A m c B b 20 4 w' (Nat.le_trans hB h.size) ((hb).below (h.mono hB)) hm (by omega) (by omega))
  have G5 := hide (fun (w' : World) (h : Below w.heap.size w w') => at_yes A m c B b 54 2 w' (Nat.le_trans hB h.size) ((hb).below (h.mono hB)) hm (by omega) (by omega))
  have kc := fun (w : World) (C : Array Value) (n c : Nat) => Lib.run_convert_bytes_const (P := Try.prog) w 22 5 C n c Try.underlying22 Try.underlying5
  have hl16 : Wd.num b 16 2 < 65536 := Wd.num_lt b 16 2
  generalize Wd.num b 16 2 = n16 at *
  generalize Wd.num b 56 2 = n56 at *
  generalize Wd.num b 18 2 = n18 at *
  generalize Wd.num b 20 4 = n20 at *
  generalize Wd.num b 54 2 = n54 at *
  have Hb := hide hb
  clear hb hbl
  have i64 : (64 : Int) ≤ (m : Int) := by omega
  have H2 := hide h2
  clear h2
  have e162 : (((n16 : Nat) : Int) == 2) = false := by simp; omega
  have e163 : (((n16 : Nat) : Int) == 3) = true := by simp; omega
  have e1862 : (((n18 : Nat) : Int) == 62) = true := by simp; omega
  have e201 : (((n20 : Nat) : Int) == 1) = true := by simp; omega
  have e5456 : (((n54 : Nat) : Int) == 56) = true := by simp; omega
  have i7 : ¬ (0 : Int) < ((n56 : Nat) : Int) := by omega
  clear h3 h4 h5 h6 h7
  go_enter Try.func26, Try.ntmps26
  go_wp2_with (first
    | (go_at_call 45; refine (prefix_any _ _ _ _ _ _ _ b _ hmc (((unhide Hb).more hB).alloc (Nat.le_refl _) _) (magic_row _ _)).mono ?_; rintro e w0 ⟨rfl, rfl⟩; rw [unhide H2]; have HB := hide ((Below.refl w.heap.size w).alloc (Nat.le_refl _) (.cells #[.int .u8 127, .int .u8 69, .int .u8 76, .int .u8 70, .int .u8 2, .int .u8 1, .int .u8 1] 5 (7, 8))))
    | (go_at_call_of 27 (Value.int IntKind.u64 16); refine ((unhide G1) _ (unhide HB)).mono ?_; rintro e w1 ⟨rfl, hx⟩; replace HB := hide ((unhide HB).trans (hx.mono (unhide HB).size)); clear hx)
    | (go_at_call_of 27 (Value.int IntKind.u64 56); refine ((unhide G2) _ (unhide HB)).mono ?_; rintro e w1 ⟨rfl, hx⟩; replace HB := hide ((unhide HB).trans (hx.mono (unhide HB).size)); clear hx)
    | (go_at_call_of 27 (Value.int IntKind.u64 18); refine ((unhide G3) _ (unhide HB)).mono ?_; rintro e w1 ⟨rfl, hx⟩; replace HB := hide ((unhide HB).trans (hx.mono (unhide HB).size)); clear hx)
    | (go_at_call_of 27 (Value.int IntKind.u64 20); refine ((unhide G4) _ (unhide HB)).mono ?_; rintro e w1 ⟨rfl, hx⟩; replace HB := hide ((unhide HB).trans (hx.mono (unhide HB).size)); clear hx)
    | (go_at_call_of 27 (Value.int IntKind.u64 54); refine ((unhide G5) _ (unhide HB)).mono ?_; rintro e w1 ⟨rfl, hx⟩; replace HB := hide ((unhide HB).trans (hx.mono (unhide HB).size)); clear hx)
    | (go_at_call_of 28 (Value.bool true); refine (must_yes _ _).mono ?_; rintro e w1 ⟨rfl, rfl⟩)
    | (go_at_call_of 28 (Value.bool false); refine (must_no _ _).mono ?_; rintro e w1 ⟨rfl, rfl⟩))
  exact ⟨rfl, rfl, unhide HB⟩


set_option maxHeartbeats 1600000 in
theorem header_b83 (A : Option Addr) (m c : Nat) (B : Nat) (b : List UInt8) (w : World) (hB : B ≤ w.heap.size) (hb : Rd w B 1 A m (u8s b)) (hm : m ≤ maxLen) (hmc : m ≤ c) (h64 : 64 ≤ m) (h2 : Lib.hasPrefix b El.magic = true) (h3 : Wd.num b 16 2 = 3) (h4 : Wd.num b 18 2 = 62) (h5 : Wd.num b 20 4 = 1) (h6 : Wd.num b 54 2 = 56) (h7 : 0 < Wd.num b 56 2) (h8 : ¬ Wd.num b 56 2 ≤ 8) :
    Calls Try.prog 26 #[.slice A m c] w fun e w' => e = wrongs 13 ∧ Below w.heap.size w w' := by
  have hbl : b.length = m := by simpa using hb.len1
  have G1 := hide (fun (w' : World) (h : Below w.heap.size w w') => at_yes A m c B b 16 2 w' (Nat.le_trans hB h.size) ((hb).below (h.mono hB)) hm (by omega) (by omega))
  have G2 := hide (fun (w' : World) (h : Below w.heap.size w w') => at_yes A m c B b 56 2 w' (Nat.le_trans hB h.size) ((hb).below (h.mono hB)) hm (by omega) (by omega))
  have G3 := hide (fun (w' : World) (h : Below w.heap.size w w') => at_yes A m c B b 18 2 w' (Nat.le_trans hB h.size) ((hb).below (h.mono hB)) hm (by omega) (by omega))
  have G4 := hide (fun (w' : World) (h : Below w.heap.size w w') => at_yes A m c B b 20 4 w' (Nat.le_trans hB h.size) ((hb).below (h.mono hB)) hm (by omega) (by omega))
  have G5 := hide (fun (w' : World) (h : Below w.heap.size w w') => at_yes A m c B b 54 2 w' (Nat.le_trans hB h.size) ((hb).below (h.mono hB)) hm (by omega) (by omega))
  have kc := fun (w : World) (C : Array Value) (n c : Nat) => Lib.run_convert_bytes_const (P := Try.prog) w 22 5 C n c Try.underlying22 Try.underlying5
  have hl16 : Wd.num b 16 2 < 65536 := Wd.num_lt b 16 2
  generalize Wd.num b 16 2 = n16 at *
  generalize Wd.num b 56 2 = n56 at *
  generalize Wd.num b 18 2 = n18 at *
  generalize Wd.num b 20 4 = n20 at *
  generalize Wd.num b 54 2 = n54 at *
  have Hb := hide hb
  clear hb hbl
  have i64 : (64 : Int) ≤ (m : Int) := by omega
  have H2 := hide h2
  clear h2
  have e162 : (((n16 : Nat) : Int) == 2) = false := by simp; omega
  have e163 : (((n16 : Nat) : Int) == 3) = true := by simp; omega
  have e1862 : (((n18 : Nat) : Int) == 62) = true := by simp; omega
  have e201 : (((n20 : Nat) : Int) == 1) = true := by simp; omega
  have e5456 : (((n54 : Nat) : Int) == 56) = true := by simp; omega
  have i7 : (0 : Int) < ((n56 : Nat) : Int) := by omega
  have i8 : decide (((n56 : Nat) : Int) ≤ 8) = false := by simp; omega
  clear h3 h4 h5 h6 h7 h8
  go_enter Try.func26, Try.ntmps26
  go_wp2_with (first
    | (go_at_call 45; refine (prefix_any _ _ _ _ _ _ _ b _ hmc (((unhide Hb).more hB).alloc (Nat.le_refl _) _) (magic_row _ _)).mono ?_; rintro e w0 ⟨rfl, rfl⟩; rw [unhide H2]; have HB := hide ((Below.refl w.heap.size w).alloc (Nat.le_refl _) (.cells #[.int .u8 127, .int .u8 69, .int .u8 76, .int .u8 70, .int .u8 2, .int .u8 1, .int .u8 1] 5 (7, 8))))
    | (go_at_call_of 27 (Value.int IntKind.u64 16); refine ((unhide G1) _ (unhide HB)).mono ?_; rintro e w1 ⟨rfl, hx⟩; replace HB := hide ((unhide HB).trans (hx.mono (unhide HB).size)); clear hx)
    | (go_at_call_of 27 (Value.int IntKind.u64 56); refine ((unhide G2) _ (unhide HB)).mono ?_; rintro e w1 ⟨rfl, hx⟩; replace HB := hide ((unhide HB).trans (hx.mono (unhide HB).size)); clear hx)
    | (go_at_call_of 27 (Value.int IntKind.u64 18); refine ((unhide G3) _ (unhide HB)).mono ?_; rintro e w1 ⟨rfl, hx⟩; replace HB := hide ((unhide HB).trans (hx.mono (unhide HB).size)); clear hx)
    | (go_at_call_of 27 (Value.int IntKind.u64 20); refine ((unhide G4) _ (unhide HB)).mono ?_; rintro e w1 ⟨rfl, hx⟩; replace HB := hide ((unhide HB).trans (hx.mono (unhide HB).size)); clear hx)
    | (go_at_call_of 27 (Value.int IntKind.u64 54); refine ((unhide G5) _ (unhide HB)).mono ?_; rintro e w1 ⟨rfl, hx⟩; replace HB := hide ((unhide HB).trans (hx.mono (unhide HB).size)); clear hx)
    | (go_at_call_of 28 (Value.bool true); refine (must_yes _ _).mono ?_; rintro e w1 ⟨rfl, rfl⟩)
    | (go_at_call_of 28 (Value.bool false); refine (must_no _ _).mono ?_; rintro e w1 ⟨rfl, rfl⟩))
  exact ⟨rfl, rfl, unhide HB⟩


set_option maxHeartbeats 1600000 in
theorem header_b16 (A : Option Addr) (m c : Nat) (B : Nat) (b : List UInt8) (w : World) (hB : B ≤ w.heap.size) (hb : Rd w B 1 A m (u8s b)) (hm : m ≤ maxLen) (hmc : m ≤ c) (h64 : 64 ≤ m) (h2 : Lib.hasPrefix b El.magic = true) (h3 : Wd.num b 16 2 ≠ 2) (h3' : Wd.num b 16 2 ≠ 3) :
    Calls Try.prog 26 #[.slice A m c] w fun e w' => e = wrongs 13 ∧ Below w.heap.size w w' := by
  have hbl : b.length = m := by simpa using hb.len1
  have G1 := hide (fun (w' : World) (h : Below w.heap.size w w') => at_yes A m c B b 16 2 w' (Nat.le_trans hB h.size) ((hb).below (h.mono hB)) hm (by omega) (by omega))
  have G2 := hide (fun (w' : World) (h : Below w.heap.size w w') => at_yes A m c B b 56 2 w' (Nat.le_trans hB h.size) ((hb).below (h.mono hB)) hm (by omega) (by omega))
  have G3 := hide (fun (w' : World) (h : Below w.heap.size w w') => at_yes A m c B b 18 2 w' (Nat.le_trans hB h.size) ((hb).below (h.mono hB)) hm (by omega) (by omega))
  have G4 := hide (fun (w' : World) (h : Below w.heap.size w w') => at_yes A m c B b 20 4 w' (Nat.le_trans hB h.size) ((hb).below (h.mono hB)) hm (by omega) (by omega))
  have G5 := hide (fun (w' : World) (h : Below w.heap.size w w') => at_yes A m c B b 54 2 w' (Nat.le_trans hB h.size) ((hb).below (h.mono hB)) hm (by omega) (by omega))
  have kc := fun (w : World) (C : Array Value) (n c : Nat) => Lib.run_convert_bytes_const (P := Try.prog) w 22 5 C n c Try.underlying22 Try.underlying5
  have hl16 : Wd.num b 16 2 < 65536 := Wd.num_lt b 16 2
  generalize Wd.num b 16 2 = n16 at *
  generalize Wd.num b 56 2 = n56 at *
  generalize Wd.num b 18 2 = n18 at *
  generalize Wd.num b 20 4 = n20 at *
  generalize Wd.num b 54 2 = n54 at *
  have Hb := hide hb
  clear hb hbl
  have i64 : (64 : Int) ≤ (m : Int) := by omega
  have H2 := hide h2
  clear h2
  have e162 : (((n16 : Nat) : Int) == 2) = false := by simp; omega
  have e163 : (((n16 : Nat) : Int) == 3) = false := by simp; omega
  clear h3 h3'
  go_enter Try.func26, Try.ntmps26
  go_wp2_with (first
    | (go_at_call 45; refine (prefix_any _ _ _ _ _ _ _ b _ hmc (((unhide Hb).more hB).alloc (Nat.le_refl _) _) (magic_row _ _)).mono ?_; rintro e w0 ⟨rfl, rfl⟩; rw [unhide H2]; have HB := hide ((Below.refl w.heap.size w).alloc (Nat.le_refl _) (.cells #[.int .u8 127, .int .u8 69, .int .u8 76, .int .u8 70, .int .u8 2, .int .u8 1, .int .u8 1] 5 (7, 8))))
    | (go_at_call_of 27 (Value.int IntKind.u64 16); refine ((unhide G1) _ (unhide HB)).mono ?_; rintro e w1 ⟨rfl, hx⟩; replace HB := hide ((unhide HB).trans (hx.mono (unhide HB).size)); clear hx)
    | (go_at_call_of 27 (Value.int IntKind.u64 56); refine ((unhide G2) _ (unhide HB)).mono ?_; rintro e w1 ⟨rfl, hx⟩; replace HB := hide ((unhide HB).trans (hx.mono (unhide HB).size)); clear hx)
    | (go_at_call_of 27 (Value.int IntKind.u64 18); refine ((unhide G3) _ (unhide HB)).mono ?_; rintro e w1 ⟨rfl, hx⟩; replace HB := hide ((unhide HB).trans (hx.mono (unhide HB).size)); clear hx)
    | (go_at_call_of 27 (Value.int IntKind.u64 20); refine ((unhide G4) _ (unhide HB)).mono ?_; rintro e w1 ⟨rfl, hx⟩; replace HB := hide ((unhide HB).trans (hx.mono (unhide HB).size)); clear hx)
    | (go_at_call_of 27 (Value.int IntKind.u64 54); refine ((unhide G5) _ (unhide HB)).mono ?_; rintro e w1 ⟨rfl, hx⟩; replace HB := hide ((unhide HB).trans (hx.mono (unhide HB).size)); clear hx)
    | (go_at_call_of 28 (Value.bool true); refine (must_yes _ _).mono ?_; rintro e w1 ⟨rfl, rfl⟩)
    | (go_at_call_of 28 (Value.bool false); refine (must_no _ _).mono ?_; rintro e w1 ⟨rfl, rfl⟩))
  exact ⟨rfl, rfl, unhide HB⟩


set_option maxHeartbeats 1600000 in
theorem header_bp (A : Option Addr) (m c : Nat) (B : Nat) (b : List UInt8) (w : World) (hB : B ≤ w.heap.size) (hb : Rd w B 1 A m (u8s b)) (hm : m ≤ maxLen) (hmc : m ≤ c) (h64 : 64 ≤ m) (h2 : Lib.hasPrefix b El.magic = false) :
    Calls Try.prog 26 #[.slice A m c] w fun e w' => e = wrongs 13 ∧ Below w.heap.size w w' := by
  have hbl : b.length = m := by simpa using hb.len1
  have G1 := hide (fun (w' : World) (h : Below w.heap.size w w') => at_yes A m c B b 16 2 w' (Nat.le_trans hB h.size) ((hb).below (h.mono hB)) hm (by omega) (by omega))
  have G2 := hide (fun (w' : World) (h : Below w.heap.size w w') => at_yes A m c B b 56 2 w' (Nat.le_trans hB h.size) ((hb).below (h.mono hB)) hm (by omega) (by omega))
  have G3 := hide (fun (w' : World) (h : Below w.heap.size w w') => at_yes A m c B b 18 2 w' (Nat.le_trans hB h.size) ((hb).below (h.mono hB)) hm (by omega) (by omega))
  have G4 := hide (fun (w' : World) (h : Below w.heap.size w w') => at_yes A m c B b 20 4 w' (Nat.le_trans hB h.size) ((hb).below (h.mono hB)) hm (by omega) (by omega))
  have G5 := hide (fun (w' : World) (h : Below w.heap.size w w') => at_yes A m c B b 54 2 w' (Nat.le_trans hB h.size) ((hb).below (h.mono hB)) hm (by omega) (by omega))
  have kc := fun (w : World) (C : Array Value) (n c : Nat) => Lib.run_convert_bytes_const (P := Try.prog) w 22 5 C n c Try.underlying22 Try.underlying5
  have hl16 : Wd.num b 16 2 < 65536 := Wd.num_lt b 16 2
  generalize Wd.num b 16 2 = n16 at *
  generalize Wd.num b 56 2 = n56 at *
  generalize Wd.num b 18 2 = n18 at *
  generalize Wd.num b 20 4 = n20 at *
  generalize Wd.num b 54 2 = n54 at *
  have Hb := hide hb
  clear hb hbl
  have i64 : (64 : Int) ≤ (m : Int) := by omega
  have H2 := hide h2
  clear h2
  go_enter Try.func26, Try.ntmps26
  go_wp2_with (first
    | (go_at_call 45; refine (prefix_any _ _ _ _ _ _ _ b _ hmc (((unhide Hb).more hB).alloc (Nat.le_refl _) _) (magic_row _ _)).mono ?_; rintro e w0 ⟨rfl, rfl⟩; rw [unhide H2]; have HB := hide ((Below.refl w.heap.size w).alloc (Nat.le_refl _) (.cells #[.int .u8 127, .int .u8 69, .int .u8 76, .int .u8 70, .int .u8 2, .int .u8 1, .int .u8 1] 5 (7, 8))))
    | (go_at_call_of 27 (Value.int IntKind.u64 16); refine ((unhide G1) _ (unhide HB)).mono ?_; rintro e w1 ⟨rfl, hx⟩; replace HB := hide ((unhide HB).trans (hx.mono (unhide HB).size)); clear hx)
    | (go_at_call_of 27 (Value.int IntKind.u64 56); refine ((unhide G2) _ (unhide HB)).mono ?_; rintro e w1 ⟨rfl, hx⟩; replace HB := hide ((unhide HB).trans (hx.mono (unhide HB).size)); clear hx)
    | (go_at_call_of 27 (Value.int IntKind.u64 18); refine ((unhide G3) _ (unhide HB)).mono ?_; rintro e w1 ⟨rfl, hx⟩; replace HB := hide ((unhide HB).trans (hx.mono (unhide HB).size)); clear hx)
    | (go_at_call_of 27 (Value.int IntKind.u64 20); refine ((unhide G4) _ (unhide HB)).mono ?_; rintro e w1 ⟨rfl, hx⟩; replace HB := hide ((unhide HB).trans (hx.mono (unhide HB).size)); clear hx)
    | (go_at_call_of 27 (Value.int IntKind.u64 54); refine ((unhide G5) _ (unhide HB)).mono ?_; rintro e w1 ⟨rfl, hx⟩; replace HB := hide ((unhide HB).trans (hx.mono (unhide HB).size)); clear hx)
    | (go_at_call_of 28 (Value.bool true); refine (must_yes _ _).mono ?_; rintro e w1 ⟨rfl, rfl⟩)
    | (go_at_call_of 28 (Value.bool false); refine (must_no _ _).mono ?_; rintro e w1 ⟨rfl, rfl⟩))
  exact ⟨rfl, rfl, unhide HB⟩


theorem header_bs (A : Option Addr) (m c : Nat) (B : Nat) (b : List UInt8) (w : World) (hB : B ≤ w.heap.size) (hb : Rd w B 1 A m (u8s b)) (hm : m ≤ maxLen) (hmc : m ≤ c) (h64 : ¬ 64 ≤ m) :
    Calls Try.prog 26 #[.slice A m c] w fun e w' => e = wrongs 13 ∧ Below w.heap.size w w' := by
  have i64 : ¬ (64 : Int) ≤ (m : Int) := by omega
  unfold maxLen at hm
  go_enter Try.func26, Try.ntmps26
  go_wp2_with (go_at_call_of 28 (Value.bool false); refine (must_no _ _).mono ?_; rintro e w1 ⟨rfl, rfl⟩)
  exact ⟨rfl, rfl, Below.refl _ _⟩

theorem header_ok (A : Option Addr) (m c : Nat) (B : Nat) (b : List UInt8) (w : World) (hB : B ≤ w.heap.size) (hb : Rd w B 1 A m (u8s b)) (hm : m ≤ maxLen) (hmc : m ≤ c) (h : El.hdrOk b = true) :
    Calls Try.prog 26 #[.slice A m c] w fun e w' => e = .returned (.int .u64 (Wd.num b 56 2)) ∧ Below w.heap.size w w' := by
  have hbl : b.length = m := by simpa using hb.len1
  unfold El.hdrOk at h
  simp only [Bool.and_eq_true, Bool.or_eq_true, beq_iff_eq, decide_eq_true_eq] at h
  obtain ⟨⟨⟨⟨h1, h2⟩, h3⟩, ⟨h4, h5⟩, h6⟩, h7, h8⟩ := h
  rcases h3 with h3 | h3
  · exact header_ok2 A m c B b w hB hb hm hmc (by omega) h2 h3 h4 h5 h6 h7 h8
  · exact header_ok3 A m c B b w hB hb hm hmc (by omega) h2 h3 h4 h5 h6 h7 h8

theorem header_bad (A : Option Addr) (m c : Nat) (B : Nat) (b : List UInt8) (w : World) (hB : B ≤ w.heap.size) (hb : Rd w B 1 A m (u8s b)) (hm : m ≤ maxLen) (hmc : m ≤ c) (h : El.hdrOk b = false) :
    Calls Try.prog 26 #[.slice A m c] w fun e w' => e = wrongs 13 ∧ Below w.heap.size w w' := by
  have hbl : b.length = m := by simpa using hb.len1
  by_cases h1 : 64 ≤ m
  · by_cases h2 : Lib.hasPrefix b El.magic = true
    · by_cases h3 : Wd.num b 16 2 = 2 ∨ Wd.num b 16 2 = 3
      · by_cases h4 : Wd.num b 18 2 = 62
        · by_cases h5 : Wd.num b 20 4 = 1
          · by_cases h6 : Wd.num b 54 2 = 56
            · by_cases h7 : 0 < Wd.num b 56 2
              · by_cases h8 : Wd.num b 56 2 ≤ 8
                · exfalso
                  have : El.hdrOk b = true := by
                    unfold El.hdrOk
                    simp only [Bool.and_eq_true, Bool.or_eq_true, beq_iff_eq, decide_eq_true_eq]
                    exact ⟨⟨⟨⟨by omega, h2⟩, h3⟩, ⟨h4, h5⟩, h6⟩, h7, h8⟩
                  rw [this] at h
                  cases h
                · rcases h3 with h3 | h3
                  · exact header_b82 A m c B b w hB hb hm hmc h1 h2 h3 h4 h5 h6 h7 h8
                  · exact header_b83 A m c B b w hB hb hm hmc h1 h2 h3 h4 h5 h6 h7 h8
              · rcases h3 with h3 | h3
                · exact header_b02 A m c B b w hB hb hm hmc h1 h2 h3 h4 h5 h6 h7
                · exact header_b03 A m c B b w hB hb hm hmc h1 h2 h3 h4 h5 h6 h7
            · rcases h3 with h3 | h3
              · exact header_b542 A m c B b w hB hb hm hmc h1 h2 h3 h4 h5 h6
              · exact header_b543 A m c B b w hB hb hm hmc h1 h2 h3 h4 h5 h6
          · rcases h3 with h3 | h3
            · exact header_b202 A m c B b w hB hb hm hmc h1 h2 h3 h4 h5
            · exact header_b203 A m c B b w hB hb hm hmc h1 h2 h3 h4 h5
        · rcases h3 with h3 | h3
          · exact header_b182 A m c B b w hB hb hm hmc h1 h2 h3 h4
          · exact header_b183 A m c B b w hB hb hm hmc h1 h2 h3 h4
      · rw [not_or] at h3
        exact header_b16 A m c B b w hB hb hm hmc h1 h2 h3.1 h3.2
    · exact header_bp A m c B b w hB hb hm hmc h1 (by simpa using h2)
  · exact header_bs A m c B b w hB hb hm hmc h1

end Go.Proofs.Ytkonolmakpeocaa
