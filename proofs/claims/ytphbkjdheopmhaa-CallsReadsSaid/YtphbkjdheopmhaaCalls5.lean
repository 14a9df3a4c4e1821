/- The walks of hostelref25.fields and has. No conditions. -/
import Derived.Test.YtphbkjdheopmhaaCalls4
namespace Go.Proofs.Ytphbkjdheopmhaa
set_option linter.unusedVariables false
set_option linter.unusedSimpArgs false
open Go.RowKit

/-- The letters of a kind's fields. -/
def flL : Nat → List UInt8
  | 1 => [80, 86, 87]
  | 3 => [65]
  | 5 => [65, 66, 67, 68, 69]
  | 6 => [65, 66]
  | 7 => [65, 66, 67]
  | 8 => [65, 66]
  | 9 => [65, 88]
  | 10 => [80, 65]
  | 11 => [65]
  | 12 => [65, 66]
  | _ => []
def flT (k : Nat) : ByteArray := ⟨(flL k).toArray⟩
theorem flT_size (k : Nat) : (flT k).size ≤ 5 := by
  show (flL k).toArray.size ≤ 5
  unfold flL
  split <;> simp

set_option maxRecDepth 20000 in
set_option maxHeartbeats 2000000 in
theorem rfields_in (k : Nat) (w : World) (hk : k < 13) : Calls Try.prog 45 #[.int .u8 k] w fun e w' => e = .returned (.string (flT k)) ∧ Below w.heap.size w w' := by
  obtain rfl | rfl | rfl | rfl | rfl | rfl | rfl | rfl | rfl | rfl | rfl | rfl | rfl : k = 0 ∨ k = 1 ∨ k = 2 ∨ k = 3 ∨ k = 4 ∨ k = 5 ∨ k = 6 ∨ k = 7 ∨ k = 8 ∨ k = 9 ∨ k = 10 ∨ k = 11 ∨ k = 12 := by omega
  all_goals
    clear hk
    go_enter Try.func45, Try.ntmps45
    go_wp2_with fail
    go_ret
    exact ⟨rfl, (Below.refl _ _).alloc (Nat.le_refl _) _⟩
theorem rfields_out (k : Nat) (w : World) (hk : k < 256) (h13 : 13 ≤ k) : Calls Try.prog 45 #[.int .u8 k] w fun e w' => e = .returned (.string (flT k)) ∧ Below w.heap.size w w' := by
  have ht : flT k = ⟨#[]⟩ := by
    unfold flT flL
    split <;> first | rfl | omega
  rw [ht]
  go_enter Try.func45, Try.ntmps45
  go_wp2_with fail
  go_ret
  exact ⟨rfl, (Below.refl _ _).alloc (Nat.le_refl _) _⟩
theorem rfields_any (k : Nat) (w : World) (hk : k < 256) : Calls Try.prog 45 #[.int .u8 k] w fun e w' => e = .returned (.string (flT k)) ∧ Below w.heap.size w w' := by
  rcases Nat.lt_or_ge k 13 with h | h
  · exact rfields_in k w h
  · exact rfields_out k w hk h

def hasB (k : Nat) (c : UInt8) : Bool := (flL k).contains c
theorem byteEq25 (x y : UInt8) : (((x.toNat : Nat) : Int) == ((y.toNat : Nat) : Int)) = (x == y) := by
  rw [Bool.eq_iff_iff, beq_iff_eq, beq_iff_eq, ← UInt8.toNat_inj]
  omega
set_option maxHeartbeats 1000000 in
theorem rhas25_any (kd : Nat) (ch : UInt8) (w : World) (hkd : kd < 256) : Calls Try.prog 64 #[.int .u8 kd, .int .u8 (ch.toNat : Nat)] w fun e w' => e = .returned (.bool (hasB kd ch)) ∧ Below w.heap.size w w' := by
  have hs := flT_size kd
  have Kf := hide (rfields_any kd w hkd)
  obtain ⟨r, hr⟩ : ∃ r, hasB kd ch = r := ⟨_, rfl⟩
  rw [hr]
  have hr' : (flT kd).data.toList.contains ch = r := by rw [← hr]; unfold hasB flT; simp
  have Hr := hide hr'
  clear hr hr'
  generalize flT kd = s at *
  go_enter Try.func64, Try.ntmps64
  go_wp2_with fail
  refine (unhide Kf).mono ?_
  rintro e w1 ⟨rfl, hb1⟩
  have Hb1 := hide hb1
  clear hb1
  go_wp2_with fail
  go_loopg [6] s.size (fun gk i wr => ∃ k : Nat, gk = s.size - k ∧ k ≤ s.size ∧ i = .int .i64 k ∧ (s.data.toList.take k).contains ch = false ∧ w1 = wr)
  case atStart => exact ⟨0, by omega, by omega, rfl, by simp, rfl⟩
  case round =>
    obtain ⟨k, hgk, hk, rfl, hz, rfl⟩ := hrel
    have Hz := hide hz
    have Hgk := hide hgk
    clear hz hgk
    by_cases hlt : k < s.size
    · by_cases hc : s[k] = ch
      · have b2 : (((s[k].toNat : Nat) : Int) == ((ch.toNat : Nat) : Int)) = true := by rw [byteEq25]; simpa using hc
        have hm : s.data.toList.contains ch = true := by
          rw [List.contains_iff_mem, ← hc]
          exact Array.getElem_mem_toList _
        rw [unhide Hr] at hm
        subst hm
        clear hc
        go_wp2
        go_ret
        exact ⟨rfl, unhide Hb1⟩
      · have b2 : (((s[k].toNat : Nat) : Int) == ((ch.toNat : Nat) : Int)) = false := by rw [byteEq25]; simpa using hc
        have hz : (s.data.toList.take (k + 1)).contains ch = false := by
          rw [List.take_succ_eq_append_getElem (by simpa using hlt), List.contains_append, unhide Hz]
          simp only [Bool.false_or]
          exact by simpa using fun h => hc h.symm
        have Hz2 := hide hz
        clear hz hc
        go_wp2
        go_roundg (s.size - (k + 1))
        case measure => have := unhide Hgk; omega
        case rel => exact ⟨k + 1, rfl, by omega, by go_num, unhide Hz2, rfl⟩
    · have hz : s.data.toList.contains ch = false := by
        have := unhide Hz
        rwa [List.take_of_length_le (by simp; omega)] at this
      rw [unhide Hr] at hz
      subst hz
      go_wp2
      go_ret
      exact ⟨rfl, unhide Hb1⟩
end Go.Proofs.Ytphbkjdheopmhaa
