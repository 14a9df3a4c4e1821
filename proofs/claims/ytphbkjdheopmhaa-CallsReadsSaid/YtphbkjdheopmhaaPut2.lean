/- The walks of words.Set, put, putText, putList and of their references. Conditions: there are fewer than 2^32 bytes. -/
import Derived.Test.YtphbkjdheopmhaaPut1
namespace Go.Proofs.Ytphbkjdheopmhaa
set_option linter.unusedVariables false
set_option linter.unusedSimpArgs false
open Go.RowKit

set_option maxRecDepth 100000 in
set_option maxHeartbeats 1000000 in
theorem set_yes (g0 : Nat) (m c B : Nat) (b : List UInt8) (p s x : Nat) (w : World) (hB : B ≤ w.heap.size) (hb : Rd w B 1 (some ⟨g0, 0, none⟩) m (bys b)) (hm : m ≤ 4294967296) (hs : s = 1 ∨ s = 2 ∨ s = 4 ∨ s = 8) (h : p + s ≤ m) (hx : x < 18446744073709551616) :
    Calls Try.prog 67 #[.slice (some ⟨g0, 0, none⟩) m c, .int .u64 p, .int .i64 s, .int .u64 x] w fun e w' => ∃ A' c', e = .returned (.tuple #[.slice A' m c', .int .i64 0]) ∧ w'.ownsRow w.heap.size 5 1 (.slice A' m c') m (bys (setK b p x s)) ∧ Below w.heap.size w w' := by
  have hbl : b.length = m := by simpa [bys] using hb.len1
  have hs8 : s ≤ 8 := by omega
  have hs0 : 0 < s := by omega
  have Hck := hide (check_yes (some ⟨g0, 0, none⟩) m c p s w (by unfold maxLen; omega) (by omega) (by omega) (by omega) (by omega))
  have Hb := hide hb
  have Hbl := hide hbl
  clear hbl hb hs
  go_enter Try.func67, Try.ntmps67
  go_wp2_with (first
    | (go_at_call 75; refine (unhide Hck).mono ?_; rintro e w1 ⟨rfl, hb1⟩; have Hb1 := hide hb1; clear hb1)
    | (go_at_call 76; refine (clone_any _ m c B b _ (Nat.le_trans hB (unhide Hb1).size) ((unhide Hb).below ((unhide Hb1).mono hB)) hm (by simp)).mono ?_; rintro e w2 ⟨A', c', rfl, hown, hb2⟩; obtain ⟨g, rfl, hg1, hg2⟩ := own_some hown (by omega); have Hown := hide (own_base hown (unhide Hb1).size); have Hb2 := hide ((unhide Hb1).trans (hb2.mono (unhide Hb1).size)); have hg3 := (unhide Hb1).size; clear hown hb2))
  go_loopg [23] s (fun gk i wr => ∃ k : Nat, gk = s - k ∧ k ≤ s ∧ i = .int .i64 k ∧ wr.ownsRow w.heap.size 5 1 (.slice (some ⟨g, 0, none⟩) m c') m (bys (setK b p x k)) ∧ Below w.heap.size w wr)
  case atStart => exact ⟨0, by omega, by omega, rfl, unhide Hown, unhide Hb2⟩
  case round =>
  clear Hown Hb2
  obtain ⟨k, hgk, hk, rfl, hown, hb2⟩ := hrel
  have Hgk := hide hgk
  have Hown := hide hown
  have Hb2 := hide hb2
  clear hown hb2 hgk
  rcases Nat.lt_or_ge k s with hlt | hge
  case inr =>
    obtain rfl : k = s := by omega
    go_wp2
    go_ret2
    exact ⟨_, _, rfl, unhide Hown, unhide Hb2⟩
  obtain ⟨z, hz⟩ : ∃ z, (setK b p x k)[p + k]? = some z := ⟨_, List.getElem?_eq_getElem (by rw [setK_len, unhide Hbl]; omega)⟩
  have hset := own_set (i := p + k) (unhide Hown) (.int .u8 (UInt8.ofNat (x / 256 ^ k % 256)).toNat)
  rw [bys_set] at hset
  have hc2 := own_cell (unhide Hown) (bys_at hz)
  have hf2 := own_free (unhide Hown) (p + k)
  obtain ⟨hg3, hg4, hg5⟩ := own_at (unhide Hown)
  have hy3 : (UInt8.ofNat (x / 256 ^ k % 256)).toNat = x / 256 ^ k % 256 := by simp
  rw [show (setK b p x k).set (p + k) (UInt8.ofNat (x / 256 ^ k % 256)) = setK b p x (k + 1) from rfl, hy3] at hset
  have Hset := hide hset
  clear hset hy3 hz
  go_wp2
  go_roundg (s - (k + 1))
  case measure => have := unhide Hgk; omega
  case rel =>
    refine ⟨k + 1, rfl, by omega, by go_num, ?_, (unhide Hb2).setCell hg3 _⟩
    have e : ((x : Int) / 2 ^ (8 * k) % 256) = ((x / 256 ^ k % 256 : Nat) : Int) := by
      have h2 : (256 : Nat) ^ k = 2 ^ (8 * k) := by rw [Nat.pow_mul]
      rw [h2]
      push_cast
      rfl
    rw [e]
    exact unhide Hset
end Go.Proofs.Ytphbkjdheopmhaa
