/- The plain mathematics of words: numbers of bytes, sums below 2^64, pages. No program in sight. No conditions. -/
import Derived.Laws.BitsAllLaws
import Derived.Laws.Entries
namespace Go.Proofs.Ytphbkjdheopmhaa.Wd
set_option linter.unusedVariables false
set_option linter.unusedSimpArgs false

/-- The greatest uint64. -/
def top : Int := 18446744073709551615
theorem top_def : top = 18446744073709551615 := rfl

theorem xor_top (b : Int) (h0 : 0 ≤ b) (h1 : b ≤ 18446744073709551615) : bits .xor .u64 IntKind.u64.max b = 18446744073709551615 - b := by
  obtain ⟨n, rfl⟩ := Int.eq_ofNat_of_zero_le h0
  have e : IntKind.u64.max = ((18446744073709551615 : Nat) : Int) := rfl
  rw [e, u64_xor_nat _ _ (by omega) (by omega)]
  have h2 : n < 2 ^ 64 := by omega
  have h3 : (18446744073709551615 : Nat) ^^^ n = 2 ^ 64 - 1 - n := by
    have h4 := BitVec.toNat_not (x := BitVec.ofNat 64 n)
    rw [← BitVec.xor_allOnes, BitVec.toNat_xor, BitVec.toNat_ofNat, BitVec.toNat_allOnes, Nat.mod_eq_of_lt h2, Nat.xor_comm] at h4
    exact h4
  rw [h3]
  omega

theorem andNot_page (a : Int) (h0 : 0 ≤ a) (h1 : a ≤ 18446744073709551615) : bits .andNot .u64 a 4095 = a - a % 4096 := by
  obtain ⟨n, rfl⟩ := Int.eq_ofNat_of_zero_le h0
  have e : (4095 : Int) = ((4095 : Nat) : Int) := rfl
  rw [e, u64_andNot_nat _ _ (by omega) (by omega)]
  have h2 : n < 2 ^ 64 := by omega
  have h3 : n &&& (18446744073709551615 - 4095) = n - n % 4096 := by
    have h5 : (18446744073709551615 - 4095 : Nat) ^^^ 4095 = 2 ^ 64 - 1 := by decide
    have h6 : n &&& (2 ^ 64 - 1) = n := by rw [Nat.and_two_pow_sub_one_eq_mod]; exact Nat.mod_eq_of_lt h2
    have h7 : n &&& 4095 = n % 4096 := Nat.and_two_pow_sub_one_eq_mod n 12
    have h8 : (n &&& (18446744073709551615 - 4095)) + (n &&& 4095) = n := by
      have h9 : (n &&& (18446744073709551615 - 4095)) ||| (n &&& 4095) = n := by
        rw [← Nat.and_or_distrib_left]
        have : (18446744073709551615 - 4095 : Nat) ||| 4095 = 2 ^ 64 - 1 := by decide
        rw [this, h6]
      have h10 : (n &&& (18446744073709551615 - 4095)) ||| (n &&& 4095) = (n &&& (18446744073709551615 - 4095)) + (n &&& 4095) := by
        refine nat_join 12 _ _ ?_ ?_
        · have e2 : (18446744073709551615 - 4095 : Nat) = (2 ^ 52 - 1) <<< 12 := by decide
          rw [e2, ← Nat.and_two_pow_sub_one_eq_mod, Nat.and_assoc]
          have : ((2 ^ 52 - 1 : Nat) <<< 12) &&& (2 ^ 12 - 1) = 0 := by decide
          rw [this, Nat.and_zero]
        · rw [h7]
          exact Nat.mod_lt _ (by decide)
      omega
    omega
  rw [h3]
  omega

/-- Numbers of bytes, the lowest first. -/
def le : List UInt8 → Nat
  | [] => 0
  | c :: r => c.toNat + 256 * le r
def num (b : List UInt8) (p n : Nat) : Nat := le ((b.drop p).take n)

theorem le_snoc (l : List UInt8) (c : UInt8) : le (l ++ [c]) = le l + 256 ^ l.length * c.toNat := by
  induction l with
  | nil => simp [le]
  | cons a r ih =>
    simp only [List.cons_append, le, ih, List.length_cons, Nat.pow_succ, Nat.mul_add]
    rw [Nat.add_assoc, ← Nat.mul_assoc, Nat.mul_comm 256 (256 ^ r.length)]
theorem le_lt (l : List UInt8) : le l < 256 ^ l.length := by
  induction l with
  | nil => simp [le]
  | cons a r ih =>
    have := a.toNat_lt
    simp only [le, List.length_cons, Nat.pow_succ]
    omega
theorem num_zero (b : List UInt8) (p : Nat) : num b p 0 = 0 := by simp [num, le]
theorem num_succ (b : List UInt8) (p n : Nat) (c : UInt8) (h : b[p + n]? = some c) : num b p (n + 1) = num b p n + 256 ^ n * c.toNat := by
  unfold num
  have hl : p + n < b.length := by
    rcases Nat.lt_or_ge (p + n) b.length with h1 | h1
    · exact h1
    · rw [List.getElem?_eq_none h1] at h; cases h
  rw [List.take_add_one, List.getElem?_drop, h]
  simp only [Option.toList_some]
  rw [le_snoc, List.length_take, List.length_drop, Nat.min_eq_left (by omega)]
theorem num_lt (b : List UInt8) (p n : Nat) : num b p n < 256 ^ n := by
  unfold num
  refine Nat.lt_of_lt_of_le (le_lt _) (Nat.pow_le_pow_right (by omega) (List.length_take_le _ _))
theorem or_step (x c i : Nat) (h : x < 256 ^ i) : x ||| (c * 2 ^ (8 * i)) = x + 256 ^ i * c := by
  have e : 2 ^ (8 * i) = 256 ^ i := by rw [Nat.pow_mul]
  rw [Nat.or_comm, e, nat_join (8 * i) (c * 256 ^ i) x (by rw [e]; exact Nat.mul_mod_left _ _) (by rw [e]; exact h)]
  rw [Nat.mul_comm, Nat.add_comm]

def memB (v : Int) (xs : List Int) : Bool := decide (v ∈ xs)
def sizedB (n : Int) : Bool := memB n [1, 2, 4, 8]
theorem sizedB_yes {n : Int} (h : n = 1 ∨ n = 2 ∨ n = 4 ∨ n = 8) : sizedB n = true := by simpa [sizedB, memB] using h

theorem or_val (N x k : Nat) (h : N < 256 ^ k) (hx : x < 256) (hk : k < 8) :
    bits .or .u64 (N : Int) (IntKind.u64.wrap (IntKind.u64.wrap (x : Int) * 2 ^ (8 * k))) = ((N + 256 ^ k * x : Nat) : Int) := by
  have e1 : IntKind.u64.wrap (x : Int) = (x : Int) := by rw [IntKind.wrap_u64]; omega
  have hle : 2 ^ (8 * k) ≤ 2 ^ 56 := Nat.pow_le_pow_right (by omega) (by omega)
  have hp : x * 2 ^ (8 * k) < 18446744073709551616 := by
    have h1 : x * 2 ^ (8 * k) ≤ 255 * 2 ^ 56 := Nat.mul_le_mul (by omega) hle
    omega
  have e2 : ((x : Int) * 2 ^ (8 * k)) = ((x * 2 ^ (8 * k) : Nat) : Int) := by push_cast; rfl
  have e3 : IntKind.u64.wrap ((x * 2 ^ (8 * k) : Nat) : Int) = ((x * 2 ^ (8 * k) : Nat) : Int) := by rw [IntKind.wrap_u64]; omega
  have hN : N < 18446744073709551616 := by
    have h1 : (256 : Nat) ^ k ≤ 256 ^ 8 := Nat.pow_le_pow_right (by omega) (by omega)
    omega
  rw [e1, e2, e3, u64_or_nat _ _ hN hp, or_step N x k h]

end Go.Proofs.Ytphbkjdheopmhaa.Wd
