/- The walk of hostelref25.Read where there is no call. Conditions: there are fewer than 2^32 bytes. -/
import Derived.Test.YtphbkjdheopmhaaRRd2
import Derived.Test.YtphbkjdheopmhaaRead2
import Derived.Test.YtphbkjdheopmhaaForm2
import Derived.Test.YtphbkjdheopmhaaHeld2
namespace Go.Proofs.Ytphbkjdheopmhaa
set_option linter.unusedVariables false
set_option linter.unusedSimpArgs false
open Go.RowKit

set_option maxRecDepth 100000 in
set_option maxHeartbeats 1000000 in
theorem rRead_nil (A : Option Addr) (c : Nat) (w : World) :
    Calls Try.prog 22 #[.slice A 0 c] w (ReadEnd (Cl.zeroC, 0, 24) w) := by
  have hb0 := Blk.new w 26 zeroL
  have HB := hide hb0
  have hci := callInfo
  clear hb0
  go_enter Try.func22, Try.ntmps22
  go_wp2
  refine bodyPost_ret (results_cell_tmp2 (P := Try.prog) rfl _ _ w.heap.size 26 zeroL.toArray (0, 0) _ rfl (unhide HB) Try.underlying26 rfl callInfo) rfl ?_
  exact ⟨slN, slN, slN, rfl, (ClOwn.zero _ _ 0), (Below.refl _ _).alloc (Nat.le_refl _) _⟩

set_option maxRecDepth 100000 in
set_option maxHeartbeats 4000000 in
theorem rRead_kind (A : Option Addr) (m c B : Nat) (k : UInt8) (l : List UInt8) (w : World) (hb : Rd w B 1 A m (bys (k :: l))) (hB : B ≤ w.heap.size) (hm : m ≤ 4294967296) (hk : k.toNat = 0 ∨ 12 < k.toNat) :
    Calls Try.prog 22 #[.slice A m c] w (ReadEnd (Cl.zeroC, 0, 23) w) := by
  have hml : m = l.length + 1 := by simpa [bys] using hb.len1.symm
  obtain ⟨ab, ao, rfl, hlt, c0⟩ := hb.at_ (k := 0) (u := .int .u8 k.toNat) (by simp [bys])
  rw [Nat.add_zero] at c0
  have hb0 := Blk.new w 26 zeroL
  have hc1 := (World.cell?_alloc_lt w (.cells zeroL.toArray 26) ⟨ab, ao, none⟩ (by show ab < _; omega)).trans c0
  have HB0 := hide hb0
  have hmz : ((m : Int) == 0) = false := beq_eq_false_iff_ne.2 (by omega)
  have Hml := hide hml
  have hm1 : 1 ≤ m := by omega
  have hci := callInfo
  clear hb0 hb c0 hml
  go_enter Try.func22, Try.ntmps22
  rcases hk with hk | hk
  all_goals
    go_wp2_with fail
    refine bodyPost_ret (results_cell_tmp2 (P := Try.prog) rfl _ _ w.heap.size 26 zeroL.toArray (0, 0) _ rfl ((unhide HB0).alloc _) Try.underlying26 rfl callInfo) rfl ?_
    exact ⟨slN, slN, slN, rfl, (ClOwn.zero _ _ 0), ((Below.refl _ _).alloc (Nat.le_refl _) _).alloc (by simp) _⟩
end Go.Proofs.Ytphbkjdheopmhaa
