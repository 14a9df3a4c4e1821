/- The walk of hostelref25.Form; printed by gen_form2.py. Conditions: as calls'. -/
import Derived.Test.YtphbkjdheopmhaaForm1
namespace Go.Proofs.Ytphbkjdheopmhaa
set_option linter.unusedVariables false
set_option linter.unusedSimpArgs false
open Go.RowKit

/-- The letter of a field. -/
def letter : Nat → UInt8
  | 0 => 65
  | 1 => 66
  | 2 => 67
  | 3 => 68
  | 4 => 69
  | 5 => 80
  | 6 => 86
  | 7 => 87
  | _ => 88
theorem flL_fsN {k : Nat} (hk : k ≤ 12) : flL k = (Cl.fsN k).map letter := by
  obtain h | h | h | h | h | h | h | h | h | h | h | h | h : k = 0 ∨ k = 1 ∨ k = 2 ∨ k = 3 ∨ k = 4 ∨ k = 5 ∨ k = 6 ∨ k = 7 ∨ k = 8 ∨ k = 9 ∨ k = 10 ∨ k = 11 ∨ k = 12 := by omega
  all_goals
    subst h
    rfl
theorem flT_size' {k : Nat} (hk : k ≤ 12) : (flT k).size = (Cl.fsN k).length := by
  show (flL k).toArray.size = _
  rw [flL_fsN hk]
  simp
theorem flT_at {k j f : Nat} (hk : k ≤ 12) (h : (Cl.fsN k)[j]? = some f) (hj : j < (flT k).size) : (flT k)[j] = letter f := by
  have h1 : (flL k)[j]? = some (letter f) := by rw [flL_fsN hk]; simp [h]
  have h2 : (flL k)[j]'(hj) = letter f := (List.getElem?_eq_some_iff.1 h1).2
  rw [← h2]
  rfl

theorem rForm_bad (q : Cl.C) (x y z : Sl) (B : Nat) (w : World) (hq : ClOk w B q x y z) (hB : B ≤ w.heap.size) (hf : ClFit q) (hp : q.path.size ≤ 4294967296) (hc : Cl.check q ≠ 0) :
    Calls Try.prog 17 #[.agg (clCells q x y z)] w fun e w' => e = .returned (.tuple #[.slice none 0 0, .int .i64 (Cl.check q)]) ∧ Below w.heap.size w w' := by
  have K := hide (rcallCheck_any q x y z B (w.alloc (.cells (clCells q x y z) 26)) (hq.alloc hB _) (by simp; omega) hf hp)
  have hc2 : (Cl.check q != 0) = true := by simpa using hc
  clear hq hf hc
  generalize Cl.check q = r at *
  go_enter Try.func17, Try.ntmps17
  go_wp2_with fail
  refine (unhide K).mono ?_
  rintro e w1 ⟨rfl, hb1⟩
  have Hb1 := hide (below_new hb1)
  clear hb1 K
  go_wp2_with fail
  go_ret2
  exact ⟨rfl, unhide Hb1⟩

set_option maxRecDepth 100000 in
set_option maxHeartbeats 8000000 in
theorem rForm_good (q : Cl.C) (x y z : Sl) (B : Nat) (w : World) (hq : ClOk w B q x y z) (hB : B ≤ w.heap.size) (hf : ClFit q) (hc : Cl.check q = 0) :
    Calls Try.prog 17 #[.agg (clCells q x y z)] w fun e w' => ∃ A' c', e = .returned (.tuple #[.slice A' (Cl.form q).length c', .int .i64 0]) ∧ w'.ownsRow w.heap.size 5 1 (.slice A' (Cl.form q).length c') (Cl.form q).length (bys (Cl.form q)) ∧ Below w.heap.size w w' := by
  have K := rcallCheck_any q x y z B (w.alloc (.cells (clCells q x y z) 26)) (hq.alloc hB _) (by simp; omega) hf (by have := (Cl.check_small hc).p; omega)
  rw [hc] at K
  replace K := hide K
  have hs := Cl.check_small hc
  have hk1 := hs.k1
  have hk2 := hs.k2
  have hkb := Cl.kind_byte hs
  have Hkb := hide hkb
  have Hs := hide hs
  have Hq := hide hq
  have Hf := hide hf
  have K0 := hide (fun w => rfields_any q.kind w (by omega))
  clear hq hf hc hs hkb
  go_enter Try.func17, Try.ntmps17
  go_wp2_with fail
  refine (unhide K).mono ?_
  rintro e w1 ⟨rfl, hb1⟩
  have hbx1 := newblk hb1
  have hb1' := below_new hb1
  have Hb1 := hide hb1'
  have hsz1 := lt_of_block hbx1
  obtain ⟨v0, v1, v2, v3, v4, v5, v6, v7, v8, v9⟩ := box10 hbx1
  have Hq1 := hide ((unhide Hq).below (hb1'.mono hB))
  have Hbx1 := hide hbx1
  have hv0 : (w1.alloc (.cells #[.int .u8 q.kind] 5)).cell? ⟨w.heap.size, 0, none⟩ = some (.int .u8 q.kind) := (World.cell?_alloc_lt _ _ _ hsz1).trans v0
  clear hb1 hb1' hbx1 Hq K v1 v2 v3 v4 v5 v6 v7 v8 v9
  go_wp2_with fail
  refine ((unhide K0) _).mono ?_
  rintro e w2 ⟨rfl, hb2⟩
  have hown := own_one w1 (UInt8.ofNat q.kind)
  rw [unhide Hkb] at hown
  have hbW : Below w1.heap.size w1 (w1.alloc (.cells #[.int .u8 q.kind] 5)) := (Below.refl _ _).alloc (Nat.le_refl _) _
  have hszW : (w1.alloc (.cells #[.int .u8 q.kind] 5)).heap.size = w1.heap.size + 1 := by simp
  generalize hgW : w1.alloc (.cells #[.int .u8 q.kind] 5) = W at *
  clear hgW v0 hv0 K0
  have hs2 := hb2.size
  have hlow : w1.heap.size < w2.heap.size := by omega
  have hg0 : Grew w2 w2 w1.heap.size (.slice (some ⟨w1.heap.size, 0, none⟩) 1 1) (.slice (some ⟨w1.heap.size, 0, none⟩) 1 1) 1 [UInt8.ofNat q.kind] := ⟨own_below hown hb2, World.grownBy.refl _ _, fun k hk => .inl hk⟩
  have Hg0 := hide hg0
  have Hbx2 := hide ((hb2.block _ (by omega)).trans ((hbW.block _ hsz1).trans (unhide Hbx1)))
  have Hq2 := hide (((unhide Hq1).below (hbW.mono (by omega))).below (hb2.mono (by omega)))
  have Hbw2 := hide (((unhide Hb1).trans (hbW.mono (by omega))).trans (hb2.mono (by omega)))
  clear hg0 hb2 Hq1 Hb1 hbW hown Hbx1 hszW hs2
  have hfl := flT_size' hk2
  have hfn := fsN_len q.kind
  have hat := fun j f h hj => flT_at (k := q.kind) (j := j) (f := f) hk2 h hj
  generalize flT q.kind = s at *
  have Hat := hide hat
  have Hn := hide hfl.symm
  rw [← hfl] at hfn
  clear hat hfl
  go_wp2_with fail
  go_loopg [5, 7] s.size (fun gk b i wr => ∃ (k : Nat) (Ak : Option Addr) (ck : Nat), gk = s.size - k ∧ k ≤ s.size ∧ i = .int .i64 k ∧ b = .slice Ak (1 + (Cl.flds q ((Cl.fsN q.kind).take k)).length) ck ∧ Grew w2 wr w1.heap.size (.slice (some ⟨w1.heap.size, 0, none⟩) 1 1) (.slice Ak (1 + (Cl.flds q ((Cl.fsN q.kind).take k)).length) ck) (1 + (Cl.flds q ((Cl.fsN q.kind).take k)).length) ([UInt8.ofNat q.kind] ++ Cl.flds q ((Cl.fsN q.kind).take k)))
  case atStart => exact ⟨0, some ⟨w1.heap.size, 0, none⟩, 1, by omega, by omega, rfl, by simp [Cl.flds], by simpa [Cl.flds] using unhide Hg0⟩
  case round =>
  clear Hg0
  obtain ⟨k, Ak, ck, hgk, hk, rfl, rfl, hg⟩ := hrel
  have Hgk := hide hgk
  have Hg := hide hg
  have hbg : Below B w2 wr := hg.below (by omega) (fun j hj => by simp [Value.ownBlock] at hj; omega)
  have hbg2 : Below w1.heap.size w2 wr := hg.below (by omega) (fun j hj => by simp [Value.ownBlock] at hj; omega)
  have Hq3 := hide ((unhide Hq2).below hbg)
  have Hbw3 := hide ((unhide Hbw2).trans (hbg2.mono (by omega)))
  have hbx3 := hg.blk (g := w.heap.size) (by omega) (by simp [Value.ownBlock]; omega) (unhide Hbx2)
  obtain ⟨v0, v1, v2, v3, v4, v5, v6, v7, v8, v9⟩ := box10 hbx3
  have hszr := hg.kept.size
  have hfk := flds_len (unhide Hs) ((Cl.fsN q.kind).take k)
  have htk : ((Cl.fsN q.kind).take k).length ≤ k := by simp; omega
  have hsmall : (Cl.flds q ((Cl.fsN q.kind).take k)).length ≤ 50000 := by omega
  clear hgk hbg hbg2 hfk htk hbx3
  rcases Nat.lt_or_ge k s.size with hlt | hge
  case inr =>
    obtain rfl : k = s.size := by omega
    have e : (Cl.fsN q.kind).take s.size = Cl.fsN q.kind := List.take_of_length_le (by have := unhide Hn; omega)
    have ef : (Cl.form q).length = 1 + (Cl.flds q (Cl.fsN q.kind)).length := by simp [Cl.form]; omega
    have eg : Cl.form q = [UInt8.ofNat q.kind] ++ Cl.flds q (Cl.fsN q.kind) := rfl
    rw [e] at hg ⊢
    have Ho := hide (own_base hg.own (show w.heap.size ≤ w1.heap.size by omega))
    have Hef := hide ef
    have Heg := hide eg
    clear e hg Hg ef eg v0 v1 v2 v3 v4 v5 v6 v7 v8 v9 hsmall
    go_wp2
    go_ret2
    rw [unhide Hef]
    refine ⟨Ak, ck, rfl, ?_, unhide Hbw3⟩
    rw [unhide Heg]
    exact unhide Ho
  obtain ⟨f, hfk⟩ : ∃ f, (Cl.fsN q.kind)[k]? = some f := ⟨_, List.getElem?_eq_getElem (by rw [unhide Hn]; exact hlt)⟩
  have hf9 : f < 9 := (Cl.fsN_ok q.kind).1 f (List.mem_of_getElem? hfk)
  have hch : s[k] = letter f := (unhide Hat) k f hfk hlt
  have hsn := flds_snoc (q := q) hfk
  have Hsn := hide hsn
  clear hg hfk hsn
  have hown := (unhide Hg).own
  generalize hL : (Cl.flds q ((Cl.fsN q.kind).take k)).length = L at *
  have HL := hide hL
  clear hL
  obtain rfl | rfl | rfl | rfl | rfl | rfl | rfl | rfl | rfl : f = 0 ∨ f = 1 ∨ f = 2 ∨ f = 3 ∨ f = 4 ∨ f = 5 ∨ f = 6 ∨ f = 7 ∨ f = 8 := by omega
  · have t65 : (((s[k].toNat : Nat) : Int) == 65) = true := by rw [hch]; rfl
    have hnm : q.a < 18446744073709551616 := (unhide Hf).a
    have K1 := hide (rnumber_any 8 q.a wr (by omega) hnm)
    have Hown := hide hown
    clear v0 v2 v3 v4 v5 v6 v7 v8 v9 hown hnm hch
    go_wp2_with fail
    refine (unhide K1).mono ?_
    rintro e w3 ⟨A2, c2, rfl, ho2, hb2⟩
    have Hr2 := hide (Rd.of_own ho2)
    have Hb2 := hide hb2
    have Ho2 := hide (own_below (unhide Hown) hb2)
    have hsz3 : w1.heap.size ≤ w3.heap.size := by have := hb2.size; omega
    clear ho2 hb2 K1 Hown v1
    go_wp2_with (at_builtin; refine wpList_app byteTy rfl _ _ rfl w1.heap.size _ (1 + L) (bys ([UInt8.ofNat q.kind] ++ Cl.flds q ((Cl.fsN q.kind).take k))) rfl (unhide Ho2) w3.heap.size A2 8 c2 (bys (Cl.lb q.a 8)) rfl (unhide Hr2) (bys_one _) (by omega) hsz3 ?_; intro A3 c3 w4 ho3 hg3 hat3; rw [← bys_app] at ho3; have Hg3 := hide ((unhide Hg).trans (Grew.after (unhide Hb2) ⟨ho3, hg3, hat3⟩)); clear ho3 hg3 hat3)
    clear Hg Hr2 Hb2 Ho2
    go_roundg (s.size - (k + 1))
    case measure => have := unhide Hgk; omega
    case rel => exact ⟨k + 1, A3, c3, rfl, by omega, by go_num, by rw [unhide Hsn, List.length_append, unhide HL, ← Nat.add_assoc]; rfl, by rw [unhide Hsn, List.length_append, unhide HL, ← Nat.add_assoc, ← List.append_assoc]; exact unhide Hg3⟩
  · have t65 : (((s[k].toNat : Nat) : Int) == 65) = false := by rw [hch]; rfl
    have t66 : (((s[k].toNat : Nat) : Int) == 66) = true := by rw [hch]; rfl
    have hnm : q.b < 18446744073709551616 := (unhide Hf).b
    have K1 := hide (rnumber_any 8 q.b wr (by omega) hnm)
    have Hown := hide hown
    clear v0 v1 v3 v4 v5 v6 v7 v8 v9 hown hnm hch
    go_wp2_with fail
    refine (unhide K1).mono ?_
    rintro e w3 ⟨A2, c2, rfl, ho2, hb2⟩
    have Hr2 := hide (Rd.of_own ho2)
    have Hb2 := hide hb2
    have Ho2 := hide (own_below (unhide Hown) hb2)
    have hsz3 : w1.heap.size ≤ w3.heap.size := by have := hb2.size; omega
    clear ho2 hb2 K1 Hown v2
    go_wp2_with (at_builtin; refine wpList_app byteTy rfl _ _ rfl w1.heap.size _ (1 + L) (bys ([UInt8.ofNat q.kind] ++ Cl.flds q ((Cl.fsN q.kind).take k))) rfl (unhide Ho2) w3.heap.size A2 8 c2 (bys (Cl.lb q.b 8)) rfl (unhide Hr2) (bys_one _) (by omega) hsz3 ?_; intro A3 c3 w4 ho3 hg3 hat3; rw [← bys_app] at ho3; have Hg3 := hide ((unhide Hg).trans (Grew.after (unhide Hb2) ⟨ho3, hg3, hat3⟩)); clear ho3 hg3 hat3)
    clear Hg Hr2 Hb2 Ho2
    go_roundg (s.size - (k + 1))
    case measure => have := unhide Hgk; omega
    case rel => exact ⟨k + 1, A3, c3, rfl, by omega, by go_num, by rw [unhide Hsn, List.length_append, unhide HL, ← Nat.add_assoc]; rfl, by rw [unhide Hsn, List.length_append, unhide HL, ← Nat.add_assoc, ← List.append_assoc]; exact unhide Hg3⟩
  · have t65 : (((s[k].toNat : Nat) : Int) == 65) = false := by rw [hch]; rfl
    have t66 : (((s[k].toNat : Nat) : Int) == 66) = false := by rw [hch]; rfl
    have t67 : (((s[k].toNat : Nat) : Int) == 67) = true := by rw [hch]; rfl
    have hnm : q.c < 18446744073709551616 := (unhide Hf).c
    have K1 := hide (rnumber_any 8 q.c wr (by omega) hnm)
    have Hown := hide hown
    clear v0 v1 v2 v4 v5 v6 v7 v8 v9 hown hnm hch
    go_wp2_with fail
    refine (unhide K1).mono ?_
    rintro e w3 ⟨A2, c2, rfl, ho2, hb2⟩
    have Hr2 := hide (Rd.of_own ho2)
    have Hb2 := hide hb2
    have Ho2 := hide (own_below (unhide Hown) hb2)
    have hsz3 : w1.heap.size ≤ w3.heap.size := by have := hb2.size; omega
    clear ho2 hb2 K1 Hown v3
    go_wp2_with (at_builtin; refine wpList_app byteTy rfl _ _ rfl w1.heap.size _ (1 + L) (bys ([UInt8.ofNat q.kind] ++ Cl.flds q ((Cl.fsN q.kind).take k))) rfl (unhide Ho2) w3.heap.size A2 8 c2 (bys (Cl.lb q.c 8)) rfl (unhide Hr2) (bys_one _) (by omega) hsz3 ?_; intro A3 c3 w4 ho3 hg3 hat3; rw [← bys_app] at ho3; have Hg3 := hide ((unhide Hg).trans (Grew.after (unhide Hb2) ⟨ho3, hg3, hat3⟩)); clear ho3 hg3 hat3)
    clear Hg Hr2 Hb2 Ho2
    go_roundg (s.size - (k + 1))
    case measure => have := unhide Hgk; omega
    case rel => exact ⟨k + 1, A3, c3, rfl, by omega, by go_num, by rw [unhide Hsn, List.length_append, unhide HL, ← Nat.add_assoc]; rfl, by rw [unhide Hsn, List.length_append, unhide HL, ← Nat.add_assoc, ← List.append_assoc]; exact unhide Hg3⟩
  · have t65 : (((s[k].toNat : Nat) : Int) == 65) = false := by rw [hch]; rfl
    have t66 : (((s[k].toNat : Nat) : Int) == 66) = false := by rw [hch]; rfl
    have t67 : (((s[k].toNat : Nat) : Int) == 67) = false := by rw [hch]; rfl
    have t68 : (((s[k].toNat : Nat) : Int) == 68) = true := by rw [hch]; rfl
    have hnm : q.d < 18446744073709551616 := (unhide Hf).d
    have K1 := hide (rnumber_any 8 q.d wr (by omega) hnm)
    have Hown := hide hown
    clear v0 v1 v2 v3 v5 v6 v7 v8 v9 hown hnm hch
    go_wp2_with fail
    refine (unhide K1).mono ?_
    rintro e w3 ⟨A2, c2, rfl, ho2, hb2⟩
    have Hr2 := hide (Rd.of_own ho2)
    have Hb2 := hide hb2
    have Ho2 := hide (own_below (unhide Hown) hb2)
    have hsz3 : w1.heap.size ≤ w3.heap.size := by have := hb2.size; omega
    clear ho2 hb2 K1 Hown v4
    go_wp2_with (at_builtin; refine wpList_app byteTy rfl _ _ rfl w1.heap.size _ (1 + L) (bys ([UInt8.ofNat q.kind] ++ Cl.flds q ((Cl.fsN q.kind).take k))) rfl (unhide Ho2) w3.heap.size A2 8 c2 (bys (Cl.lb q.d 8)) rfl (unhide Hr2) (bys_one _) (by omega) hsz3 ?_; intro A3 c3 w4 ho3 hg3 hat3; rw [← bys_app] at ho3; have Hg3 := hide ((unhide Hg).trans (Grew.after (unhide Hb2) ⟨ho3, hg3, hat3⟩)); clear ho3 hg3 hat3)
    clear Hg Hr2 Hb2 Ho2
    go_roundg (s.size - (k + 1))
    case measure => have := unhide Hgk; omega
    case rel => exact ⟨k + 1, A3, c3, rfl, by omega, by go_num, by rw [unhide Hsn, List.length_append, unhide HL, ← Nat.add_assoc]; rfl, by rw [unhide Hsn, List.length_append, unhide HL, ← Nat.add_assoc, ← List.append_assoc]; exact unhide Hg3⟩
  · have t65 : (((s[k].toNat : Nat) : Int) == 65) = false := by rw [hch]; rfl
    have t66 : (((s[k].toNat : Nat) : Int) == 66) = false := by rw [hch]; rfl
    have t67 : (((s[k].toNat : Nat) : Int) == 67) = false := by rw [hch]; rfl
    have t68 : (((s[k].toNat : Nat) : Int) == 68) = false := by rw [hch]; rfl
    have t69 : (((s[k].toNat : Nat) : Int) == 69) = true := by rw [hch]; rfl
    have hnm : q.e < 18446744073709551616 := (unhide Hf).e
    have K1 := hide (rnumber_any 8 q.e wr (by omega) hnm)
    have Hown := hide hown
    clear v0 v1 v2 v3 v4 v6 v7 v8 v9 hown hnm hch
    go_wp2_with fail
    refine (unhide K1).mono ?_
    rintro e w3 ⟨A2, c2, rfl, ho2, hb2⟩
    have Hr2 := hide (Rd.of_own ho2)
    have Hb2 := hide hb2
    have Ho2 := hide (own_below (unhide Hown) hb2)
    have hsz3 : w1.heap.size ≤ w3.heap.size := by have := hb2.size; omega
    clear ho2 hb2 K1 Hown v5
    go_wp2_with (at_builtin; refine wpList_app byteTy rfl _ _ rfl w1.heap.size _ (1 + L) (bys ([UInt8.ofNat q.kind] ++ Cl.flds q ((Cl.fsN q.kind).take k))) rfl (unhide Ho2) w3.heap.size A2 8 c2 (bys (Cl.lb q.e 8)) rfl (unhide Hr2) (bys_one _) (by omega) hsz3 ?_; intro A3 c3 w4 ho3 hg3 hat3; rw [← bys_app] at ho3; have Hg3 := hide ((unhide Hg).trans (Grew.after (unhide Hb2) ⟨ho3, hg3, hat3⟩)); clear ho3 hg3 hat3)
    clear Hg Hr2 Hb2 Ho2
    go_roundg (s.size - (k + 1))
    case measure => have := unhide Hgk; omega
    case rel => exact ⟨k + 1, A3, c3, rfl, by omega, by go_num, by rw [unhide Hsn, List.length_append, unhide HL, ← Nat.add_assoc]; rfl, by rw [unhide Hsn, List.length_append, unhide HL, ← Nat.add_assoc, ← List.append_assoc]; exact unhide Hg3⟩
  · have t65 : (((s[k].toNat : Nat) : Int) == 65) = false := by rw [hch]; rfl
    have t66 : (((s[k].toNat : Nat) : Int) == 66) = false := by rw [hch]; rfl
    have t67 : (((s[k].toNat : Nat) : Int) == 67) = false := by rw [hch]; rfl
    have t68 : (((s[k].toNat : Nat) : Int) == 68) = false := by rw [hch]; rfl
    have t69 : (((s[k].toNat : Nat) : Int) == 69) = false := by rw [hch]; rfl
    have t80 : (((s[k].toNat : Nat) : Int) == 80) = true := by rw [hch]; rfl
    have K2 := hide (rtext_any Ak (1 + L) ck w1.heap.size _ q.path wr hown (by omega) (by omega) (by have := (unhide Hs).p; omega))
    clear v0 v1 v2 v3 v4 v5 v7 v8 v9 hown hsmall hch
    go_wp2_with fail
    refine (unhide K2).mono ?_
    rintro e w3 ⟨A3, c3, rfl, hg3⟩
    have Hg3 := hide ((unhide Hg).trans hg3)
    clear hg3 K2 Hg v6
    go_wp2_with fail
    go_roundg (s.size - (k + 1))
    case measure => have := unhide Hgk; omega
    case rel => exact ⟨k + 1, A3, c3, rfl, by omega, by go_num, by rw [unhide Hsn, List.length_append, unhide HL, ← Nat.add_assoc]; rfl, by rw [unhide Hsn, List.length_append, unhide HL, ← Nat.add_assoc, ← List.append_assoc]; exact unhide Hg3⟩
  · have t65 : (((s[k].toNat : Nat) : Int) == 65) = false := by rw [hch]; rfl
    have t66 : (((s[k].toNat : Nat) : Int) == 66) = false := by rw [hch]; rfl
    have t67 : (((s[k].toNat : Nat) : Int) == 67) = false := by rw [hch]; rfl
    have t68 : (((s[k].toNat : Nat) : Int) == 68) = false := by rw [hch]; rfl
    have t69 : (((s[k].toNat : Nat) : Int) == 69) = false := by rw [hch]; rfl
    have t80 : (((s[k].toNat : Nat) : Int) == 80) = false := by rw [hch]; rfl
    have t86 : (((s[k].toNat : Nat) : Int) == 86) = true := by rw [hch]; rfl
    have hs := unhide Hs
    have h1 := hs.a1
    have h2 := (unhide Hq3).n1
    have K2 := hide (rlist_any Ak (1 + L) ck w1.heap.size _ x.A x.n x.c B q.argv wr hown (by omega) (by omega) (unhide Hq3).r1 (by omega) (by omega) (fun t ht => by have := hs.a2 t ht; omega) (by have := txts_small h1 hs.a2; omega))
    clear hs h1 h2
    clear v0 v1 v2 v3 v4 v5 v6 v8 v9 hown hsmall hch
    go_wp2_with fail
    refine (unhide K2).mono ?_
    rintro e w3 ⟨A3, c3, rfl, hg3⟩
    have Hg3 := hide ((unhide Hg).trans hg3)
    clear hg3 K2 Hg v7
    go_wp2_with fail
    go_roundg (s.size - (k + 1))
    case measure => have := unhide Hgk; omega
    case rel => exact ⟨k + 1, A3, c3, rfl, by omega, by go_num, by rw [unhide Hsn, List.length_append, unhide HL, ← Nat.add_assoc]; rfl, by rw [unhide Hsn, List.length_append, unhide HL, ← Nat.add_assoc, ← List.append_assoc]; exact unhide Hg3⟩
  · have t65 : (((s[k].toNat : Nat) : Int) == 65) = false := by rw [hch]; rfl
    have t66 : (((s[k].toNat : Nat) : Int) == 66) = false := by rw [hch]; rfl
    have t67 : (((s[k].toNat : Nat) : Int) == 67) = false := by rw [hch]; rfl
    have t68 : (((s[k].toNat : Nat) : Int) == 68) = false := by rw [hch]; rfl
    have t69 : (((s[k].toNat : Nat) : Int) == 69) = false := by rw [hch]; rfl
    have t80 : (((s[k].toNat : Nat) : Int) == 80) = false := by rw [hch]; rfl
    have t86 : (((s[k].toNat : Nat) : Int) == 86) = false := by rw [hch]; rfl
    have t87 : (((s[k].toNat : Nat) : Int) == 87) = true := by rw [hch]; rfl
    have hs := unhide Hs
    have h1 := hs.e1
    have h2 := (unhide Hq3).n2
    have K2 := hide (rlist_any Ak (1 + L) ck w1.heap.size _ y.A y.n y.c B q.env wr hown (by omega) (by omega) (unhide Hq3).r2 (by omega) (by omega) (fun t ht => by have := hs.e2 t ht; omega) (by have := txts_small h1 hs.e2; omega))
    clear hs h1 h2
    clear v0 v1 v2 v3 v4 v5 v6 v7 v9 hown hsmall hch
    go_wp2_with fail
    refine (unhide K2).mono ?_
    rintro e w3 ⟨A3, c3, rfl, hg3⟩
    have Hg3 := hide ((unhide Hg).trans hg3)
    clear hg3 K2 Hg v8
    go_wp2_with fail
    go_roundg (s.size - (k + 1))
    case measure => have := unhide Hgk; omega
    case rel => exact ⟨k + 1, A3, c3, rfl, by omega, by go_num, by rw [unhide Hsn, List.length_append, unhide HL, ← Nat.add_assoc]; rfl, by rw [unhide Hsn, List.length_append, unhide HL, ← Nat.add_assoc, ← List.append_assoc]; exact unhide Hg3⟩
  · have t65 : (((s[k].toNat : Nat) : Int) == 65) = false := by rw [hch]; rfl
    have t66 : (((s[k].toNat : Nat) : Int) == 66) = false := by rw [hch]; rfl
    have t67 : (((s[k].toNat : Nat) : Int) == 67) = false := by rw [hch]; rfl
    have t68 : (((s[k].toNat : Nat) : Int) == 68) = false := by rw [hch]; rfl
    have t69 : (((s[k].toNat : Nat) : Int) == 69) = false := by rw [hch]; rfl
    have t80 : (((s[k].toNat : Nat) : Int) == 80) = false := by rw [hch]; rfl
    have t86 : (((s[k].toNat : Nat) : Int) == 86) = false := by rw [hch]; rfl
    have t87 : (((s[k].toNat : Nat) : Int) == 87) = false := by rw [hch]; rfl
    have t88 : (((s[k].toNat : Nat) : Int) == 88) = true := by rw [hch]; rfl
    have hs := unhide Hs
    have h1 := hs.b
    have K2 := hide (rtext_any Ak (1 + L) ck w1.heap.size _ (Cl.ba q.bytes) wr hown (by omega) (by omega) (by rw [Cl.ba_size]; omega))
    have hcv : (convert 24 9 (.slice z.A z.n z.c)).run Try.prog wr = .ok (.string (Cl.ba q.bytes)) wr := conv_any (unhide Hq3).r3 Try.underlying24 Try.underlying5 Try.underlying9
    clear hs h1
    clear v0 v1 v2 v3 v4 v5 v6 v7 v8 hown hsmall hch
    go_wp2_with fail
    refine (unhide K2).mono ?_
    rintro e w3 ⟨A3, c3, rfl, hg3⟩
    have Hg3 := hide ((unhide Hg).trans hg3)
    clear hg3 K2 Hg v9 hcv
    go_wp2_with fail
    go_roundg (s.size - (k + 1))
    case measure => have := unhide Hgk; omega
    case rel => exact ⟨k + 1, A3, c3, rfl, by omega, by go_num, by rw [unhide Hsn, List.length_append, unhide HL, ← Nat.add_assoc]; rfl, by rw [unhide Hsn, List.length_append, unhide HL, ← Nat.add_assoc, ← List.append_assoc]; exact unhide Hg3⟩
end Go.Proofs.Ytphbkjdheopmhaa
