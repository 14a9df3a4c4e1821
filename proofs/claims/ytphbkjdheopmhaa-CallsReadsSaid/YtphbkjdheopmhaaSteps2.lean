/- The walks of calls.Steps and hostelref25.Steps; printed by gen_steps.py. Conditions: there are fewer than 2^32 bytes. -/
import Derived.Test.YtphbkjdheopmhaaSteps1
namespace Go.Proofs.Ytphbkjdheopmhaa
set_option linter.unusedVariables false
set_option linter.unusedSimpArgs false
open Go.RowKit

theorem rd_none {w : World} {B n : Nat} {A A' : Option Addr} {xs : List Value} (h : Rd w B 1 A n xs) (h0 : n = 0) : Rd w B 1 A' n xs := ⟨h.1, .inl (List.eq_nil_of_length_eq_zero (by have := h.len1; omega))⟩

set_option maxRecDepth 100000 in
set_option maxHeartbeats 8000000 in
theorem steps_any (A : Option Addr) (m c B : Nat) (b : List UInt8) (w : World) (hb : Rd w B 1 A m (bys b)) (hB : B ≤ w.heap.size) (hm : m ≤ 4294967296) (hmc : m ≤ c) :
    Calls Try.prog 24 #[.slice A m c] w (StepsEnd (Cl.steps b) w) := by
  have hbl : b.length = m := by simpa [bys] using hb.len1
  obtain ⟨res, hres⟩ : ∃ res, Cl.steps b = res := ⟨_, rfl⟩
  rw [hres]
  unfold Cl.steps at hres
  have Hres := hide hres
  have Hbl := hide hbl
  have Hb := hide hb
  clear hres hbl hb
  go_enter Try.func24, Try.ntmps24
  go_wp2_with fail
  go_loopg [2, 4] m (fun gk lv av wr => ∃ (t : Nat) (L : List SEl) (Ak : Option Addr) (ck : Nat), gk = m - t ∧ t ≤ m ∧ L.length ≤ t ∧ av = .int .i64 t ∧ lv = .slice Ak L.length ck ∧ SRow wr w.heap.size Ak ck L ∧ Below w.heap.size w wr ∧ Cl.stepsF b.length (b.drop t) t (L.map sPair) = res)
  case atStart => exact ⟨0, [], none, 0, by omega, by omega, Nat.le_refl _, rfl, rfl, SRow.nil _ _, Below.refl _ _, by simpa using unhide Hres⟩
  case round =>
  clear Hres
  obtain ⟨t, L, Ak, ck, hgk, ht, hLt, rfl, rfl, hrow, hbr, hst⟩ := hrel
  have Hgk := hide hgk
  have Hrow := hide hrow
  have Hbr := hide hbr
  have Hst := hide hst
  have hsz := hbr.size
  clear hgk hrow hbr hst
  rcases Nat.lt_or_ge t m with hlt | hge
  case inr =>
    obtain rfl : t = m := by omega
    have hr := unhide Hst
    rw [List.drop_eq_nil_of_le (by rw [unhide Hbl]; exact Nat.le_refl _), Cl.stepsF_nil] at hr
    subst hr
    go_wp2_with fail
    go_ret3
    exact ⟨L, Ak, ck, rfl, rfl, unhide Hrow, unhide Hbr⟩
  obtain ⟨p, hp⟩ : ∃ p, b[t]? = some p := ⟨_, List.getElem?_eq_getElem (by rw [unhide Hbl]; exact hlt)⟩
  obtain ⟨ab, ao, rfl, hab, hcp⟩ := ((unhide Hb).below ((unhide Hbr).mono hB)).at_ (k := t) (u := .int .u8 p.toNat) (bys_at hp)
  have hdr : b.drop t = p :: b.drop (t + 1) := by
    rw [List.drop_eq_getElem_cons (by rw [unhide Hbl]; exact hlt), (List.getElem?_eq_some_iff.1 hp).2]
  have hr := unhide Hst
  rw [hdr, Cl.stepsF_cons _ _ _ _ _ (by rw [List.length_drop, unhide Hbl]; omega)] at hr
  have hrd := ((unhide Hb).below ((unhide Hbr).mono hB)).from (k := t + 1) (by omega)
  have hrl := Cl.read_len (b.drop (t + 1))
  rw [List.length_drop, unhide Hbl] at hrl
  have K := hide (fun (o' c' : Nat) (h : Rd wr B 1 (some ⟨ab, o', none⟩) (m - (t + 1)) (bys (b.drop (t + 1)))) (hc : m - (t + 1) ≤ c') => callRead_any (some ⟨ab, o', none⟩) (m - (t + 1)) c' B (b.drop (t + 1)) wr h (by omega) (by omega) hc)
  have hdd : ∀ j, (b.drop (t + 1)).drop j = b.drop (t + 1 + j) := fun j => by rw [List.drop_drop]
  simp only [hdd] at hr
  generalize Cl.read (b.drop (t + 1)) = rd at *
  obtain ⟨q, n, ev⟩ := rd
  simp only at hr hrl
  have Hr := hide hr
  have Hrd := hide hrd
  have hp8 := p.toNat_lt
  clear hr hrd hdr hp hdd Hst
  go_wp2_with fail
  all_goals
    first
      | with_reducible refine ((unhide K) (ao + (t + 1)) (c - (t + 1)) (unhide Hrd) (by omega)).mono ?_
      | with_reducible refine ((unhide K) ao 0 (rd_none (unhide Hrd) (by omega)) (by omega)).mono ?_
    intro e w4 hend
    obtain ⟨x, y, z, rfl, hfr, hb4⟩ := readEnd_R hend
    have hrow4 := (unhide Hrow).below hb4
    have hb4' := (unhide Hbr).trans (hb4.mono hsz)
    have hsz4 := hb4.size
    have hcb : (w4.alloc (.cells (clCells q x y z) 26)).heap[w4.heap.size]? = some (.cells (clCells q x y z) 26 (0, 0)) := heap_alloc_new _ _
    have hbw : Below w4.heap.size w4 (w4.alloc (.cells (clCells q x y z) 26)) := (Below.refl _ _).alloc (Nat.le_refl _) _
    have Hrow5 := hide (hrow4.below hbw)
    have Hb5 := hide (hb4'.trans (hbw.mono (by omega)))
    have hfrow : ∀ k, (Value.slice Ak L.length ck).ownBlock = some k → k < wr.heap.size := fun k hk => ((unhide Hrow).own.lt k hk).2
    have Hcf := hide ((hfr.f hfrow).below hbw)
    have Hcb := hide hcb
    have hcp4 := (hbw.cell (p := ⟨ab, ao + t, none⟩) (by show ab < _; omega)).trans ((hb4.cell (p := ⟨ab, ao + t, none⟩) (by show ab < _; omega)).trans hcp)
    have Hcp := hide hcp4
    have hsz5 : wr.heap.size ≤ (w4.alloc (.cells (clCells q x y z) 26)).heap.size := by simp; omega
    have Hfrow := hide hfrow
    clear hcp hcp4 hcb hfr hb4 hrow4 hb4' hbw K hfrow Hrow Hrd
    by_cases hev : ev = 0
    case neg =>
      have hr := unhide Hr
      rw [if_neg hev] at hr
      subst hr
      have he1 : (ev != 0) = true := by simpa using hev
      have Hend := hide (unhide Hb5)
      clear hev Hr Hcp Hcb Hcf Hrow5 Hb5
      go_wp2_with fail
      go_ret3
      exact ⟨[], none, 0, rfl, rfl, SRow.nil _ _, unhide Hend⟩
    subst hev
    have hr := unhide Hr
    rw [if_pos rfl] at hr
    replace Hr := hide hr
    clear hr
    go_wp2_with fail
    generalize hgW : w4.alloc (.cells (clCells q x y z) 26) = W at *
    have hltW : w4.heap.size < W.heap.size := lt_of_block (unhide Hcb)
    clear hgW
    have HS0 := hide (show W.drew.cell? ⟨ab, ao + t, none⟩ = some (.int .u8 (p.toNat : Nat)) ∧ W.drew.heap[w4.heap.size]? = some (.cells (clCells q x y z) 26 (0, 0)) from ⟨unhide Hcp, unhide Hcb⟩)
    refine wp_region_held_drew (S := fun w' => w'.cell? ⟨ab, ao + t, none⟩ = some (.int .u8 (p.toNat : Nat)) ∧ w'.heap[w4.heap.size]? = some (.cells (clCells q x y z) 26 (0, 0))) (by kernel_rfl) (unhide HS0) (fun hHeld => ?_)
    clear hHeld
    refine takeD (i := 0) (d := some 25) (v := .slice Ak L.length ck) rfl rfl (by kernel_rfl) (by kernel_rfl) (by kernel_rfl) (fun _ _ _ h => h) (yields_move (by rfl) (.tmp 2) rfl _ rfl) (unhide HS0) ?_
    simp only [Act.put, List.setIfInBounds_toArray, List.set_cons_zero, List.set_cons_succ]
    refine takeD (i := 1) (d := some 26) (v := .slice (some ⟨ab, ao, none⟩) m _) rfl rfl (by kernel_rfl) (by kernel_rfl) (by kernel_rfl) (fun _ _ _ h => h) (yields_move (by rfl) (.tmp 0) rfl _ rfl) (unhide HS0) ?_
    simp only [Act.put, List.setIfInBounds_toArray, List.set_cons_zero, List.set_cons_succ]
    refine takeD (i := 2) (d := some 27) (v := .int .i64 (t : Nat)) rfl rfl (by kernel_rfl) (by kernel_rfl) (by kernel_rfl) (fun _ _ _ h => h) (yields_move (by rfl) (.tmp 4) rfl _ rfl) (unhide HS0) ?_
    simp only [Act.put, List.setIfInBounds_toArray, List.set_cons_zero, List.set_cons_succ]
    refine takeD (i := 3) (d := some 28) (v := .pointer (some ⟨ab, ao + t, none⟩)) rfl rfl (by kernel_rfl) (by kernel_rfl) (by kernel_rfl) (fun _ _ _ h => h) (yields_idx (by rfl) (.tmp 26) (.tmp 27) rfl ab ao m _ t rfl rfl (by omega) hlt) (unhide HS0) ?_
    simp only [Act.put, List.setIfInBounds_toArray, List.set_cons_zero, List.set_cons_succ]
    refine takeD (i := 4) (d := some 29) (v := .int .u8 (p.toNat : Nat)) rfl rfl (by kernel_rfl) (by kernel_rfl) (by kernel_rfl) (fun _ _ _ h => h) (yieldsS_u8 (by rfl) (.tmp 28) rfl ab (ao + t) rfl _ (fun w' h => h.1)) (unhide HS0) ?_
    simp only [Act.put, List.setIfInBounds_toArray, List.set_cons_zero, List.set_cons_succ]
    refine takeD (i := 5) (d := some 30) (v := .int .i64 (p.toNat : Nat)) rfl rfl (by kernel_rfl) (by kernel_rfl) (by kernel_rfl) (fun _ _ _ h => h) (yields_conv (by rfl) (.tmp 29) rfl p.toNat rfl hp8) (unhide HS0) ?_
    simp only [Act.put, List.setIfInBounds_toArray, List.set_cons_zero, List.set_cons_succ]
    refine takeD (i := 6) (d := some 31) (v := .agg (clCells q x y z)) rfl rfl (by kernel_rfl) (by kernel_rfl) (by kernel_rfl) (fun _ _ _ h => h) (yieldsS_load (by rfl) 26 (.tmp 5) rfl w4.heap.size rfl 26 _ (0, 0) _ (fun w' h => h.2) Try.underlying26 rfl callInfo) (unhide HS0) ?_
    simp only [Act.put, List.setIfInBounds_toArray, List.set_cons_zero, List.set_cons_succ]
    refine takeD (i := 7) (d := some 32) (v := .agg (.int .i64 (p.toNat : Nat) :: clL q x y z).toArray) rfl rfl (by kernel_rfl) (by kernel_rfl) (by kernel_rfl) (fun _ _ _ h => h) (yields_step (by rfl) (.tmp 30) (.tmp 31) rfl (p.toNat : Nat) q x y z rfl rfl) (unhide HS0) ?_
    simp only [Act.put, List.setIfInBounds_toArray, List.set_cons_zero, List.set_cons_succ]
    refine stepD (i := 8) (d := some 33) rfl rfl (by kernel_rfl) (by rfl) (fun K hK => ?_)
    refine wp_sliceStep (.tmp 32) rfl (p.toNat : Nat) q x y z rfl (hK _ _ ?_ ?_)
    · exact ⟨(World.cell?_alloc_lt _ _ _ (by show ab < W.heap.size; omega)).trans (unhide HS0).1, (Below.heap_alloc _ _ _ hltW).trans (unhide HS0).2⟩
    clear hK K
    simp only [Act.put, List.setIfInBounds_toArray, List.set_cons_zero, List.set_cons_succ]
    have Hrow6 := hide ((unhide Hrow5).below (below_drew' (Below.refl _ _)))
    refine stepD (i := 9) (d := some 34) rfl rfl (by kernel_rfl) (by rfl) (fun K hK => ?_)
    refine wp_app stepTy (.tmp 25) (.tmp 33) rfl w.heap.size (.slice Ak L.length ck) L.length (rowOf L) rfl ((unhide Hrow6).own.alloc _) (W.heap.size + 1) (some ⟨W.heap.size, 0, none⟩) 1 1 (.int .i64 (p.toNat : Nat) :: clL q x y z) rfl (Rd.row (w := W.drew) rfl) (by simp [Value.oneCell']) (by omega) (by simp; omega) ?_
    intro v5 w5 ho5 hg5 hat5
    obtain ⟨A5, c5, rfl⟩ := own_form ho5
    have hbl : Below W.heap.size W (W.drew.alloc (.cells (.int .i64 (p.toNat : Nat) :: clL q x y z).toArray 49)) := (below_drew' (Below.refl _ _)).alloc (Nat.le_refl _) _
    have hgw := grown_trans (grownBy_of_below (row := (Value.slice Ak L.length ck).ownBlock) hbl) hg5
    have hnb : ∀ k, (Value.slice Ak L.length ck).ownBlock = some k → k < wr.heap.size := unhide Hfrow
    have hwb : ∀ k, (Value.slice Ak L.length ck).ownBlock = some k → w.heap.size ≤ k := fun k hk => ((unhide Hrow6).own.lt k hk).1
    have hbW : Below w.heap.size W w5 := (Below.refl _ _).grown hgw (by omega) hwb
    have hat : ∀ k, (Value.slice A5 (L.length + 1) c5).ownBlock = some k → (Value.slice Ak L.length ck).ownBlock = some k ∨ W.heap.size ≤ k := fun k hk => (hat5 k hk).imp id fun h => by simp at h; omega
    have Hbe := hide ((unhide Hb5).trans hbW)
    have hcl : rowOf L ++ (Value.int .i64 (p.toNat : Nat) :: clL q x y z) = rowOf (L ++ [⟨p.toNat, q, x, y, z⟩]) := by rw [rowOf_app]; simp [rowOf]
    rw [hcl] at ho5
    have Hrow7 := hide (show SRow w5 w.heap.size A5 c5 (L ++ [⟨p.toNat, q, x, y, z⟩]) from ⟨by rw [List.length_append]; exact ho5, fun s hs => by
      rw [List.length_append]
      rcases List.mem_append.1 hs with h1 | h1
      · exact ((unhide Hrow5).all s h1).grown hgw hat
      · obtain rfl := List.mem_singleton.1 h1
        exact (unhide Hcf).grown hgw hat⟩)
    have hS5 : w5.cell? ⟨ab, ao + t, none⟩ = some (.int .u8 (p.toNat : Nat)) ∧ w5.heap[w4.heap.size]? = some (.cells (clCells q x y z) 26 (0, 0)) := by
      refine ⟨(hbW.cell (p := ⟨ab, ao + t, none⟩) (by show ab < _; omega)).trans (unhide Hcp), (hgw.block _ hltW (fun e => ?_)).trans (unhide Hcb)⟩
      have := hnb _ e.symm
      omega
    have HS5 := hide hS5
    refine hK _ _ hS5 ?_
    clear hK K hS5 ho5 hg5 hat5 hgw hnb hwb hbW hat hcl hbl
    simp only [Act.put, List.setIfInBounds_toArray, List.set_cons_zero, List.set_cons_succ]
    refine takeD (i := 10) (d := some 2) (v := .slice A5 (L.length + 1) c5) rfl rfl (by kernel_rfl) (by kernel_rfl) (by kernel_rfl) (fun _ _ _ h => h) (yields_assign (by rfl) (.tmp 34) rfl _ rfl) (unhide HS5) ?_
    simp only [Act.put, List.setIfInBounds_toArray, List.set_cons_zero, List.set_cons_succ]
    refine wpAnyH_done (by kernel_rfl) ?_ _
    clear HS0 HS5 Hrow6 Hrow5 Hb5 Hcf Hcb Hcp Hfrow
    have hti : ((t : Int) + (1 + (n : Int))) = ((t + 1 + n : Nat) : Int) := by omega
    go_wp2_with fail
    try (have hceq : c = t + 1 := by assumption
         rw [← hceq])
    go_roundg (m - (t + 1 + n))
    case measure => have := unhide Hgk; omega
    case rel => exact ⟨t + 1 + n, L ++ [⟨p.toNat, q, x, y, z⟩], A5, c5, rfl, by omega, by simp; omega, by go_num, by simp, unhide Hrow7, unhide Hbe, by rw [List.map_append]; exact unhide Hr⟩

set_option maxRecDepth 100000 in
set_option maxHeartbeats 8000000 in
theorem rsteps_any (A : Option Addr) (m c B : Nat) (b : List UInt8) (w : World) (hb : Rd w B 1 A m (bys b)) (hB : B ≤ w.heap.size) (hm : m ≤ 4294967296) (hmc : m ≤ c) :
    Calls Try.prog 25 #[.slice A m c] w (StepsEnd (Cl.steps b) w) := by
  have hbl : b.length = m := by simpa [bys] using hb.len1
  obtain ⟨res, hres⟩ : ∃ res, Cl.steps b = res := ⟨_, rfl⟩
  rw [hres]
  unfold Cl.steps at hres
  have Hres := hide hres
  have Hbl := hide hbl
  have Hb := hide hb
  clear hres hbl hb
  go_enter Try.func25, Try.ntmps25
  go_wp2_with fail
  go_loopg [5, 6] m (fun gk lv av wr => ∃ (t : Nat) (L : List SEl) (Ak : Option Addr) (ck : Nat), gk = m - t ∧ t ≤ m ∧ L.length ≤ t ∧ av = .int .i64 t ∧ lv = .slice Ak L.length ck ∧ SRow wr w.heap.size Ak ck L ∧ Below w.heap.size w wr ∧ Cl.stepsF b.length (b.drop t) t (L.map sPair) = res)
  case atStart => exact ⟨0, [], none, 0, by omega, by omega, Nat.le_refl _, rfl, rfl, SRow.nil _ _, Below.refl _ _, by simpa using unhide Hres⟩
  case round =>
  clear Hres
  obtain ⟨t, L, Ak, ck, hgk, ht, hLt, rfl, rfl, hrow, hbr, hst⟩ := hrel
  have Hgk := hide hgk
  have Hrow := hide hrow
  have Hbr := hide hbr
  have Hst := hide hst
  have hsz := hbr.size
  clear hgk hrow hbr hst
  rcases Nat.lt_or_ge t m with hlt | hge
  case inr =>
    obtain rfl : t = m := by omega
    have hr := unhide Hst
    rw [List.drop_eq_nil_of_le (by rw [unhide Hbl]; exact Nat.le_refl _), Cl.stepsF_nil] at hr
    subst hr
    go_wp2_with fail
    go_ret3
    exact ⟨L, Ak, ck, rfl, rfl, unhide Hrow, unhide Hbr⟩
  obtain ⟨p, hp⟩ : ∃ p, b[t]? = some p := ⟨_, List.getElem?_eq_getElem (by rw [unhide Hbl]; exact hlt)⟩
  obtain ⟨ab, ao, rfl, hab, hcp⟩ := ((unhide Hb).below ((unhide Hbr).mono hB)).at_ (k := t) (u := .int .u8 p.toNat) (bys_at hp)
  have hdr : b.drop t = p :: b.drop (t + 1) := by
    rw [List.drop_eq_getElem_cons (by rw [unhide Hbl]; exact hlt), (List.getElem?_eq_some_iff.1 hp).2]
  have hr := unhide Hst
  rw [hdr, Cl.stepsF_cons _ _ _ _ _ (by rw [List.length_drop, unhide Hbl]; omega)] at hr
  have hrd := ((unhide Hb).below ((unhide Hbr).mono hB)).from (k := t + 1) (by omega)
  have hrl := Cl.read_len (b.drop (t + 1))
  rw [List.length_drop, unhide Hbl] at hrl
  have K := hide (fun (o' c' : Nat) (h : Rd wr B 1 (some ⟨ab, o', none⟩) (m - (t + 1)) (bys (b.drop (t + 1)))) (hc : m - (t + 1) ≤ c') => rRead_any (some ⟨ab, o', none⟩) (m - (t + 1)) c' B (b.drop (t + 1)) wr h (by omega) (by omega) hc)
  have hdd : ∀ j, (b.drop (t + 1)).drop j = b.drop (t + 1 + j) := fun j => by rw [List.drop_drop]
  simp only [hdd] at hr
  generalize Cl.read (b.drop (t + 1)) = rd at *
  obtain ⟨q, n, ev⟩ := rd
  simp only at hr hrl
  have Hr := hide hr
  have Hrd := hide hrd
  have hp8 := p.toNat_lt
  clear hr hrd hdr hp hdd Hst
  go_wp2_with fail
  all_goals
    first
      | with_reducible refine ((unhide K) (ao + (t + 1)) (c - (t + 1)) (unhide Hrd) (by omega)).mono ?_
      | with_reducible refine ((unhide K) ao 0 (rd_none (unhide Hrd) (by omega)) (by omega)).mono ?_
    intro e w4 hend
    obtain ⟨x, y, z, rfl, hfr, hb4⟩ := id hend
    have hrow4 := (unhide Hrow).below hb4
    have hb4' := (unhide Hbr).trans (hb4.mono hsz)
    have hsz4 := hb4.size
    have hcb : (w4.alloc (.cells (clCells q x y z) 26)).heap[w4.heap.size]? = some (.cells (clCells q x y z) 26 (0, 0)) := heap_alloc_new _ _
    have hbw : Below w4.heap.size w4 (w4.alloc (.cells (clCells q x y z) 26)) := (Below.refl _ _).alloc (Nat.le_refl _) _
    have Hrow5 := hide (hrow4.below hbw)
    have Hb5 := hide (hb4'.trans (hbw.mono (by omega)))
    have hfrow : ∀ k, (Value.slice Ak L.length ck).ownBlock = some k → k < wr.heap.size := fun k hk => ((unhide Hrow).own.lt k hk).2
    have Hcf := hide ((hfr.f hfrow).below hbw)
    have Hcb := hide hcb
    have hcp4 := (hbw.cell (p := ⟨ab, ao + t, none⟩) (by show ab < _; omega)).trans ((hb4.cell (p := ⟨ab, ao + t, none⟩) (by show ab < _; omega)).trans hcp)
    have Hcp := hide hcp4
    have hsz5 : wr.heap.size ≤ (w4.alloc (.cells (clCells q x y z) 26)).heap.size := by simp; omega
    have Hfrow := hide hfrow
    clear hcp hcp4 hcb hfr hb4 hrow4 hb4' hbw K hfrow Hrow Hrd
    by_cases hev : ev = 0
    case neg =>
      have hr := unhide Hr
      rw [if_neg hev] at hr
      subst hr
      have he1 : (ev != 0) = true := by simpa using hev
      have Hend := hide (unhide Hb5)
      clear hev Hr Hcp Hcb Hcf Hrow5 Hb5
      go_wp2_with fail
      go_ret3
      exact ⟨[], none, 0, rfl, rfl, SRow.nil _ _, unhide Hend⟩
    subst hev
    have hr := unhide Hr
    rw [if_pos rfl] at hr
    replace Hr := hide hr
    clear hr
    go_wp2_with fail
    generalize hgW : w4.alloc (.cells (clCells q x y z) 26) = W at *
    have hltW : w4.heap.size < W.heap.size := lt_of_block (unhide Hcb)
    clear hgW
    have HS0 := hide (show W.drew.cell? ⟨ab, ao + t, none⟩ = some (.int .u8 (p.toNat : Nat)) ∧ W.drew.heap[w4.heap.size]? = some (.cells (clCells q x y z) 26 (0, 0)) from ⟨unhide Hcp, unhide Hcb⟩)
    refine wp_region_held_drew (S := fun w' => w'.cell? ⟨ab, ao + t, none⟩ = some (.int .u8 (p.toNat : Nat)) ∧ w'.heap[w4.heap.size]? = some (.cells (clCells q x y z) 26 (0, 0))) (by kernel_rfl) (unhide HS0) (fun hHeld => ?_)
    clear hHeld
    refine takeD (i := 0) (d := some 27) (v := .slice Ak L.length ck) rfl rfl (by kernel_rfl) (by kernel_rfl) (by kernel_rfl) (fun _ _ _ h => h) (yields_move (by rfl) (.tmp 5) rfl _ rfl) (unhide HS0) ?_
    simp only [Act.put, List.setIfInBounds_toArray, List.set_cons_zero, List.set_cons_succ]
    refine takeD (i := 1) (d := some 28) (v := .slice (some ⟨ab, ao, none⟩) m _) rfl rfl (by kernel_rfl) (by kernel_rfl) (by kernel_rfl) (fun _ _ _ h => h) (yields_move (by rfl) (.tmp 0) rfl _ rfl) (unhide HS0) ?_
    simp only [Act.put, List.setIfInBounds_toArray, List.set_cons_zero, List.set_cons_succ]
    refine takeD (i := 2) (d := some 29) (v := .int .i64 (t : Nat)) rfl rfl (by kernel_rfl) (by kernel_rfl) (by kernel_rfl) (fun _ _ _ h => h) (yields_move (by rfl) (.tmp 6) rfl _ rfl) (unhide HS0) ?_
    simp only [Act.put, List.setIfInBounds_toArray, List.set_cons_zero, List.set_cons_succ]
    refine takeD (i := 3) (d := some 30) (v := .pointer (some ⟨ab, ao + t, none⟩)) rfl rfl (by kernel_rfl) (by kernel_rfl) (by kernel_rfl) (fun _ _ _ h => h) (yields_idx (by rfl) (.tmp 28) (.tmp 29) rfl ab ao m _ t rfl rfl (by omega) hlt) (unhide HS0) ?_
    simp only [Act.put, List.setIfInBounds_toArray, List.set_cons_zero, List.set_cons_succ]
    refine takeD (i := 4) (d := some 31) (v := .int .u8 (p.toNat : Nat)) rfl rfl (by kernel_rfl) (by kernel_rfl) (by kernel_rfl) (fun _ _ _ h => h) (yieldsS_u8 (by rfl) (.tmp 30) rfl ab (ao + t) rfl _ (fun w' h => h.1)) (unhide HS0) ?_
    simp only [Act.put, List.setIfInBounds_toArray, List.set_cons_zero, List.set_cons_succ]
    refine takeD (i := 5) (d := some 32) (v := .int .i64 (p.toNat : Nat)) rfl rfl (by kernel_rfl) (by kernel_rfl) (by kernel_rfl) (fun _ _ _ h => h) (yields_conv (by rfl) (.tmp 31) rfl p.toNat rfl hp8) (unhide HS0) ?_
    simp only [Act.put, List.setIfInBounds_toArray, List.set_cons_zero, List.set_cons_succ]
    refine takeD (i := 6) (d := some 33) (v := .agg (clCells q x y z)) rfl rfl (by kernel_rfl) (by kernel_rfl) (by kernel_rfl) (fun _ _ _ h => h) (yieldsS_load (by rfl) 26 (.tmp 7) rfl w4.heap.size rfl 26 _ (0, 0) _ (fun w' h => h.2) Try.underlying26 rfl callInfo) (unhide HS0) ?_
    simp only [Act.put, List.setIfInBounds_toArray, List.set_cons_zero, List.set_cons_succ]
    refine takeD (i := 7) (d := some 34) (v := .agg (.int .i64 (p.toNat : Nat) :: clL q x y z).toArray) rfl rfl (by kernel_rfl) (by kernel_rfl) (by kernel_rfl) (fun _ _ _ h => h) (yields_step (by rfl) (.tmp 32) (.tmp 33) rfl (p.toNat : Nat) q x y z rfl rfl) (unhide HS0) ?_
    simp only [Act.put, List.setIfInBounds_toArray, List.set_cons_zero, List.set_cons_succ]
    refine stepD (i := 8) (d := some 35) rfl rfl (by kernel_rfl) (by rfl) (fun K hK => ?_)
    refine wp_sliceStep (.tmp 34) rfl (p.toNat : Nat) q x y z rfl (hK _ _ ?_ ?_)
    · exact ⟨(World.cell?_alloc_lt _ _ _ (by show ab < W.heap.size; omega)).trans (unhide HS0).1, (Below.heap_alloc _ _ _ hltW).trans (unhide HS0).2⟩
    clear hK K
    simp only [Act.put, List.setIfInBounds_toArray, List.set_cons_zero, List.set_cons_succ]
    have Hrow6 := hide ((unhide Hrow5).below (below_drew' (Below.refl _ _)))
    refine stepD (i := 9) (d := some 36) rfl rfl (by kernel_rfl) (by rfl) (fun K hK => ?_)
    refine wp_app stepTy (.tmp 27) (.tmp 35) rfl w.heap.size (.slice Ak L.length ck) L.length (rowOf L) rfl ((unhide Hrow6).own.alloc _) (W.heap.size + 1) (some ⟨W.heap.size, 0, none⟩) 1 1 (.int .i64 (p.toNat : Nat) :: clL q x y z) rfl (Rd.row (w := W.drew) rfl) (by simp [Value.oneCell']) (by omega) (by simp; omega) ?_
    intro v5 w5 ho5 hg5 hat5
    obtain ⟨A5, c5, rfl⟩ := own_form ho5
    have hbl : Below W.heap.size W (W.drew.alloc (.cells (.int .i64 (p.toNat : Nat) :: clL q x y z).toArray 49)) := (below_drew' (Below.refl _ _)).alloc (Nat.le_refl _) _
    have hgw := grown_trans (grownBy_of_below (row := (Value.slice Ak L.length ck).ownBlock) hbl) hg5
    have hnb : ∀ k, (Value.slice Ak L.length ck).ownBlock = some k → k < wr.heap.size := unhide Hfrow
    have hwb : ∀ k, (Value.slice Ak L.length ck).ownBlock = some k → w.heap.size ≤ k := fun k hk => ((unhide Hrow6).own.lt k hk).1
    have hbW : Below w.heap.size W w5 := (Below.refl _ _).grown hgw (by omega) hwb
    have hat : ∀ k, (Value.slice A5 (L.length + 1) c5).ownBlock = some k → (Value.slice Ak L.length ck).ownBlock = some k ∨ W.heap.size ≤ k := fun k hk => (hat5 k hk).imp id fun h => by simp at h; omega
    have Hbe := hide ((unhide Hb5).trans hbW)
    have hcl : rowOf L ++ (Value.int .i64 (p.toNat : Nat) :: clL q x y z) = rowOf (L ++ [⟨p.toNat, q, x, y, z⟩]) := by rw [rowOf_app]; simp [rowOf]
    rw [hcl] at ho5
    have Hrow7 := hide (show SRow w5 w.heap.size A5 c5 (L ++ [⟨p.toNat, q, x, y, z⟩]) from ⟨by rw [List.length_append]; exact ho5, fun s hs => by
      rw [List.length_append]
      rcases List.mem_append.1 hs with h1 | h1
      · exact ((unhide Hrow5).all s h1).grown hgw hat
      · obtain rfl := List.mem_singleton.1 h1
        exact (unhide Hcf).grown hgw hat⟩)
    have hS5 : w5.cell? ⟨ab, ao + t, none⟩ = some (.int .u8 (p.toNat : Nat)) ∧ w5.heap[w4.heap.size]? = some (.cells (clCells q x y z) 26 (0, 0)) := by
      refine ⟨(hbW.cell (p := ⟨ab, ao + t, none⟩) (by show ab < _; omega)).trans (unhide Hcp), (hgw.block _ hltW (fun e => ?_)).trans (unhide Hcb)⟩
      have := hnb _ e.symm
      omega
    have HS5 := hide hS5
    refine hK _ _ hS5 ?_
    clear hK K hS5 ho5 hg5 hat5 hgw hnb hwb hbW hat hcl hbl
    simp only [Act.put, List.setIfInBounds_toArray, List.set_cons_zero, List.set_cons_succ]
    refine takeD (i := 10) (d := some 5) (v := .slice A5 (L.length + 1) c5) rfl rfl (by kernel_rfl) (by kernel_rfl) (by kernel_rfl) (fun _ _ _ h => h) (yields_assign (by rfl) (.tmp 36) rfl _ rfl) (unhide HS5) ?_
    simp only [Act.put, List.setIfInBounds_toArray, List.set_cons_zero, List.set_cons_succ]
    refine wpAnyH_done (by kernel_rfl) ?_ _
    clear HS0 HS5 Hrow6 Hrow5 Hb5 Hcf Hcb Hcp Hfrow
    have hti : ((t : Int) + (1 + (n : Int))) = ((t + 1 + n : Nat) : Int) := by omega
    go_wp2_with fail
    try (have hceq : c = t + 1 := by assumption
         rw [← hceq])
    go_roundg (m - (t + 1 + n))
    case measure => have := unhide Hgk; omega
    case rel => exact ⟨t + 1 + n, L ++ [⟨p.toNat, q, x, y, z⟩], A5, c5, rfl, by omega, by simp; omega, by go_num, by simp, unhide Hrow7, unhide Hbe, by rw [List.map_append]; exact unhide Hr⟩
end Go.Proofs.Ytphbkjdheopmhaa
