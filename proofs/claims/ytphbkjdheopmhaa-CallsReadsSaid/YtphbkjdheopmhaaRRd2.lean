/- The walks of the reference's reader: text, list. Conditions: there are fewer than 2^32 bytes. -/
import Derived.Test.YtphbkjdheopmhaaRRd1
namespace Go.Proofs.Ytphbkjdheopmhaa
set_option linter.unusedVariables false
set_option linter.unusedSimpArgs false
open Go.RowKit

theorem rnum2_lt (r : Cl.R) : (Cl.rnum r 2).1 < 65536 := by
  have h1 := Wd.le_lt (Cl.take r 2).1
  have h2 : (Cl.take r 2).1.length ≤ 2 := by
    unfold Cl.take
    split
    · simp
    · simp; omega
  have h3 : (256 : Nat) ^ (Cl.take r 2).1.length ≤ 256 ^ 2 := Nat.pow_le_pow_right (by omega) h2
  show Wd.le (Cl.take r 2).1 < _
  omega

set_option maxRecDepth 100000 in
set_option maxHeartbeats 1000000 in
theorem rtext_rd (full : List UInt8) (g B : Nat) (r : Cl.R) (w : World) (hr : RRd full w g B r) (hg : B ≤ g) :
    Calls Try.prog 55 #[.pointer (some ⟨g, 0, none⟩)] w fun e w' => e = .returned (.string (Cl.ba (Cl.rtxt r).1)) ∧ RRd full w' g B (Cl.rtxt r).2 ∧ w.grownBy w' (some g) := by
  have K := hide (rnum_any full g B 2 r w hr hg (by omega))
  have hnl := rnum2_lt r
  have e1 : Cl.rtxt r = Cl.take (Cl.rnum r 2).2 (Cl.rnum r 2).1 := rfl
  rw [e1]
  generalize Cl.rnum r 2 = nr at *
  have K2 : ∀ w1, RRd full w1 g B nr.2 → _ := fun w1 h => rtake_any full g B nr.1 nr.2 w1 h hg (by omega)
  generalize Cl.take nr.2 nr.1 = tk at *
  obtain ⟨l, r2⟩ := tk
  simp only at K2 ⊢
  replace K2 := hide K2
  clear e1 hr
  go_enter Try.func55, Try.ntmps55
  go_wp2_with fail
  refine (unhide K).mono ?_
  rintro e w1 ⟨rfl, hr1, hg1⟩
  have K3 := hide ((unhide K2) w1 hr1)
  have Hg1 := hide hg1
  clear hr1 hg1 K K2
  go_wp2_with fail
  refine (unhide K3).mono ?_
  rintro e w2 ⟨v, rfl, ht, hr2, hg2⟩
  obtain ⟨A, c, rfl, hrd⟩ := ht.rd
  have hcv : (convert 24 9 (.slice A l.length c)).run Try.prog w2 = .ok (.string (Cl.ba l)) w2 := conv_any hrd Try.underlying24 Try.underlying5 Try.underlying9
  have Hr2 := hide hr2
  have Hg2 := hide (grown_trans (unhide Hg1) hg2)
  clear ht hr2 hg2 hrd K3 Hg1
  go_wp2_with fail
  go_ret
  exact ⟨rfl, unhide Hr2, unhide Hg2⟩

set_option maxRecDepth 100000 in
set_option maxHeartbeats 2000000 in
theorem rlist_rd (full : List UInt8) (g B : Nat) (r : Cl.R) (w : World) (hr : RRd full w g B r) (hg : B ≤ g) :
    Calls Try.prog 56 #[.pointer (some ⟨g, 0, none⟩)] w fun e w' => ∃ A' c', e = .returned (.slice A' (Cl.rlst r).1.length c') ∧ w'.ownsRow w.heap.size 9 1 (.slice A' (Cl.rlst r).1.length c') (Cl.rlst r).1.length ((Cl.rlst r).1.map Value.string) ∧ RRd full w' g B (Cl.rlst r).2 ∧ w.grownBy w' (some g) := by
  have hgl := hr.lt
  have K := hide (rnum_any full g B 1 r w hr hg (by omega))
  have e1 : Cl.rlst r = Cl.rtxts (Cl.rnum r 1).1 (Cl.rnum r 1).2 := rfl
  rw [e1]
  have hnl := rnum1_lt r
  generalize Cl.rnum r 1 = nr at *
  obtain ⟨n, r1⟩ := nr
  simp only at K hnl ⊢
  obtain ⟨fin, hfin⟩ : ∃ fin, Cl.rtxts n r1 = fin := ⟨_, rfl⟩
  rw [hfin]
  have Hfin := hide hfin
  clear e1 hr hfin
  go_enter Try.func56, Try.ntmps56
  go_wp2_with fail
  refine (unhide K).mono ?_
  rintro e w1 ⟨rfl, hr1, hg1⟩
  have Hr1 := hide hr1
  have Hg1 := hide hg1
  clear hr1 hg1 K
  go_wp2_with fail
  go_loopg [3, 5] n (fun gk lv iv wr => ∃ (k : Nat) (Ak : Option Addr) (ck : Nat) (L : List ByteArray) (rk : Cl.R), gk = k ∧ L.length + k = n ∧ iv = .int .i64 L.length ∧ lv = .slice Ak L.length ck ∧ wr.ownsRow w.heap.size 9 1 (.slice Ak L.length ck) L.length (L.map Value.string) ∧ RRd full wr g B rk ∧ w.grownBy wr (some g) ∧ fin = (L ++ (Cl.rtxts k rk).1, (Cl.rtxts k rk).2))
  case atStart => exact ⟨n, none, 0, [], r1, rfl, by simp, rfl, rfl, World.ownsRow_nil _ _ _ _, unhide Hr1, unhide Hg1, by rw [← unhide Hfin]; rfl⟩
  case round =>
  clear Hr1 Hg1 Hfin
  obtain ⟨k, Ak, ck, L, rk, hgk, hLk, rfl, rfl, hown, hrk, hgr, hfin⟩ := hrel
  have Hgk := hide hgk
  have Hrk := hide hrk
  have Hgr := hide hgr
  have Hfin := hide hfin
  have Hown := hide hown
  have hsz := hgr.size
  have hgl2 := hrk.lt
  have hc1 : wr.cell? ⟨g, 2, none⟩ = some (.bool rk.gone) := by
    obtain ⟨ab, ao, m, c, p, q1, _⟩ := hrk
    exact q1.cell (i := 2) rfl
  clear hgk hrk hgr hfin hown
  rcases Nat.eq_zero_or_pos k with rfl | hk
  · have hf := unhide Hfin
    rw [rtxts_end (.inl rfl)] at hf
    simp only [List.append_nil] at hf
    subst hf
    clear hc1
    go_wp2_with fail
    go_ret
    exact ⟨Ak, ck, rfl, unhide Hown, unhide Hrk, unhide Hgr⟩
  cases hgn : rk.gone
  case true =>
    have hf := unhide Hfin
    rw [rtxts_end (.inr hgn)] at hf
    simp only [List.append_nil] at hf
    subst hf
    rw [hgn] at hc1
    clear hgn
    go_wp2_with fail
    go_ret
    exact ⟨Ak, ck, rfl, unhide Hown, unhide Hrk, unhide Hgr⟩
  obtain ⟨j, rfl⟩ : ∃ j, k = j + 1 := ⟨k - 1, by omega⟩
  have hf := unhide Hfin
  rw [rtxts_step hgn] at hf
  have K2 := hide (rtext_rd full g B rk wr (unhide Hrk) hg)
  rw [hgn] at hc1
  replace Hfin := hide hf
  clear hgn hf
  generalize Cl.rtxt rk = tx at *
  obtain ⟨x, r2⟩ := tx
  simp only at K2 Hfin
  go_wp2_with fail
  refine (unhide K2).mono ?_
  rintro e w2 ⟨rfl, hr2, hg2⟩
  have hown2 := (unhide Hown).kept hg2 (own_ne_g (unhide Hown) hgl)
  have hg2' := grown_trans (unhide Hgr) hg2
  have hsz2 := hg2'.size
  have hgl3 := hr2.lt
  have Hown2 := hide hown2
  have Hr2 := hide hr2
  have Hg2 := hide hg2'
  clear hr2 hg2 hg2' hown2 K2 Hgr Hrk Hown hc1
  go_wp2_with (at_builtin; refine wpList_app1g strTy rfl _ _ rfl w.heap.size (.slice Ak L.length ck) L.length (L.map Value.string) rfl (unhide Hown2) #[.string (Cl.ba x)] _ rfl (by simp) rfl (by simp [Value.oneCell']) (by omega) hsz2 ?_; intro A3 c3 w3 ho3 hg3 hat3; have Hg3 := hide (grown_new (unhide Hg2) hg3 (fun j hj => ((unhide Hown2).lt j hj).1)); have Hr3 := hide ((unhide Hr2).below ((Below.refl w.heap.size w2).grown hg3 hsz2 (fun j hj => ((unhide Hown2).lt j hj).1)) hgl (by omega)); have Ho3 := hide ho3; clear ho3 hg3 hat3)
  clear Hown2 Hr2 Hg2
  go_roundg j
  case measure => have := unhide Hgk; omega
  case rel => exact ⟨j, A3, c3, L ++ [Cl.ba x], r2, rfl, by simp only [List.length_append, List.length_singleton]; omega, by simp, by simp, by simpa using unhide Ho3, unhide Hr3, unhide Hg3, by rw [unhide Hfin]; simp⟩
end Go.Proofs.Ytphbkjdheopmhaa
