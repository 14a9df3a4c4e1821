/- The walks of the calls' reader: bytes, list. Conditions: there are fewer than 2^32 bytes. -/
import Derived.Test.YtphbkjdheopmhaaRdr1
import Derived.Test.YtphbkjdheopmhaaPathsC
import Derived.Deep.LoopGhost
namespace Go.Proofs.Ytphbkjdheopmhaa
set_option linter.unusedVariables false
set_option linter.unusedSimpArgs false
open Go.RowKit

theorem grown_some_below {w w' : World} {g : Nat} (h : w.grownBy w' (some g)) {B : Nat} (hB : B ≤ g) (hs : B ≤ w.heap.size) : Below B w w' := (Below.refl B w).grown h hs (fun k hk => by injection hk with hk; omega)
theorem grownBy_of_below' {a b : World} (h : Below a.heap.size a b) : a.grownBy b none := ⟨h.os, h.tape, h.output, h.size, fun k hk _ => h.block k hk⟩
/-- behind a turn of block g, a turn of something newer -/
theorem grown_new {w a b : World} {g row : Option Nat} (h : w.grownBy a g) (k : a.grownBy b row) (hr : ∀ j, row = some j → w.heap.size ≤ j) : w.grownBy b g :=
  ⟨k.os.trans h.os, k.tape.trans h.tape, k.output.trans h.output, Nat.le_trans h.size k.size, fun i hi hne => (k.block i (Nat.lt_of_lt_of_le hi h.size) (fun e => by have := hr i e.symm; omega)).trans (h.block i hi hne)⟩
theorem Rdr.lt {w : World} {g B : Nat} {r : Cl.R} (h : Rdr w g B r) : g < w.heap.size := by obtain ⟨ab, ao, m, c, q1, _⟩ := h; exact q1.lt
theorem Rdr.below {w w' : World} {g B K : Nat} {r : Cl.R} (h : Rdr w g B r) (hb : Below K w w') (hg : g < K) (hB : B ≤ K) : Rdr w' g B r := by
  obtain ⟨ab, ao, m, c, q1, q2, q3, q4⟩ := h
  exact ⟨ab, ao, m, c, q1.below hb hg, q2.below (hb.mono hB), q3, q4⟩
theorem Rdr.len {w : World} {g B : Nat} {r : Cl.R} (h : Rdr w g B r) : r.b.length ≤ 4294967296 := by
  obtain ⟨ab, ao, m, c, q1, q2, q3, q4⟩ := h
  have : r.b.length = m := by simpa [bys] using q2.len1
  omega
theorem take_len (r : Cl.R) (n : Nat) : (Cl.take r n).1.length ≤ r.b.length ∧ (Cl.take r n).2.b.length ≤ r.b.length := by
  unfold Cl.take
  split
  · simp
  · exact ⟨by simp only [List.length_take]; omega, by simp⟩

set_option maxRecDepth 100000 in
set_option maxHeartbeats 1000000 in
theorem bytes_any (g B : Nat) (r : Cl.R) (w : World) (hr : Rdr w g B r) (hg : B ≤ g) :
    Calls Try.prog 51 #[.pointer (some ⟨g, 0, none⟩)] w fun e w' => ∃ A' c', e = .returned (.slice A' (Cl.rtxt r).1.length c') ∧ w'.ownsRow w.heap.size 5 1 (.slice A' (Cl.rtxt r).1.length c') (Cl.rtxt r).1.length (bys (Cl.rtxt r).1) ∧ Rdr w' g B (Cl.rtxt r).2 ∧ w.grownBy w' (some g) := by
  have hgl := hr.lt
  have K := hide (number_yes g B 2 r w hr hg (by omega))
  have hnl : (Cl.rnum r 2).1 < 18446744073709551616 := by
    have h1 := Wd.le_lt (Cl.take r 2).1
    have h2 : (Cl.take r 2).1.length ≤ 2 := by
      unfold Cl.take
      split
      · simp
      · simp; omega
    have h3 : (256 : Nat) ^ (Cl.take r 2).1.length ≤ 256 ^ 2 := Nat.pow_le_pow_right (by omega) h2
    show Wd.le (Cl.take r 2).1 < _
    omega
  have e1 : Cl.rtxt r = Cl.take (Cl.rnum r 2).2 (Cl.rnum r 2).1 := rfl
  rw [e1]
  generalize Cl.rnum r 2 = nr at *
  have K2 : ∀ w1, Rdr w1 g B nr.2 → _ := fun w1 h => take_any g B nr.1 nr.2 w1 h hg hnl
  have hlen2 := (take_len nr.2 nr.1).1
  generalize Cl.take nr.2 nr.1 = tk at *
  obtain ⟨l, r2⟩ := tk
  simp only at K2 hlen2 ⊢
  replace K2 := hide K2
  clear e1 hr
  go_enter Try.func51, Try.ntmps51
  go_wp2_with fail
  refine (unhide K).mono ?_
  rintro e w1 ⟨rfl, hr1, hg1⟩
  have K3 := hide ((unhide K2) w1 hr1)
  have Hg1 := hide hg1
  have hlen := hr1.len
  clear hr1 hg1 K K2
  go_wp2_with fail
  refine (unhide K3).mono ?_
  rintro e w2 ⟨v, m, rfl, hmm, ht, hr2, hg2⟩
  have hg2' := grown_trans (unhide Hg1) hg2
  have Hr2 := hide hr2
  have Hg2 := hide hg2'
  have hsz2 := hg2'.size
  have hgl2 := hr2.lt
  clear hr2 hg2 hg2' K3 Hg1 hmm
  rcases ht with ⟨rfl, rfl, rfl⟩ | ⟨ab, ao, c, rfl, hnc, hrd⟩
  · go_wp2_with fail
    refine (bclone_none w2).mono ?_
    rintro e w3 ⟨rfl, rfl⟩
    go_wp2_with fail
    go_ret
    exact ⟨none, 0, rfl, World.ownsRow_nil _ _ _ _, unhide Hr2, unhide Hg2⟩
  · have hlm : l.length = m := by simpa [bys] using hrd.len1
    subst hlm
    have K3 := hide (bclone_some ⟨ab, ao, none⟩ l.length c B l w2 (by omega) hrd (by omega))
    clear hrd
    go_wp2_with fail
    refine (unhide K3).mono ?_
    rintro e w3 ⟨A3, c3, rfl, ho3, hb3⟩
    have Hr3 := hide ((unhide Hr2).below hb3 hgl2 (by omega))
    have Hg3 := hide (grown_new (unhide Hg2) (grownBy_of_below' hb3) (fun j hj => by cases hj))
    have Ho3 := hide (own_base ho3 hsz2)
    clear ho3 hb3 K3
    go_wp2_with fail
    go_ret
    exact ⟨A3, c3, rfl, unhide Ho3, unhide Hr3, unhide Hg3⟩
theorem rtxts_step {k : Nat} {r : Cl.R} (h : r.gone = false) : Cl.rtxts (k + 1) r = (Cl.ba (Cl.rtxt r).1 :: (Cl.rtxts k (Cl.rtxt r).2).1, (Cl.rtxts k (Cl.rtxt r).2).2) := by
  conv => lhs; unfold Cl.rtxts
  rw [if_neg (by rw [h]; simp)]
theorem rtxts_end {k : Nat} {r : Cl.R} (h : k = 0 ∨ r.gone = true) : Cl.rtxts k r = ([], r) := by
  cases k with
  | zero => rfl
  | succ k =>
    rcases h with h | h
    · cases h
    · unfold Cl.rtxts; rw [if_pos h]
theorem rnum1_lt (r : Cl.R) : (Cl.rnum r 1).1 < 256 := by
  have h1 := Wd.le_lt (Cl.take r 1).1
  have h2 : (Cl.take r 1).1.length ≤ 1 := by
    unfold Cl.take
    split
    · simp
    · simp; omega
  have h3 : (256 : Nat) ^ (Cl.take r 1).1.length ≤ 256 ^ 1 := Nat.pow_le_pow_right (by omega) h2
  show Wd.le (Cl.take r 1).1 < _
  omega
theorem own_ne_g {w : World} {base g : Nat} {e : TypeId} {size n : Nat} {v : Value} {xs : List Value} (h : w.ownsRow base e size v n xs) (hg : g < base) : v.ownBlock = none ∨ v.ownBlock ≠ some g := by
  cases hv : v.ownBlock with
  | none => exact .inl rfl
  | some k => exact .inr (fun e => by injection e with e; have := (h.lt k hv).1; omega)

set_option maxRecDepth 100000 in
set_option maxHeartbeats 2000000 in
theorem list_any (g B : Nat) (r : Cl.R) (w : World) (hr : Rdr w g B r) (hg : B ≤ g) :
    Calls Try.prog 52 #[.pointer (some ⟨g, 0, none⟩)] w fun e w' => ∃ A' c', e = .returned (.slice A' (Cl.rlst r).1.length c') ∧ w'.ownsRow w.heap.size 9 1 (.slice A' (Cl.rlst r).1.length c') (Cl.rlst r).1.length ((Cl.rlst r).1.map Value.string) ∧ Rdr w' g B (Cl.rlst r).2 ∧ w.grownBy w' (some g) := by
  have hgl := hr.lt
  have K := hide (number_yes g B 1 r w hr hg (by omega))
  have e1 : Cl.rlst r = Cl.rtxts (Cl.rnum r 1).1 (Cl.rnum r 1).2 := rfl
  rw [e1]
  have hnl := rnum1_lt r
  generalize Cl.rnum r 1 = nr at *
  obtain ⟨n, r1⟩ := nr
  simp only at K hnl ⊢
  obtain ⟨fin, hfin⟩ : ∃ fin, Cl.rtxts n r1 = fin := ⟨_, rfl⟩
  rw [hfin]
  have Hfin := hide hfin
  clear e1 hr hfin
  go_enter Try.func52, Try.ntmps52
  go_wp2_with fail
  refine (unhide K).mono ?_
  rintro e w1 ⟨rfl, hr1, hg1⟩
  have Hr1 := hide hr1
  have Hg1 := hide hg1
  clear hr1 hg1 K
  go_wp2_with fail
  go_loopg [2, 3] n (fun gk lv nv wr => ∃ (k : Nat) (Ak : Option Addr) (ck : Nat) (L : List ByteArray) (rk : Cl.R), gk = k ∧ L.length + k = n ∧ nv = .int .u64 k ∧ lv = .slice Ak L.length ck ∧ wr.ownsRow w.heap.size 9 1 (.slice Ak L.length ck) L.length (L.map Value.string) ∧ Rdr wr g B rk ∧ w.grownBy wr (some g) ∧ fin = (L ++ (Cl.rtxts k rk).1, (Cl.rtxts k rk).2))
  case atStart => exact ⟨n, none, 0, [], r1, rfl, by simp, rfl, rfl, World.ownsRow_nil _ _ _ _, unhide Hr1, unhide Hg1, by rw [← unhide Hfin]; rfl⟩
  case round =>
  clear Hr1 Hg1 Hfin
  obtain ⟨k, Ak, ck, L, rk, hgk, hLk, rfl, rfl, hown, hrk, hgr, hfin⟩ := hrel
  have Hgk := hide hgk
  have Hrk := hide hrk
  have Hgr := hide hgr
  have Hfin := hide hfin
  have Hown := hide hown
  have hsz := hgr.size
  have hgl2 := hrk.lt
  have hc1 : wr.cell? ⟨g, 1, none⟩ = some (.bool rk.gone) := by
    obtain ⟨ab, ao, m, c, q1, _⟩ := hrk
    exact q1.cell (i := 1) rfl
  clear hgk hrk hgr hfin hown
  rcases Nat.eq_zero_or_pos k with rfl | hk
  · have hf := unhide Hfin
    rw [rtxts_end (.inl rfl)] at hf
    simp only [List.append_nil] at hf
    subst hf
    clear hc1
    go_wp2_with fail
    go_ret
    exact ⟨Ak, ck, rfl, unhide Hown, unhide Hrk, unhide Hgr⟩
  cases hgn : rk.gone
  case true =>
    have hf := unhide Hfin
    rw [rtxts_end (.inr hgn)] at hf
    simp only [List.append_nil] at hf
    subst hf
    rw [hgn] at hc1
    clear hgn
    go_wp2_with fail
    go_ret
    exact ⟨Ak, ck, rfl, unhide Hown, unhide Hrk, unhide Hgr⟩
  obtain ⟨j, rfl⟩ : ∃ j, k = j + 1 := ⟨k - 1, by omega⟩
  have hf := unhide Hfin
  rw [rtxts_step hgn] at hf
  have K2 := hide (bytes_any g B rk wr (unhide Hrk) hg)
  rw [hgn] at hc1
  replace Hfin := hide hf
  clear hgn hf
  generalize Cl.rtxt rk = tx at *
  obtain ⟨x, r2⟩ := tx
  simp only at K2 Hfin
  go_wp2_with fail
  refine (unhide K2).mono ?_
  rintro e w2 ⟨A2, c2, rfl, ho2, hr2, hg2⟩
  have hcv : (convert 24 9 (.slice A2 x.length c2)).run Try.prog w2 = .ok (.string (Cl.ba x)) w2 := conv_any (Rd.of_own ho2) Try.underlying24 Try.underlying5 Try.underlying9
  have hown2 := (unhide Hown).kept hg2 (own_ne_g (unhide Hown) hgl)
  have hg2' := grown_trans (unhide Hgr) hg2
  have hsz2 := hg2'.size
  have hgl3 := hr2.lt
  have Hown2 := hide hown2
  have Hr2 := hide hr2
  have Hg2 := hide hg2'
  clear ho2 hr2 hg2 hg2' hown2 K2 Hgr Hrk Hown hc1
  go_wp2_with (at_builtin; refine wpList_app1g strTy rfl _ _ rfl w.heap.size (.slice Ak L.length ck) L.length (L.map Value.string) rfl (unhide Hown2) #[.string (Cl.ba x)] _ rfl (by simp) rfl (by simp [Value.oneCell']) (by omega) hsz2 ?_; intro A3 c3 w3 ho3 hg3 hat3; have Hg3 := hide (grown_new (unhide Hg2) hg3 (fun j hj => ((unhide Hown2).lt j hj).1)); have Hr3 := hide ((unhide Hr2).below ((Below.refl w.heap.size w2).grown hg3 hsz2 (fun j hj => ((unhide Hown2).lt j hj).1)) hgl (by omega)); have Ho3 := hide ho3; clear ho3 hg3 hat3)
  clear hcv Hown2 Hr2 Hg2
  go_roundg j
  case measure => have := unhide Hgk; omega
  case rel => exact ⟨j, A3, c3, L ++ [Cl.ba x], r2, rfl, by simp; omega, by go_num, by simp, by simpa using unhide Ho3, unhide Hr3, unhide Hg3, by rw [unhide Hfin]; simp⟩
end Go.Proofs.Ytphbkjdheopmhaa
