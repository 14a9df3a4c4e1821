/- The walks of the reference's reader: take. Conditions: there are fewer than 2^32 bytes. -/
import Derived.Test.YtphbkjdheopmhaaRdr2
import Derived.Deep.QuietTactic
import Derived.BigQuiet
namespace Go.Proofs.Ytphbkjdheopmhaa
set_option linter.unusedVariables false
set_option linter.unusedSimpArgs false
open Go.RowKit

/-- Block g is a reference's reader, over the bytes full, which lie below B. -/
def RRd (full : List UInt8) (w : World) (g B : Nat) (r : Cl.R) : Prop := ∃ ab ao m c p, Blk w g 83 [.slice (some ⟨ab, ao, none⟩) m c, .int .i64 (p : Nat), .bool r.gone] ∧ Rd w B 1 (some ⟨ab, ao, none⟩) m (bys full) ∧ r.b = full.drop p ∧ p ≤ m ∧ m ≤ c ∧ m ≤ 4294967296
theorem RRd.lt {full : List UInt8} {w : World} {g B : Nat} {r : Cl.R} (h : RRd full w g B r) : g < w.heap.size := by obtain ⟨ab, ao, m, c, p, q1, _⟩ := h; exact q1.lt
theorem RRd.below {full : List UInt8} {w w' : World} {g B K : Nat} {r : Cl.R} (h : RRd full w g B r) (hb : Below K w w') (hg : g < K) (hB : B ≤ K) : RRd full w' g B r := by
  obtain ⟨ab, ao, m, c, p, q1, q2, q3, q4, q5, q6⟩ := h
  exact ⟨ab, ao, m, c, p, q1.below hb hg, q2.below (hb.mono hB), q3, q4, q5, q6⟩
theorem RRd.len {full : List UInt8} {w : World} {g B : Nat} {r : Cl.R} (h : RRd full w g B r) : r.b.length ≤ 4294967296 := by
  obtain ⟨ab, ao, m, c, p, q1, q2, q3, q4, q5, q6⟩ := h
  have : full.length = m := by simpa [bys] using q2.len1
  rw [q3, List.length_drop]
  omega
theorem grown_drewN {w : World} {g : Nat} (k : Nat) : w.grownBy (w.drewN k) (some g) := ⟨rfl, rfl, rfl, Nat.le_refl _, fun _ _ _ => rfl⟩

set_option maxRecDepth 100000 in
set_option maxHeartbeats 2000000 in
theorem rtake_no (full : List UInt8) (g B n : Nat) (r : Cl.R) (w : World) (hr : RRd full w g B r) (hg : B ≤ g) (h : r.gone = true ∨ r.b.length < n) (hn : n ≤ 4294967296) :
    Calls Try.prog 72 #[.pointer (some ⟨g, 0, none⟩), .int .i64 n] w fun e w' => e = .returned (.slice none 0 0) ∧ RRd full w' g B ⟨r.b, true⟩ ∧ w.grownBy w' (some g) := by
  obtain ⟨ab, ao, m, c, p, hb, hrd, hrb, hpm, hmc, hm⟩ := hr
  have hbl : full.length = m := by simpa [bys] using hrd.len1
  have hbr : r.b.length = m - p := by rw [hrb, List.length_drop, hbl]
  rw [hbr] at h
  have f2 := hb.free 2
  have c2 := hb.cell (i := 2) rfl
  have hgl := hb.lt
  have Hb := hide hb
  have Hrd := hide hrd
  have Hrb := hide hrb
  cases hgn : r.gone
  · rw [hgn] at c2 h
    have h2 : m < n + p := by have : m - p < n := by simpa using h
                              omega
    have c0 := hb.cell (i := 0) rfl
    have c1 := hb.cell (i := 1) rfl
    have hgt : decide ((m : Int) - (p : Int) < (n : Int)) = true := by simp; omega
    clear hb hrd hbl hbr hrb h
    go_enter Try.func72, Try.ntmps72
    go_wp2_with fail
    go_quiet (fail)
    go_wp2_with fail
    go_ret
    exact ⟨rfl, ⟨ab, ao, m, c, p, ((unhide Hb).drewN nq).set 2 (.bool true), ((unhide Hrd).drewN nq).setCell hg _, unhide Hrb, hpm, hmc, hm⟩, grown_trans (grown_drewN nq) (grown_set _)⟩
  · rw [hgn] at c2
    clear hb hrd hbl hbr hrb h
    go_enter Try.func72, Try.ntmps72
    go_wp2_with fail
    go_quiet (fail)
    go_wp2_with fail
    go_ret
    exact ⟨rfl, ⟨ab, ao, m, c, p, ((unhide Hb).drewN nq).set 2 (.bool true), ((unhide Hrd).drewN nq).setCell hg _, unhide Hrb, hpm, hmc, hm⟩, grown_trans (grown_drewN nq) (grown_set _)⟩

set_option maxRecDepth 100000 in
set_option maxHeartbeats 2000000 in
theorem rtake_yes (full : List UInt8) (g B n : Nat) (r : Cl.R) (w : World) (hr : RRd full w g B r) (hg : B ≤ g) (h1 : r.gone = false) (h2 : n ≤ r.b.length) :
    Calls Try.prog 72 #[.pointer (some ⟨g, 0, none⟩), .int .i64 n] w fun e w' => ∃ v, e = .returned v ∧ Took w' B v n (r.b.take n) ∧ RRd full w' g B ⟨r.b.drop n, false⟩ ∧ w.grownBy w' (some g) := by
  obtain ⟨ab, ao, m, c, p, hb, hrd, hrb, hpm, hmc, hm⟩ := hr
  have hbl : full.length = m := by simpa [bys] using hrd.len1
  have hbr : r.b.length = m - p := by rw [hrb, List.length_drop, hbl]
  rw [hbr] at h2
  rw [h1] at hb
  have f1 := hb.free 1
  have c2 := hb.cell (i := 2) rfl
  have c0 := hb.cell (i := 0) rfl
  have c1 := hb.cell (i := 1) rfl
  have hgl := hb.lt
  have Hb := hide hb
  have Hrd := hide hrd
  have Hrb := hide hrb
  have Hbl := hide hbl
  have hgt : decide ((m : Int) - (p : Int) < (n : Int)) = false := by simp; omega
  have hpn : (p : Int) + (n : Int) ≤ (c : Int) := by omega
  have hpn2 : (p : Int) ≤ (p : Int) + (n : Int) := by omega
  have hsub := (unhide Hrd).sub (off := p) (k := n) (by omega)
  have e1 : ((bys full).drop p).take n = bys (r.b.take n) := by
    rw [hrb]
    unfold bys
    rw [← List.map_drop, ← List.map_take]
  rw [e1] at hsub
  have Hsub := hide hsub
  clear hb hrd hbl hbr hrb h1 hsub e1
  go_enter Try.func72, Try.ntmps72
  by_cases hcp : c = p
  · subst hcp
    obtain rfl : m = c := by omega
    obtain rfl : n = 0 := by omega
    go_wp2_with fail
    go_quiet (fail)
    go_wp2_with fail
    go_quiet (fail)
    go_wp2_with fail
    go_ret
    have hb2 : (r.b.take 0) = [] := rfl
    refine ⟨_, rfl, .inr ⟨ab, ao, 0, by simp, Nat.le_refl _, ⟨rfl, .inl rfl⟩⟩, ⟨ab, ao, m, m, m, ((unhide Hb).drewN _).set 1 _, ((unhide Hrd).drewN _).setCell hg _, by rw [unhide Hrb]; rfl, Nat.le_refl _, Nat.le_refl _, hm⟩, grown_trans (grown_drewN _) (grown_set _)⟩
  · have hcp' : p < c := by omega
    have hcast : ((p : Int) + (n : Int)) = ((p + n : Nat) : Int) := by omega
    have hpn3 : p + n - p = n := by omega
    have Hcast := hide hcast
    have Hpn3 := hide hpn3
    clear hcast hpn3
    go_wp2_with fail
    go_quiet (fail)
    go_wp2_with fail
    go_quiet (fail)
    go_wp2_with fail
    go_ret
    rw [unhide Hcast]
    refine ⟨_, rfl, .inr ⟨ab, ao + p, c - p, ?_, by omega, ((unhide Hsub).drewN _).setCell hg _⟩, ⟨ab, ao, m, c, p + n, ((unhide Hb).drewN _).set 1 _, ((unhide Hrd).drewN _).setCell hg _, ?_, by omega, hmc, hm⟩, grown_trans (grown_drewN _) (grown_set _)⟩
    · show Value.slice _ (p + n - p) _ = _
      rw [unhide Hpn3]
    · show r.b.drop n = _
      rw [unhide Hrb, List.drop_drop]

/-- take, both ways. -/
theorem rtake_any (full : List UInt8) (g B n : Nat) (r : Cl.R) (w : World) (hr : RRd full w g B r) (hg : B ≤ g) (hn : n ≤ 4294967296) :
    Calls Try.prog 72 #[.pointer (some ⟨g, 0, none⟩), .int .i64 n] w fun e w' => ∃ v, e = .returned v ∧ Took w' B v (Cl.take r n).1.length (Cl.take r n).1 ∧ RRd full w' g B (Cl.take r n).2 ∧ w.grownBy w' (some g) := by
  by_cases h : r.gone = true ∨ r.b.length < n
  · have e : Cl.take r n = ([], ⟨r.b, true⟩) := if_pos h
    rw [e]
    refine (rtake_no full g B n r w hr hg h hn).mono ?_
    rintro e w' ⟨rfl, h1, h2⟩
    exact ⟨_, rfl, .inl ⟨rfl, rfl, rfl⟩, h1, h2⟩
  · have e : Cl.take r n = (r.b.take n, ⟨r.b.drop n, false⟩) := if_neg h
    have h2 : n ≤ r.b.length := by
      rcases Nat.lt_or_ge r.b.length n with h1 | h1
      · exact absurd (.inr h1) h
      · exact h1
    have hl : (r.b.take n).length = n := by simp; omega
    rw [e]
    simp only
    rw [hl]
    refine (rtake_yes full g B n r w hr hg (by cases hgn : r.gone; rfl; exact absurd (.inl hgn) h) h2).mono ?_
    rintro e w' ⟨v, rfl, h1, h2, h3⟩
    exact ⟨v, rfl, h1, h2, h3⟩
theorem Took.rd {w : World} {B n : Nat} {v : Value} {l : List UInt8} (h : Took w B v n l) : ∃ A c, v = .slice A n c ∧ Rd w B 1 A n (bys l) := by
  rcases h with ⟨rfl, rfl, rfl⟩ | ⟨ab, ao, c, rfl, _, h⟩
  · exact ⟨Option.none, 0, rfl, Rd.none_ _ _ _ _⟩
  · exact ⟨_, c, rfl, h⟩

set_option maxRecDepth 100000 in
set_option maxHeartbeats 2000000 in
theorem rnum_any (full : List UInt8) (g B s : Nat) (r : Cl.R) (w : World) (hr : RRd full w g B r) (hg : B ≤ g) (hs : s ≤ 8) :
    Calls Try.prog 54 #[.pointer (some ⟨g, 0, none⟩), .int .i64 s] w fun e w' => e = .returned (.int .u64 (Cl.rnum r s).1) ∧ RRd full w' g B (Cl.rnum r s).2 ∧ w.grownBy w' (some g) := by
  have K := hide (rtake_any full g B s r w hr hg (by omega))
  have e1 : (Cl.rnum r s).2 = (Cl.take r s).2 := rfl
  have e2 : (Cl.rnum r s).1 = Wd.le (Cl.take r s).1 := rfl
  rw [e1, e2]
  have hl8 : (Cl.take r s).1.length ≤ 8 := by
    unfold Cl.take
    split
    · simp
    · simp; omega
  have hgl := hr.lt
  generalize Cl.take r s = tk at *
  obtain ⟨l, r2⟩ := tk
  simp only at K hl8 ⊢
  clear e1 e2 hr
  go_enter Try.func54, Try.ntmps54
  go_wp2_with fail
  refine (unhide K).mono ?_
  rintro e w1 ⟨v, rfl, ht, hr1, hg1⟩
  obtain ⟨A, c, rfl, hrd⟩ := ht.rd
  have Hrd := hide hrd
  have Hr1 := hide hr1
  have Hg1 := hide hg1
  obtain ⟨n, hn⟩ : ∃ n, l.length = n := ⟨_, rfl⟩
  rw [hn] at hl8 Hrd
  have Hn := hide hn
  have hsz := hg1.size
  clear ht hr1 hg1 hrd K
  rw [hn]
  clear hn
  go_wp2_with fail
  go_loopg [6, 7] n (fun gk x i wr => ∃ k : Nat, gk = k ∧ k ≤ n ∧ i = .int .i64 ((k : Int) - 1) ∧ x = .int .u64 (Wd.le (l.drop k)) ∧ w1 = wr)
  case atStart => exact ⟨n, rfl, Nat.le_refl _, rfl, by rw [List.drop_eq_nil_of_le (by rw [unhide Hn]; exact Nat.le_refl _)]; rfl, rfl⟩
  case round =>
  obtain ⟨k, hgk, hk, rfl, rfl, rfl⟩ := hrel
  have Hgk := hide hgk
  clear hgk
  by_cases hk0 : k = 0
  · subst hk0
    go_wp2_with fail
    go_ret
    exact ⟨rfl, unhide Hr1, unhide Hg1⟩
  · obtain ⟨j, rfl⟩ : ∃ j, k = j + 1 := ⟨k - 1, by omega⟩
    obtain ⟨x, hx⟩ : ∃ x, l[j]? = some x := ⟨_, List.getElem?_eq_getElem (by rw [unhide Hn]; omega)⟩
    obtain ⟨b1, o1, rfl, _, c1⟩ := (unhide Hrd).at_ (k := j) (u := .int .u8 x.toNat) (bys_at hx)
    have hd : Wd.le (l.drop j) = x.toNat + 256 * Wd.le (l.drop (j + 1)) := by
      rw [List.drop_eq_getElem_cons (by rw [unhide Hn]; omega), (List.getElem?_eq_some_iff.1 hx).2]
      rfl
    have hlt : Wd.le (l.drop j) < 18446744073709551616 := by
      have h1 := Wd.le_lt (l.drop j)
      have h2 : (256 : Nat) ^ (l.drop j).length ≤ 256 ^ 8 := Nat.pow_le_pow_right (by omega) (by rw [List.length_drop, unhide Hn]; omega)
      omega
    have e1 : ((j + 1 : Nat) : Int) - 1 = (j : Int) := by omega
    rw [e1]
    have Hd := hide hd
    have hx8 := x.toNat_lt
    rw [hd] at hlt
    clear hx hd e1
    generalize Wd.le (l.drop (j + 1)) = y at *
    have hlt2 : 256 * (y : Int) + (x.toNat : Int) < 18446744073709551616 := by omega
    go_wp2_with fail
    go_roundg j
    case measure => have := unhide Hgk; omega
    case rel => exact ⟨j, rfl, by omega, by go_num, by rw [unhide Hd]; congr 1; push_cast; omega, rfl⟩
end Go.Proofs.Ytphbkjdheopmhaa
