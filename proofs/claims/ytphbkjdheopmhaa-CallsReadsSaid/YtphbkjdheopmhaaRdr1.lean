/- The walks of the calls' reader: take, number, bytes. Conditions: there are fewer than 2^32 bytes. -/
import Derived.Test.YtphbkjdheopmhaaConv
import Derived.Test.YtphbkjdheopmhaaBlk
import Derived.Test.YtphbkjdheopmhaaWords
import Derived.Test.YtphbkjdheopmhaaClForm
import Derived.Test.YtphbkjdheopmhaaPut1
namespace Go.Proofs.Ytphbkjdheopmhaa
set_option linter.unusedVariables false
set_option linter.unusedSimpArgs false
open Go.RowKit

/-- Block g is a reader's, of what is left and whether some was lacking; the bytes lie below B. -/
def Rdr (w : World) (g B : Nat) (r : Cl.R) : Prop := ∃ ab ao m c, Blk w g 77 [.slice (some ⟨ab, ao, none⟩) m c, .bool r.gone] ∧ Rd w B 1 (some ⟨ab, ao, none⟩) m (bys r.b) ∧ m ≤ c ∧ m ≤ 4294967296
/-- What was taken: nothing at all, or a part of the bytes. -/
def Took (w : World) (B : Nat) (v : Value) (n : Nat) (l : List UInt8) : Prop := (v = .slice none 0 0 ∧ n = 0 ∧ l = []) ∨ ∃ ab ao c, v = .slice (some ⟨ab, ao, none⟩) n c ∧ n ≤ c ∧ Rd w B 1 (some ⟨ab, ao, none⟩) n (bys l)

theorem grown_set {w : World} {g i : Nat} (u : Value) : w.grownBy (w.setCell ⟨g, i, none⟩ u) (some g) := ⟨rfl, rfl, rfl, by simp, fun k hk hne => Below.heap_setCell _ _ _ _ (fun e => hne (by simp at e; rw [e]))⟩
theorem Rd.from {w : World} {B n : Nat} {b1 o1 k : Nat} {l : List UInt8} (h : Rd w B 1 (some ⟨b1, o1, none⟩) n (bys l)) (hk : k ≤ n) : Rd w B 1 (some ⟨b1, o1 + k, none⟩) (n - k) (bys (l.drop k)) := by
  have hl : l.length = n := by simpa [bys] using h.len1
  have h1 := h.sub (off := k) (k := n - k) (by omega)
  have e : ((bys l).drop k).take (n - k) = bys (l.drop k) := by
    unfold bys
    rw [← List.map_drop, ← List.map_take, List.take_of_length_le (by simp; omega)]
  rwa [e] at h1

set_option maxRecDepth 100000 in
set_option maxHeartbeats 1000000 in
theorem take_yes (g B n : Nat) (r : Cl.R) (w : World) (hr : Rdr w g B r) (hg : B ≤ g) (h1 : r.gone = false) (h2 : n ≤ r.b.length) :
    Calls Try.prog 70 #[.pointer (some ⟨g, 0, none⟩), .int .u64 n] w fun e w' => ∃ v, e = .returned v ∧ Took w' B v n (r.b.take n) ∧ Rdr w' g B ⟨r.b.drop n, false⟩ ∧ w.grownBy w' (some g) := by
  obtain ⟨ab, ao, m, c, hb, hrd, hmc, hm⟩ := hr
  have hbl : r.b.length = m := by simpa [bys] using hrd.len1
  rw [hbl] at h2
  rw [h1] at hb
  have c0 := hb.cell (i := 0) rfl
  have c1 := hb.cell (i := 1) rfl
  have f0 := hb.free 0
  have hgl := hb.lt
  have Hb := hide hb
  have Hrd := hide hrd
  have Hbl := hide hbl
  clear hb hrd hbl h1
  go_enter Try.func70, Try.ntmps70
  by_cases hcn : c = n
  · subst hcn
    obtain rfl : m = c := by omega
    go_wp2_with fail
    go_ret
    have hd : r.b.drop m = [] := List.drop_eq_nil_of_le (by rw [unhide Hbl]; exact Nat.le_refl _)
    have ht : r.b.take m = r.b := List.take_of_length_le (by rw [unhide Hbl]; exact Nat.le_refl _)
    refine ⟨_, rfl, .inr ⟨ab, ao, m, rfl, Nat.le_refl _, ?_⟩, ⟨ab, ao, 0, 0, ?_, ?_, by omega, by omega⟩, grown_set _⟩
    · rw [ht]
      exact (unhide Hrd).setCell hg _
    · exact (unhide Hb).set 0 _
    · rw [hd]
      exact ⟨rfl, .inl rfl⟩
  · have hcn' : n < c := by omega
    go_wp2_with fail
    go_ret
    refine ⟨_, rfl, .inr ⟨ab, ao, c, rfl, by omega, ?_⟩, ⟨ab, ao + n, m - n, c - n, ?_, ?_, by omega, by omega⟩, grown_set _⟩
    · have h := (unhide Hrd).cutN (k := n) (by omega)
      rw [bys_take] at h
      exact h.setCell hg _
    · exact (unhide Hb).set 0 _
    · exact ((unhide Hrd).from h2).setCell hg _

set_option maxRecDepth 100000 in
set_option maxHeartbeats 1000000 in
theorem take_no (g B n : Nat) (r : Cl.R) (w : World) (hr : Rdr w g B r) (hg : B ≤ g) (h : r.gone = true ∨ r.b.length < n) (hn : n < 18446744073709551616) :
    Calls Try.prog 70 #[.pointer (some ⟨g, 0, none⟩), .int .u64 n] w fun e w' => e = .returned (.slice none 0 0) ∧ Rdr w' g B ⟨r.b, true⟩ ∧ w.grownBy w' (some g) := by
  obtain ⟨ab, ao, m, c, hb, hrd, hmc, hm⟩ := hr
  have hbl : r.b.length = m := by simpa [bys] using hrd.len1
  rw [hbl] at h
  have f1 := hb.free 1
  have c1 := hb.cell (i := 1) rfl
  have hgl := hb.lt
  have Hb := hide hb
  have Hrd := hide hrd
  cases hgn : r.gone
  · rw [hgn] at c1 h
    have h2 : m < n := by simpa using h
    have c0 := hb.cell (i := 0) rfl
    clear hb hrd hbl h
    go_enter Try.func70, Try.ntmps70
    go_wp2_with fail
    go_ret
    exact ⟨rfl, ⟨ab, ao, m, c, (unhide Hb).set 1 _, (unhide Hrd).setCell hg _, hmc, hm⟩, grown_set _⟩
  · rw [hgn] at c1
    clear hb hrd hbl h
    go_enter Try.func70, Try.ntmps70
    go_wp2_with fail
    go_ret
    exact ⟨rfl, ⟨ab, ao, m, c, (unhide Hb).set 1 _, (unhide Hrd).setCell hg _, hmc, hm⟩, grown_set _⟩

/-- take, both ways. -/
theorem take_any (g B n : Nat) (r : Cl.R) (w : World) (hr : Rdr w g B r) (hg : B ≤ g) (hn : n < 18446744073709551616) :
    Calls Try.prog 70 #[.pointer (some ⟨g, 0, none⟩), .int .u64 n] w fun e w' => ∃ v m, e = .returned v ∧ (m = n ∨ (Cl.take r n).1 = []) ∧ Took w' B v m (Cl.take r n).1 ∧ Rdr w' g B (Cl.take r n).2 ∧ w.grownBy w' (some g) := by
  by_cases h : r.gone = true ∨ r.b.length < n
  · have e : Cl.take r n = ([], ⟨r.b, true⟩) := if_pos h
    rw [e]
    refine (take_no g B n r w hr hg h hn).mono ?_
    rintro e w' ⟨rfl, h1, h2⟩
    exact ⟨_, 0, rfl, .inr rfl, .inl ⟨rfl, rfl, rfl⟩, h1, h2⟩
  · have e : Cl.take r n = (r.b.take n, ⟨r.b.drop n, false⟩) := if_neg h
    rw [e]
    refine (take_yes g B n r w hr hg (by cases hgn : r.gone; rfl; exact absurd (.inl hgn) h) (by
      rcases Nat.lt_or_ge r.b.length n with h1 | h1
      · exact absurd (.inr h1) h
      · exact h1)).mono ?_
    rintro e w' ⟨v, rfl, h1, h2, h3⟩
    exact ⟨v, n, rfl, .inl rfl, h1, h2, h3⟩

theorem Took.none {w : World} {B n : Nat} {l : List UInt8} (h : Took w B (.slice none 0 0) n l) : n = 0 ∧ l = [] := by
  rcases h with ⟨_, h1, h2⟩ | ⟨ab, ao, c, h1, _⟩
  · exact ⟨h1, h2⟩
  · cases h1
theorem num_all {l : List UInt8} {n : Nat} (h : l.length = n) : Wd.num l 0 n = Wd.le l := by
  unfold Wd.num
  rw [List.drop_zero, List.take_of_length_le (by omega)]

set_option maxRecDepth 100000 in
set_option maxHeartbeats 1000000 in
theorem number_yes (g B s : Nat) (r : Cl.R) (w : World) (hr : Rdr w g B r) (hg : B ≤ g) (hs : s = 1 ∨ s = 2 ∨ s = 4 ∨ s = 8) :
    Calls Try.prog 53 #[.pointer (some ⟨g, 0, none⟩), .int .i64 s] w fun e w' => e = .returned (.int .u64 (Cl.rnum r s).1) ∧ Rdr w' g B (Cl.rnum r s).2 ∧ w.grownBy w' (some g) := by
  have hs8 : s ≤ 8 := by omega
  have hgl : g < w.heap.size := by obtain ⟨ab, ao, m, c, hb, _⟩ := hr; exact hb.lt
  have e1 : (Cl.rnum r s).2 = (Cl.take r s).2 := rfl
  have e2 : (Cl.rnum r s).1 = Wd.le (Cl.take r s).1 := rfl
  rw [e1, e2]
  clear e1 e2
  by_cases h : r.gone = true ∨ r.b.length < s
  · have e : Cl.take r s = ([], ⟨r.b, true⟩) := if_pos h
    rw [e]
    have K := hide (take_no g B s r w hr hg h (by omega))
    have K2 := hide (fun w => get_no none 0 0 0 s w (by decide) (by omega) (by omega) (by omega) (by omega))
    clear hr h e hs
    go_enter Try.func53, Try.ntmps53
    go_wp2_with fail
    refine (unhide K).mono ?_
    rintro e w1 ⟨rfl, hr1, hg1⟩
    have Hr1 := hide hr1
    have Hg1 := hide hg1
    clear hr1 hg1
    go_wp2_with fail
    refine ((unhide K2) _).mono ?_
    rintro e w2 ⟨rfl, hb2⟩
    have Hb2 := hide hb2
    clear hb2
    go_wp2_with fail
    go_ret
    have hb2 := unhide Hb2
    refine ⟨rfl, ?_, grown_trans (unhide Hg1) ⟨hb2.os, hb2.tape, hb2.output, hb2.size, fun k hk _ => hb2.block k hk⟩⟩
    obtain ⟨ab, ao, m, c, q1, q2, q3, q4⟩ := unhide Hr1
    exact ⟨ab, ao, m, c, q1.belowSz hb2, q2.below (hb2.mono (by have := q1.lt; omega)), q3, q4⟩
  · have e : Cl.take r s = (r.b.take s, ⟨r.b.drop s, false⟩) := if_neg h
    rw [e]
    have h1 : r.gone = false := by cases hgn : r.gone; rfl; exact absurd (.inl hgn) h
    have h2 : s ≤ r.b.length := by
      rcases Nat.lt_or_ge r.b.length s with h1 | h1
      · exact absurd (.inr h1) h
      · exact h1
    have K := hide (take_yes g B s r w hr hg h1 h2)
    have hlen : (r.b.take s).length = s := by simp; omega
    have hnm := num_all hlen
    have Hnm := hide hnm
    have Hs := hide hs
    simp only
    generalize r.b.take s = l at *
    generalize r.b.drop s = d at *
    clear hr h e hs hnm h1 h2
    go_enter Try.func53, Try.ntmps53
    go_wp2_with fail
    refine (unhide K).mono ?_
    rintro e w1 ⟨v, rfl, ht, hr1, hg1⟩
    have hB1 : B ≤ w1.heap.size := by have := hg1.size; omega
    obtain ⟨ab, ao, c, rfl, hsc, hrd⟩ : ∃ ab ao c, v = .slice (some ⟨ab, ao, none⟩) s c ∧ s ≤ c ∧ Rd w1 B 1 (some ⟨ab, ao, none⟩) s (bys l) := by
      rcases ht with ⟨_, h0, _⟩ | ht
      · have := unhide Hs; omega
      · exact ht
    have K2 := get_yes (some ⟨ab, ao, none⟩) s c B l 0 s w1 hB1 hrd (by unfold maxLen; omega) (unhide Hs) (by omega)
    rw [unhide Hnm] at K2
    replace K2 := hide K2
    have Hr1 := hide hr1
    have Hg1 := hide hg1
    clear hr1 hg1 ht hrd K
    go_wp2_with fail
    refine (unhide K2).mono ?_
    rintro e w2 ⟨rfl, hb2⟩
    have Hb2 := hide hb2
    clear hb2
    go_wp2_with fail
    go_ret
    have hb2 := unhide Hb2
    refine ⟨rfl, ?_, grown_trans (unhide Hg1) ⟨hb2.os, hb2.tape, hb2.output, hb2.size, fun k hk _ => hb2.block k hk⟩⟩
    obtain ⟨ab, ao, m, c, q1, q2, q3, q4⟩ := unhide Hr1
    exact ⟨ab, ao, m, c, q1.belowSz hb2, q2.below (hb2.mono (by have := q1.lt; omega)), q3, q4⟩
end Go.Proofs.Ytphbkjdheopmhaa
