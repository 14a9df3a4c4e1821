/- What follows of a table that is right: plain facts. No conditions. What follows of what is told: limits, and texts that stand in the file. Conditions: as each says. The walk of the law's own within, where the text stands in the bytes. Conditions: as it says. The walk of the law DynamicHolds. Conditions: as it says. The statement DynamicHolds: whatever the input, the law returns true, and what was there reads as it did. No conditions. -/
import Derived.Test.YtdminnhfgdoibaaDyB4
import Derived.Test.YtdminnhfgdoibaaRows
import Derived.ProofKit
import Derived.OpenShut
import Derived.ShutString
import Derived.ChangeOld
import Derived.Below
import Derived.SliceStrings
import Derived.Lib.SmallJoins
namespace Go.Proofs.Ytdminnhfgdoibaa
set_option linter.unusedVariables false
set_option linter.unusedSimpArgs false
open Go.RowKit
namespace Dy
theorem open_fst {b : List UInt8} {segs : List El.Sg} {x : Int} {L : List (Nat × Nat)} (h : open_ b segs = (x, some L)) : x = 0 := by
  cases hf : segs.find? (fun s => s.kind == 2) with
  | none => rw [open_none hf] at h; injection h with _ h; cases h
  | some s =>
    rw [open_some hf] at h
    split at h
    · injection h with _ h; cases h
    · cases he : ents b (s.fsz / 16) s.off with
      | none => rw [he] at h; injection h with _ h; cases h
      | some L2 =>
        rw [he] at h
        dsimp only at h
        split at h
        · injection h with h _; exact h.symm
        · injection h with _ h; cases h
theorem parse_bad {b : List UInt8} {segs : List El.Sg} (h2 : (parse b segs).2 ≠ 0) : (parse b segs).1 = zero := by
  obtain ⟨⟨x, ox⟩, hx⟩ : ∃ y, open_ b segs = y := ⟨_, rfl⟩
  cases ox with
  | none => rw [parse_no hx]
  | some L =>
    have hx0 := open_fst hx
    subst hx0
    rw [parse_some hx] at h2 ⊢
    cases ht : table b.length (El.loads segs) L 5 10 with
    | none => rfl
    | some t =>
      rw [ht] at h2
      by_cases h3 : (names b (El.loads segs) L).1 = 0
      · by_cases h4 : (relaB b (El.loads segs) L).1 = 0
        · cases hd : texts (cut b t.1 t.2) (val L 29).isSome L zero with
          | none => rw [pBody_4 h3 h4 hd]
          | some d =>
            cases hs : symsFrom (cut b t.1 t.2) b ((names b (El.loads segs) L).2.chain - 1) ((names b (El.loads segs) L).2.syms + 24) with
            | none => rw [pBody_5 h3 h4 hd hs]
            | some ss =>
              cases hr : relsFrom ss.length (relaB b (El.loads segs) L).2 ((relaB b (El.loads segs) L).2.length / 24) 0 with
              | none => rw [pBody_6 h3 h4 hd hs hr]
              | some rs => rw [pBody_7 h3 h4 hd hs hr] at h2; exact absurd rfl h2
        · rw [pBody_3 h3 h4]
      · rw [pBody_2 h3]
theorem parse_names {b : List UInt8} {segs : List El.Sg} (h2 : (parse b segs).2 = 0) : ∀ x ∈ (parse b segs).1.syms, x.name.size ≤ b.length := by
  obtain ⟨⟨x, ox⟩, hx⟩ : ∃ y, open_ b segs = y := ⟨_, rfl⟩
  cases ox with
  | none => rw [parse_no hx]; intro x hx; cases hx
  | some L =>
    have hx0 := open_fst hx
    subst hx0
    exact (parse_syms hx h2).2
theorem names_chain {b : List UInt8} {l : List El.Sg} {L : List (Nat × Nat)} (h : (names b l L).1 = 0) : (names b l L).2.chain ≤ 65 := by
  unfold names at h ⊢
  cases h4 : val L 4 with
  | none => exact Nat.zero_le _
  | some a =>
    rw [h4] at h
    dsimp only at h ⊢
    cases hl : laid b.length l a 8 with
    | none => exact Nat.zero_le _
    | some q =>
      rw [hl] at h
      dsimp only at h ⊢
      by_cases hc : 65 < Wd.num b (q + 4) 4
      · rw [if_pos hc]; exact Nat.zero_le _
      · rw [if_neg hc]
        cases h1 : laid b.length l a (8 + 4 * Wd.num b q 4 + 4 * Wd.num b (q + 4) 4) with
        | none => exact Nat.zero_le _
        | some x =>
          cases h2 : laid b.length l ((val L 6).getD 0) (24 * Wd.num b (q + 4) 4) with
          | none => exact Nat.zero_le _
          | some y => exact Nat.le_of_not_lt hc
theorem parse_many {b : List UInt8} {segs : List El.Sg} (h2 : (parse b segs).2 = 0) : (parse b segs).1.syms.length ≤ 64 := by
  obtain ⟨⟨x, ox⟩, hx⟩ : ∃ y, open_ b segs = y := ⟨_, rfl⟩
  cases ox with
  | none => rw [parse_no hx]; exact Nat.zero_le _
  | some L =>
    have hx0 := open_fst hx
    subst hx0
    obtain ⟨t, d, ss, rs, -, hn, -⟩ := parse_parts hx h2
    have h1 := (parse_syms hx h2).1
    have h3 := names_chain hn
    omega
theorem right_bad {b : List UInt8} {segs : List El.Sg} (h2 : (parse b segs).2 ≠ 0) : right b segs = false := by
  unfold right
  rw [if_pos h2]
theorem lookIn_no {D : Dyn} {name : ByteArray} : ∀ l : List Nat, (lookIn D name l).2 = false → (lookIn D name l).1 = 0
  | [], _ => rfl
  | i :: r, h => by
    rw [lookIn] at h ⊢
    split at h
    · cases h
    · rename_i h3
      rw [if_neg h3]
      exact lookIn_no r h
theorem lookIn_yes {D : Dyn} {name : ByteArray} : ∀ l : List Nat, (lookIn D name l).2 = true → ∃ s, D.syms[(lookIn D name l).1]? = some s ∧ s.name = name
  | [], h => by cases h
  | i :: r, h => by
    rw [lookIn] at h ⊢
    split at h
    · rename_i h3
      rw [if_pos h3]
      cases hs : D.syms[i - 1]? with
      | none => rw [hs] at h3; cases h3
      | some s => rw [hs] at h3; exact ⟨s, rfl, Option.some.inj h3⟩
    · rename_i h3
      rw [if_neg h3]
      exact lookIn_yes r h
theorem lookIn_all {D : Dyn} {name : ByteArray} {i : Nat} {s : Sym} (hs : D.syms[i - 1]? = some s) (hn : s.name = name) : ∀ l : List Nat, i ∈ l → (lookIn D name l).2 = true
  | [], h => by cases h
  | j :: r, h => by
    rw [lookIn]
    split
    · rfl
    · rename_i h3
      rcases List.mem_cons.1 h with rfl | h
      · rw [hs, ← hn] at h3; exact absurd rfl h3
      · exact lookIn_all hs hn r h
theorem rightFrom_all {b : List UInt8} {N : Names} : ∀ (l : List Sym) (k : Nat), rightFrom b N l k = true → ∀ j s, l[j]? = some s → s.name.size ≠ 0 → k + j + 1 ∈ (links b N s.name.data.toList).1
  | [], _, _, j, s, h, _ => by simp at h
  | x :: r, k, h, j, s, hj, hs => by
    rw [rightFrom, Bool.and_eq_true, Bool.or_eq_true, Bool.and_eq_true] at h
    cases j with
    | zero =>
      simp at hj
      subst hj
      rcases h.1 with h1 | h1
      · exact absurd (by simpa using h1) hs
      · have := h1.2
        rw [List.contains_iff_mem] at this
        exact this
    | succ j =>
      have := rightFrom_all r (k + 1) h.2 j s (by simpa using hj) hs
      rw [show k + (j + 1) + 1 = k + 1 + j + 1 from by omega]
      exact this
def there (D : Dyn) (name : ByteArray) (k : Nat) : Bool := (D.syms.take k).any fun s => decide (s.name = name)
theorem there_next {D : Dyn} {name : ByteArray} {k : Nat} {s : Sym} (h : D.syms[k]? = some s) : there D name (k + 1) = (there D name k || decide (s.name = name)) := by
  unfold there
  rw [List.take_add_one, h, List.any_append]
  simp
/-- What follows: what is found has the name; by a table that is right every name is found that is there. -/
theorem finds {b : List UInt8} {segs : List El.Sg} {name : ByteArray} {D : Dyn} (hp : parse b segs = (D, 0)) :
    ((look b segs name).2 = false → (look b segs name).1 = 0) ∧ ((look b segs name).2 = true → ∃ s, D.syms[(look b segs name).1]? = some s ∧ s.name = name) ∧
    (right b segs = true → name.size ≠ 0 → (look b segs name).2 = there D name D.syms.length) := by
  obtain ⟨⟨x, ox⟩, hx⟩ : ∃ y, open_ b segs = y := ⟨_, rfl⟩
  have h2 : (parse b segs).2 = 0 := by rw [hp]
  cases ox with
  | none =>
    have hl : look b segs name = (0, false) := by
      unfold look
      rw [hx, if_neg (by simpa using h2)]
    have hz : D = zero := by
      have := parse_no hx
      rw [hp] at this
      injection this
    rw [hl, hz]
    exact ⟨fun _ => rfl, (by intro h; cases h), fun _ _ => rfl⟩
  | some L =>
    have hx0 := open_fst hx
    subst hx0
    have hh : has b segs (names b (El.loads segs) L).2 true := .inr ⟨rfl, h2, L, hx, rfl⟩
    have hl := has_look hh name
    have hr := has_right hh
    rw [if_pos rfl, hp] at hl hr
    dsimp only at hl hr
    rw [hl, hr]
    refine ⟨lookIn_no _, lookIn_yes _, fun h1 hn => ?_⟩
    cases hq : there D name D.syms.length with
    | true =>
      unfold there at hq
      rw [List.take_length, List.any_eq_true] at hq
      obtain ⟨s, hs, he⟩ := hq
      have he2 : s.name = name := of_decide_eq_true he
      obtain ⟨j, hj⟩ := List.getElem?_of_mem hs
      have hm := rightFrom_all _ 0 h1 j s hj (by rw [he2]; exact hn)
      rw [Nat.zero_add, he2] at hm
      exact lookIn_all (i := j + 1) hj he2 _ hm
    | false =>
      cases hk : (lookIn D name (links b (names b (El.loads segs) L).2 name.data.toList).1).2 with
      | false => rfl
      | true =>
        obtain ⟨s, hs, he⟩ := lookIn_yes _ hk
        exfalso
        unfold there at hq
        rw [List.take_length, List.any_eq_false] at hq
        exact hq s (List.mem_of_getElem? hs) (decide_eq_true he)
end Dy
end Go.Proofs.Ytdminnhfgdoibaa
namespace Go.Proofs.Ytdminnhfgdoibaa
set_option linter.unusedVariables false
set_option linter.unusedSimpArgs false
open Go.RowKit
namespace Dy
/-- Does a text stand in bytes, with a byte 0 behind it? -/
def stands (b : List UInt8) (s : ByteArray) : Prop := ∃ i, i + s.size < b.length ∧ b[i + s.size]? = some 0 ∧ (b.drop i).take s.size = s.data.toList
theorem open_may {b : List UInt8} {segs : List El.Sg} {L : List (Nat × Nat)} (h : open_ b segs = (0, some L)) : may L = 0 := by
  cases hf : segs.find? (fun s => s.kind == 2) with
  | none => rw [open_none hf] at h; injection h with _ h; cases h
  | some s =>
    rw [open_some hf] at h
    split at h
    · injection h with _ h; cases h
    · cases he : ents b (s.fsz / 16) s.off with
      | none => rw [he] at h; injection h with _ h; cases h
      | some L2 =>
        rw [he] at h
        dsimp only at h
        split at h
        · rename_i hm
          injection h with _ h
          injection h with h
          subst h
          exact hm
        · injection h with _ h; cases h
theorem may_many {L : List (Nat × Nat)} (h : may L = 0) : many L ≤ 8 := by
  unfold may at h
  split at h
  · exact absurd h (by decide)
  · split at h
    · exact absurd h (by decide)
    · omega
theorem may_errs (L : List (Nat × Nat)) : may L = 0 ∨ may L = 25 ∨ may L = 12 := by
  unfold may
  split
  · exact .inr (.inl rfl)
  · split
    · exact .inr (.inr rfl)
    · exact .inl rfl
theorem open_errs (b : List UInt8) (segs : List El.Sg) : (open_ b segs).1 = 0 ∨ (open_ b segs).1 = 25 ∨ (open_ b segs).1 = 12 := by
  cases hf : segs.find? (fun s => s.kind == 2) with
  | none => rw [open_none hf]; exact .inl rfl
  | some s =>
    rw [open_some hf]
    split
    · exact .inr (.inl rfl)
    · cases he : ents b (s.fsz / 16) s.off with
      | none => exact .inr (.inl rfl)
      | some L2 =>
        dsimp only
        split
        · exact .inl rfl
        · exact may_errs L2
theorem names_errs (b : List UInt8) (l : List El.Sg) (L : List (Nat × Nat)) : (names b l L).1 = 0 ∨ (names b l L).1 = 25 ∨ (names b l L).1 = 12 := by
  unfold names
  cases h4 : val L 4 with
  | none => exact .inl rfl
  | some a =>
    dsimp only
    cases hl : laid b.length l a 8 with
    | none => exact .inr (.inl rfl)
    | some q =>
      dsimp only
      by_cases hc : 65 < Wd.num b (q + 4) 4
      · rw [if_pos hc]; exact .inr (.inr rfl)
      · rw [if_neg hc]
        cases h1 : laid b.length l a (8 + 4 * Wd.num b q 4 + 4 * Wd.num b (q + 4) 4) with
        | none => exact .inr (.inl rfl)
        | some x =>
          cases h2 : laid b.length l ((val L 6).getD 0) (24 * Wd.num b (q + 4) 4) with
          | none => exact .inr (.inl rfl)
          | some y => exact .inl rfl
theorem relaB_errs (b : List UInt8) (l : List El.Sg) (L : List (Nat × Nat)) : (relaB b l L).1 = 0 ∨ (relaB b l L).1 = 25 ∨ (relaB b l L).1 = 12 := by
  unfold relaB
  split
  · exact .inr (.inl rfl)
  · split
    · exact .inr (.inr rfl)
    · cases ha : table b.length l L 7 8 with
      | none => exact .inr (.inl rfl)
      | some x =>
        cases hb : table b.length l L 23 2 with
        | none => exact .inr (.inl rfl)
        | some y => exact .inl rfl
theorem parse_errs (b : List UInt8) (segs : List El.Sg) : (parse b segs).2 = 0 ∨ (parse b segs).2 = 25 ∨ (parse b segs).2 = 12 := by
  obtain ⟨⟨x, ox⟩, hx⟩ : ∃ y, open_ b segs = y := ⟨_, rfl⟩
  cases ox with
  | none =>
    rw [parse_no hx]
    have := open_errs b segs
    rw [hx] at this
    exact this
  | some L =>
    have hx0 := open_fst hx
    subst hx0
    rw [parse_some hx]
    cases ht : table b.length (El.loads segs) L 5 10 with
    | none => exact .inr (.inl rfl)
    | some t =>
      by_cases h3 : (names b (El.loads segs) L).1 = 0
      · by_cases h4 : (relaB b (El.loads segs) L).1 = 0
        · cases hd : texts (cut b t.1 t.2) (val L 29).isSome L zero with
          | none => rw [pBody_4 h3 h4 hd]; exact .inr (.inl rfl)
          | some d =>
            cases hs : symsFrom (cut b t.1 t.2) b ((names b (El.loads segs) L).2.chain - 1) ((names b (El.loads segs) L).2.syms + 24) with
            | none => rw [pBody_5 h3 h4 hd hs]; exact .inr (.inl rfl)
            | some ss =>
              cases hr : relsFrom ss.length (relaB b (El.loads segs) L).2 ((relaB b (El.loads segs) L).2.length / 24) 0 with
              | none => rw [pBody_6 h3 h4 hd hs hr]; exact .inr (.inl rfl)
              | some rs => rw [pBody_7 h3 h4 hd hs hr]; exact .inl rfl
        · rw [pBody_3 h3 h4]; exact relaB_errs _ _ _
      · rw [pBody_2 h3]; exact names_errs _ _ _
theorem takeWhile_stop {l : List UInt8} (h : l.contains 0 = true) : (l.takeWhile fun c => c != 0).length < l.length ∧ l[(l.takeWhile fun c => c != 0).length]? = some 0 ∧ l.take (l.takeWhile fun c => c != 0).length = l.takeWhile fun c => c != 0 := by
  induction l with
  | nil => cases h
  | cons a r ih =>
    by_cases ha : a = 0
    · subst ha
      simp
    · have hr : r.contains 0 = true := by
        rw [List.contains_iff_mem] at h ⊢
        rcases List.mem_cons.1 h with h | h
        · exact absurd h.symm ha
        · exact h
      obtain ⟨h1, h2, h3⟩ := ih hr
      have hw : (a :: r).takeWhile (fun c => c != 0) = a :: r.takeWhile fun c => c != 0 := by
        rw [List.takeWhile_cons, if_pos (by simpa using ha)]
      rw [hw]
      refine ⟨by simpa using h1, by simpa using h2, ?_⟩
      rw [List.length_cons, List.take_succ_cons, h3]
theorem text_stands {b : List UInt8} {o m q : Nat} {s : ByteArray} (h : text (cut b o m) q = some s) : stands b s := by
  unfold text at h
  split at h
  · cases h
  · rename_i hq
    split at h
    · rename_i hc
      injection h with h
      subst h
      obtain ⟨h1, h2, h3⟩ := takeWhile_stop hc
      have hu : (cut b o m).drop q = (b.drop (o + q)).take (m - q) := by
        unfold cut
        rw [List.drop_take, List.drop_drop]
      rw [hu] at h1 h2 h3
      have hsz : (⟨(((b.drop (o + q)).take (m - q)).takeWhile fun c => c != 0).toArray⟩ : ByteArray).size = (((b.drop (o + q)).take (m - q)).takeWhile fun c => c != 0).length := by
        show Array.size _ = _
        simp
      rw [hu]
      refine ⟨o + q, ?_, ?_, ?_⟩
      · rw [hsz]
        rw [List.length_take, List.length_drop] at h1
        omega
      · rw [hsz]
        rw [List.getElem?_take] at h2
        split at h2
        · rw [List.getElem?_drop] at h2
          exact h2
        · cases h2
      · rw [hsz]
        have h4 : (b.drop (o + q)).take (((b.drop (o + q)).take (m - q)).takeWhile fun c => c != 0).length = ((b.drop (o + q)).take (m - q)).take (((b.drop (o + q)).take (m - q)).takeWhile fun c => c != 0).length := by
          rw [List.take_take, Nat.min_eq_left]
          rw [List.length_take] at h1
          omega
        rw [h4, h3]
    · cases h
theorem texts_many {t : List UInt8} {run : Bool} : ∀ (L : List (Nat × Nat)) (d0 d : Dyn), texts t run L d0 = some d → d.needed.length = d0.needed.length + many L
  | [], d0, d, h => by injection h with h; subst h; rfl
  | e :: r, d0, d, h => by
    obtain ⟨e1, e2⟩ := e
    have hm : many ((e1, e2) :: r) = (if e1 = 1 then 1 else 0) + many r := by
      unfold many
      rw [List.filter_cons]
      by_cases h1 : e1 = 1
      · simp [h1]; omega
      · simp [h1]
    rw [hm]
    by_cases hk : e1 = 1 ∨ e1 = 14 ∨ e1 = 15 ∨ e1 = 29
    · cases ht : text t e2 with
      | none => rw [texts_no hk ht] at h; cases h
      | some s =>
        rw [texts_yes hk ht] at h
        have := texts_many r _ _ h
        rw [this]
        by_cases h1 : e1 = 1
        · rw [if_pos h1, if_pos h1]; simp; omega
        · rw [if_neg h1, if_neg h1]
          by_cases h2 : e1 = 14
          · rw [if_pos h2]; simp
          · rw [if_neg h2]
            split <;> simp
    · rw [texts_skip hk] at h
      have := texts_many r _ _ h
      rw [this, if_neg (fun h1 => hk (.inl h1)), Nat.zero_add]
/-- All texts of what is told. -/
def allT (d : Dyn) : List ByteArray := d.needed ++ [d.soname, d.run]
def goodT (b : List UInt8) (s : ByteArray) : Prop := s.size = 0 ∨ stands b s
theorem texts_good {b : List UInt8} {o m : Nat} {run : Bool} : ∀ (L : List (Nat × Nat)) (d0 d : Dyn), texts (cut b o m) run L d0 = some d → (∀ s ∈ allT d0, goodT b s) → ∀ s ∈ allT d, goodT b s
  | [], d0, d, h, h0 => by injection h with h; subst h; exact h0
  | e :: r, d0, d, h, h0 => by
    obtain ⟨e1, e2⟩ := e
    have hn : ∀ s ∈ d0.needed, goodT b s := fun s hs => h0 s (List.mem_append.2 (.inl hs))
    have hso : goodT b d0.soname := h0 _ (List.mem_append.2 (.inr (by simp)))
    have hru : goodT b d0.run := h0 _ (List.mem_append.2 (.inr (by simp)))
    by_cases hk : e1 = 1 ∨ e1 = 14 ∨ e1 = 15 ∨ e1 = 29
    · cases ht : text (cut b o m) e2 with
      | none => rw [texts_no hk ht] at h; cases h
      | some s =>
        rw [texts_yes hk ht] at h
        have hg : goodT b s := .inr (text_stands ht)
        refine texts_good r _ _ h ?_
        intro x hx
        unfold allT at hx
        by_cases h1 : e1 = 1
        · rw [if_pos h1] at hx
          simp only [List.mem_append, List.mem_cons, List.not_mem_nil, or_false] at hx
          rcases hx with (hx | rfl) | rfl | rfl
          · exact hn x hx
          · exact hg
          · exact hso
          · exact hru
        · rw [if_neg h1] at hx
          by_cases h2 : e1 = 14
          · rw [if_pos h2] at hx
            simp only [List.mem_append, List.mem_cons, List.not_mem_nil, or_false] at hx
            rcases hx with hx | rfl | rfl
            · exact hn x hx
            · exact hg
            · exact hru
          · rw [if_neg h2] at hx
            by_cases h3 : e1 = 29 ∨ run = false
            · rw [if_pos h3] at hx
              simp only [List.mem_append, List.mem_cons, List.not_mem_nil, or_false] at hx
              rcases hx with hx | rfl | rfl
              · exact hn x hx
              · exact hso
              · exact hg
            · rw [if_neg h3] at hx
              simp only [List.mem_append, List.mem_cons, List.not_mem_nil, or_false] at hx
              rcases hx with hx | rfl | rfl
              · exact hn x hx
              · exact hso
              · exact hru
    · rw [texts_skip hk] at h
      exact texts_good r _ _ h h0
theorem syms_good {b c : List UInt8} {o m : Nat} : ∀ {n p : Nat} {l : List Sym}, symsFrom (cut b o m) c n p = some l → ∀ x ∈ l, stands b x.name ∧ x.bind ≤ 2
  | 0, _, _, h => by unfold symsFrom at h; injection h with h; subst h; intro x hx; cases hx
  | n + 1, p, l, h => by
    unfold symsFrom at h
    cases hs : symAt (cut b o m) c p with
    | none => rw [hs] at h; cases h
    | some s =>
      rw [hs] at h
      cases hr : symsFrom (cut b o m) c n (p + 24) with
      | none => rw [hr] at h; cases h
      | some r =>
        rw [hr] at h
        injection h with h
        subst h
        intro x hx
        rcases List.mem_cons.1 hx with rfl | hx
        · unfold symAt at hs
          cases ht : text (cut b o m) (Wd.num c p 4) with
          | none => rw [ht] at hs; cases hs
          | some y =>
            rw [ht] at hs
            dsimp only at hs
            split at hs
            · cases hs
            · rename_i hb
              injection hs with hs
              subst hs
              exact ⟨text_stands ht, by dsimp only; omega⟩
        · exact syms_good hr x hx
theorem rels_good {m : Nat} {b : List UInt8} : ∀ {n p : Nat} {l : List Rel}, relsFrom m b n p = some l → l.length = n ∧ ∀ x ∈ l, x.sym ≤ m
  | 0, _, _, h => by unfold relsFrom at h; injection h with h; subst h; exact ⟨rfl, fun x hx => by cases hx⟩
  | n + 1, p, l, h => by
    unfold relsFrom at h
    split at h
    · cases h
    · rename_i hm
      cases hr : relsFrom m b n (p + 24) with
      | none => rw [hr] at h; cases h
      | some r =>
        rw [hr] at h
        injection h with h
        subst h
        obtain ⟨h1, h2⟩ := rels_good hr
        refine ⟨by simp [h1], fun x hx => ?_⟩
        rcases List.mem_cons.1 hx with rfl | hx
        · unfold relAt
          dsimp only
          omega
        · exact h2 x hx
/-- What is told keeps to the limits, and its texts stand in the file. -/
theorem holds {b : List UInt8} {segs : List El.Sg} {D : Dyn} (hp : parse b segs = (D, 0)) :
    D.needed.length ≤ 8 ∧ D.syms.length ≤ 64 ∧ D.relas.length ≤ 64 ∧ (∀ x ∈ D.relas, x.sym ≤ D.syms.length) ∧ (∀ x ∈ D.syms, x.bind ≤ 2) ∧ (∀ s ∈ allT D ++ D.syms.map (·.name), goodT b s) := by
  have h2 : (parse b segs).2 = 0 := by rw [hp]
  obtain ⟨⟨x, ox⟩, hx⟩ : ∃ y, open_ b segs = y := ⟨_, rfl⟩
  cases ox with
  | none =>
    have hz : D = zero := by
      have := parse_no hx
      rw [hp] at this
      injection this
    subst hz
    refine ⟨Nat.zero_le _, Nat.zero_le _, Nat.zero_le _, (fun x hx => by cases hx), (fun x hx => by cases hx), fun s hs => ?_⟩
    have : s = ⟨#[]⟩ := by
      simp only [allT, zero, List.nil_append, List.map_nil, List.append_nil, List.mem_cons, List.not_mem_nil, or_false, or_self] at hs
      exact hs
    rw [this]
    exact .inl rfl
  | some L =>
    have hx0 := open_fst hx
    subst hx0
    obtain ⟨t, d, ss, rs, -, -, -, ht, hs, hr, hpp⟩ := parse_parts hx h2
    have hm := parse_many h2
    rw [hp] at hpp hm
    injection hpp with hD
    subst hD
    dsimp only at hm ⊢
    have h1 := texts_many _ _ _ ht
    have h3 := may_many (open_may hx)
    obtain ⟨r1, r2⟩ := rels_good hr
    have hl := relaB_len (b := b) (l := El.loads segs) (L := L)
    have h0 : ∀ s ∈ allT zero, goodT b s := by
      intro s hs
      have : s = ⟨#[]⟩ := by
        simp only [allT, zero, List.nil_append, List.mem_cons, List.not_mem_nil, or_false, or_self] at hs
        exact hs
      rw [this]
      exact .inl rfl
    refine ⟨by rw [h1]; show 0 + many L ≤ 8; omega, hm, by omega, r2, fun x hx => (syms_good hs x hx).2, fun s hss => ?_⟩
    rcases List.mem_append.1 hss with hss | hss
    · exact texts_good _ _ _ ht h0 s hss
    · obtain ⟨y, hy, rfl⟩ := List.mem_map.1 hss
      exact .inr (syms_good hs y hy).1
end Dy
end Go.Proofs.Ytdminnhfgdoibaa
namespace Go.Proofs.Ytdminnhfgdoibaa
set_option linter.unusedVariables false
set_option linter.unusedSimpArgs false
open Go.RowKit

set_option maxRecDepth 100000 in
set_option maxHeartbeats 2000000 in
theorem within_any (A : Option Addr) (n c B : Nat) (b : List UInt8) (s : ByteArray) (w : World) (hb : Rd w B 1 A n (bys b)) (hn : n ≤ 4294967296) (hc : n ≤ c) (h : Dy.stands b s) :
    Calls Try.prog 18 #[.slice A n c, .string s] w fun e w' => e = .returned (.bool true) ∧ w = w' := by
  have hbl : b.length = n := by have := hb.1; simp [bys] at this; omega
  obtain ⟨i0, h1, h2, h3⟩ := h
  rw [hbl] at h1
  obtain ⟨m, hm⟩ : ∃ m, s.size = m := ⟨_, rfl⟩
  rw [hm] at h1 h2 h3
  have Hb := hide hb
  have Hbl := hide hbl
  have H2 := hide h2
  have H3 := hide h3
  have Hm := hide hm
  clear hb hbl h2 h3
  go_enter Try.func18, Try.ntmps18
  go_wp2_with fail
  clear hm
  go_loopg [6] (i0 + 1) (fun gk iv wr => ∃ k : Nat, gk = i0 + 1 - k ∧ k ≤ i0 ∧ iv = .int .i64 k ∧ w = wr)
  case atStart => exact ⟨0, rfl, Nat.zero_le _, rfl, rfl⟩
  case round =>
  obtain ⟨k, hgk, hk, rfl, rfl⟩ := hrel
  obtain ⟨p, hp⟩ : ∃ p, k + m = p := ⟨_, rfl⟩
  have hpI : (k : Int) + (m : Int) = (p : Int) := by omega
  have hpn : p < n := by omega
  have hpnI : (p : Int) < (n : Int) := by omega
  obtain ⟨d, hd⟩ : ∃ d, b[p]? = some d := ⟨_, List.getElem?_eq_getElem (by rw [unhide Hbl]; exact hpn)⟩
  obtain ⟨b1, o1, hA1, -, c0⟩ := (unhide Hb).at_ (k := p) (u := .int .u8 (d.toNat : Nat)) (by unfold bys; rw [List.getElem?_map, hd]; rfl)
  by_cases hd0 : d = 0
  case neg =>
    have hki : k ≠ i0 := by
      intro e
      subst e
      have := unhide H2
      rw [hp, hd] at this
      exact hd0 (Option.some.inj this)
    have hdI : ¬ ((d.toNat : Nat) : Int) = 0 := by
      intro e
      exact hd0 (UInt8.toNat_inj.1 (by simpa using e))
    subst hA1
    clear hd hd0
    go_wp2_with fail
    go_roundg (i0 + 1 - (k + 1))
    case measure => omega
    case rel => exact ⟨k + 1, rfl, by omega, by go_num, rfl⟩
  have hdI : ((d.toNat : Nat) : Int) = 0 := by rw [hd0]; rfl
  have kf : ∀ w' : World, (Instr.slice 22 (.slice A n c) (some (.int .i64 (k : Nat))) (some (.int .i64 (p : Nat))) none).run Try.prog w' = .ok (.slice (fromA A c k) (p - k) (c - k)) w' := fun w' => run_fromToK (P := Try.prog) Try.underlying22 (e := 5) (by kernel_rfl) .i64 .i64 A n c k p (by omega) (by omega) w'
  have hcut := (unhide Hb).cut (k := k) (j := p) (by omega) (by omega) hc
  rw [show ((bys b).drop k).take (p - k) = bys ((b.drop k).take m) by unfold bys; rw [← List.map_drop, ← List.map_take, show p - k = m from by omega]] at hcut
  have hcv := conv_any (c := c - k) hcut Try.underlying22 Try.underlying5 Try.underlying9
  obtain ⟨X, hX⟩ : ∃ X : ByteArray, (⟨((b.drop k).take m).toArray⟩ : ByteArray) = X := ⟨_, rfl⟩
  rw [hX] at hcv
  obtain ⟨A2, hA2⟩ : ∃ x, fromA A c k = x := ⟨_, rfl⟩
  rw [hA2] at kf hcv
  obtain ⟨n2, hn2⟩ : ∃ x, p - k = x := ⟨_, rfl⟩
  rw [hn2] at kf hcv
  rw [hdI] at c0
  subst hA1
  by_cases he : X = s
  · have hq : (X.toList == s.toList) = true := by rw [beq_toList]; exact decide_eq_true he
    clear hcut hX hA2 hn2 he hd hd0
    go_wp2_with fail
    go_ret
    exact ⟨rfl, rfl⟩
  · have hq : (X.toList == s.toList) = false := by rw [beq_toList]; exact decide_eq_false he
    have hki : k ≠ i0 := by
      intro e
      subst e
      refine he ?_
      rw [← hX]
      apply ByteArray.ext
      apply Array.toList_inj.1
      exact unhide H3
    clear hcut hX hA2 hn2 he hd hd0
    go_wp2_with fail
    go_roundg (i0 + 1 - (k + 1))
    case measure => omega
    case rel => exact ⟨k + 1, rfl, by omega, by go_num, rfl⟩
end Go.Proofs.Ytdminnhfgdoibaa
namespace Go.Proofs.Ytdminnhfgdoibaa
set_option linter.unusedVariables false
set_option linter.unusedSimpArgs false
open Go.RowKit

theorem relC_at (l : List Dy.Rel) : ∀ (k : Nat) (x : Dy.Rel), l[k]? = some x → ∀ j v, (relV x)[j]? = some v → (relC l)[k * 4 + j]? = some v := by
  induction l with
  | nil => intro k x h; simp at h
  | cons a r ih =>
    intro k x h j v hv
    have e0 : relC (a :: r) = relV a ++ relC r := rfl
    have hj : j < 4 := by have := (List.getElem?_eq_some_iff.1 hv).1; simpa [relV] using this
    have h5 : (relV a).length = 4 := rfl
    cases k with
    | zero =>
      simp at h
      subst h
      rw [e0, List.getElem?_append_left (by omega), Nat.zero_mul, Nat.zero_add]
      exact hv
    | succ k =>
      simp at h
      rw [e0, List.getElem?_append_right (by omega), h5, show (k + 1) * 4 + j - 4 = k * 4 + j from by omega]
      exact ih k x h j v hv
theorem rel_at {w : World} {B n : Nat} {A : Option Addr} {l : List Dy.Rel} (h : Rd w B 4 A n (relC l)) {k : Nat} {x : Dy.Rel} (hk : l[k]? = some x) :
    ∃ b off, A = some ⟨b, off, none⟩ ∧ b < B ∧ w.cell? ⟨b, off + k * 4 + 2, none⟩ = some (.int .i64 (x.sym : Nat)) := by
  have hc := relC_at l k x hk
  obtain ⟨b, off, ea, hb, hx⟩ := h.open_ (by
    intro e0
    have := hc 0 _ rfl
    rw [e0] at this
    simp at this)
  exact ⟨b, off, ea, hb, by rw [Nat.add_assoc]; exact hx _ _ (hc 2 _ rfl)⟩
/-- Where the law stands: what was parsed, all texts. -/
structure HdM (V wr : World) (dv : List Value) (al : List ByteArray) (Aa : Option Addr) (ma ca : Nat) : Prop where
  bel : Below V.heap.size V wr
  db : Blk wr V.heap.size 41 dv
  al : wr.ownsRow (V.heap.size + 1) 9 1 (.slice Aa ma ca) ma (al.map Value.string)
section
variable {V wr w2 : World} {ma ca : Nat} {dv : List Value} {Aa : Option Addr} {al : List ByteArray}
theorem HdM.belowSz (h : HdM V wr dv al Aa ma ca) (hb : Below wr.heap.size wr w2) : HdM V w2 dv al Aa ma ca := ⟨h.bel.trans (hb.mono h.bel.size), h.db.belowSz hb, own_below h.al hb⟩
theorem HdM.grown {al2 : List ByteArray} {A' : Option Addr} {ma' c' : Nat} (h : HdM V wr dv al Aa ma ca) (hg : wr.grownBy w2 (Value.slice Aa ma ca).ownBlock) (ho : w2.ownsRow (V.heap.size + 1) 9 1 (.slice A' ma' c') ma' (al2.map Value.string)) : HdM V w2 dv al2 A' ma' c' :=
  ⟨h.bel.grown hg h.bel.size (fun q hq => by have := (h.al.lt q hq).1; omega), (hg.block _ h.db.lt (fun e => by have := (h.al.lt _ e.symm).1; omega)).trans h.db, ho⟩
end
set_option maxRecDepth 100000 in
set_option maxHeartbeats 8000000 in
theorem holds_any (A : Option Addr) (n c : Nat) (b : List UInt8) (ty en ph : Int) (As : Option Addr) (ns cs : Nat) (segs : List El.Sg) (W : World) (hb : Rd W W.heap.size 1 A n (bys b)) (hs : Rd W W.heap.size 6 As ns (segCells segs)) (hn : n ≤ maxLen) (hns : ns ≤ maxLen) (hc : n ≤ c) (hfit : ∀ s ∈ segs, SgFit s) :
    Calls Try.prog 5 #[.slice A n c, .agg #[.int .u16 ty, .int .u64 en, .int .u64 ph, .slice As ns cs]] W fun e w' => e = .returned (.bool true) ∧ Below W.heap.size W w' := by
  have hbl : b.length = n := by have := hb.1; simp [bys] at this; omega
  have hB0 : Below W.heap.size W (W.alloc (.cells #[.int .u16 ty, .int .u64 en, .int .u64 ph, .slice As ns cs] 27)) := (Below.refl _ _).alloc (Nat.le_refl _) _
  have hH0 := Blk.new W 27 [.int .u16 ty, .int .u64 en, .int .u64 ph, .slice As ns cs]
  have KLg := hide (large13_any A n c ty en ph As ns cs (W.alloc (.cells #[.int .u16 ty, .int .u64 en, .int .u64 ph, .slice As ns cs] 27)) hn hns)
  have z0 := hH0.cell (i := 0) rfl
  have z1 := hH0.cell (i := 1) rfl
  have z2 := hH0.cell (i := 2) rfl
  have z3 := hH0.cell (i := 3) rfl
  have HWk := hide (fun (w' : World) => works13_any w')
  have HB0 := hide hB0
  have HH0 := hide hH0
  have Hr := hide hb
  have Hs := hide hs
  have Hfit := hide hfit
  have Hbl := hide hbl
  unfold maxLen at hn hns
  clear hb hs hfit hbl hB0 hH0
  go_enter Try.func5, Try.ntmps5
  go_wp2_with fail
  refine (unhide KLg).mono ?_
  rintro e w1 ⟨r, rfl, hb1, hr⟩
  have HB1 := hide ((unhide HB0).trans (hb1.mono (unhide HB0).size))
  have HH1 := hide ((unhide HH0).belowSz hb1)
  clear hb1 HB0 HH0 KLg z0 z1 z2 z3
  cases r
  case true =>
    clear hr
    go_wp2_with fail
    refine ((unhide HWk) _).mono ?_
    rintro e w2 ⟨rfl, hb2⟩
    go_wp2_with fail
    go_ret
    exact ⟨rfl, (unhide HB1).trans (hb2.mono (unhide HB1).size)⟩
  obtain ⟨hn7, hns8⟩ := hr rfl
  clear hr
  have KP := hide (fun (w' : World) (h : Below W.heap.size W w') => dparse_any A n c W.heap.size b ty en ph As ns cs segs w' h.size ((unhide Hr).below h) ((unhide Hs).below h) (by omega) (by omega) hc (unhide Hfit))
  have z0 := (unhide HH1).cell (i := 0) rfl
  have z1 := (unhide HH1).cell (i := 1) rfl
  have z2 := (unhide HH1).cell (i := 2) rfl
  have z3 := (unhide HH1).cell (i := 3) rfl
  clear Hs Hfit
  go_wp2_with fail
  refine ((unhide KP) _ (unhide HB1)).mono ?_
  rintro e V ⟨hb2, A1, c1, A2, c2, A3, c3, rfl, hdy⟩
  have her := Dy.parse_errs b segs
  have hho := fun (D : Dy.Dyn) => Dy.holds (b := b) (segs := segs) (D := D)
  obtain ⟨⟨D, px⟩, hP⟩ : ∃ x, Dy.parse b segs = x := ⟨_, rfl⟩
  rw [hP] at hdy her ⊢
  dsimp only at hdy her ⊢
  have hdn := hdy.needed
  have hdr := hdy.relas
  have hds := hdy.syms
  obtain ⟨m1, hm1⟩ : ∃ x, D.needed.length = x := ⟨_, rfl⟩
  obtain ⟨m2, hm2⟩ : ∃ x, D.syms.length = x := ⟨_, rfl⟩
  obtain ⟨m3, hm3⟩ : ∃ x, D.relas.length = x := ⟨_, rfl⟩
  obtain ⟨so, hso⟩ : ∃ x, D.soname = x := ⟨_, rfl⟩
  obtain ⟨ru, hru⟩ : ∃ x, D.run = x := ⟨_, rfl⟩
  rw [hm1] at hdn
  rw [hm2] at hds
  rw [hm3] at hdr
  rw [hm1, hm2, hm3, hso, hru]
  have HBV := hide ((unhide HB1).trans (hb2.mono (unhide HB1).size))
  have HH : Hid (HdM V (V.alloc (.cells #[.slice A1 m1 c1, .string so, .string ru, .slice A2 m2 c2, .slice A3 m3 c3] 41)) [.slice A1 m1 c1, .string so, .string ru, .slice A2 m2 c2, .slice A3 m3 c3] [] none 0 0) := hide ⟨(Below.refl _ _).alloc (Nat.le_refl _) _, Blk.new V 41 [.slice A1 m1 c1, .string so, .string ru, .slice A2 m2 c2, .slice A3 m3 c3], World.ownsRow_nil _ _ _ _⟩
  have HNe := hide (Rd.of_own hdn)
  have HSy := hide (Rd.of_own hds)
  have HRe := hide (Rd.of_own hdr)
  have Hm1 := hide hm1
  have Hm2 := hide hm2
  have Hm3 := hide hm3
  have Hho := hide hho
  have HP := hide hP
  have Hsr := hide (And.intro hso hru)
  clear hb2 hdy hdn hdr hds hm1 hm2 hm3 hso hru hho hP HB1 HH1 KP z0 z1 z2 z3
  have HBW : Hid (∀ w', Below V.heap.size V w' → Below W.heap.size W w') := hide (fun w' h => (unhide HBV).trans (h.mono (unhide HBV).size))
  rcases her with hpx | hpx | hpx
  case inr.inl =>
    subst hpx
    clear Hho
    go_wp2_with fail
    refine ((unhide HWk) _).mono ?_
    rintro e w5 ⟨rfl, hb5⟩
    go_wp2_with fail
    go_ret
    exact ⟨rfl, (unhide HBW) _ ((unhide HH).belowSz hb5).bel⟩
  case inr.inr =>
    subst hpx
    clear Hho
    go_wp2_with fail
    refine ((unhide HWk) _).mono ?_
    rintro e w5 ⟨rfl, hb5⟩
    go_wp2_with fail
    go_ret
    exact ⟨rfl, (unhide HBW) _ ((unhide HH).belowSz hb5).bel⟩
  subst hpx
  obtain ⟨l1, l2, l3, hrs, hbs, hgd⟩ := (unhide Hho) D (unhide HP)
  rw [unhide Hm1] at l1
  rw [unhide Hm2] at l2 hrs
  rw [unhide Hm3] at l3
  have Hrs := hide hrs
  have Hbs := hide hbs
  have Hgd := hide hgd
  have i1 : ¬ (8 : Int) < (m1 : Int) := by omega
  have i2 : ¬ (64 : Int) < (m2 : Int) := by omega
  have i3 : ¬ (64 : Int) < (m3 : Int) := by omega
  have d0 := (unhide HH).db.cell (i := 0) rfl
  have d1 := (unhide HH).db.cell (i := 1) rfl
  have d2 := (unhide HH).db.cell (i := 2) rfl
  have d3 := (unhide HH).db.cell (i := 3) rfl
  have d4 := (unhide HH).db.cell (i := 4) rfl
  clear hrs hbs hgd Hho HP
  go_wp2_with fail
  obtain ⟨V3, hV3⟩ : ∃ x, V.alloc (.cells #[.slice A1 m1 c1, .string so, .string ru, .slice A2 m2 c2, .slice A3 m3 c3] 41) = x := ⟨_, rfl⟩
  have hh := unhide HH
  rw [hV3] at hh d0 d1 d2 d3 d4 ⊢
  have HH3 := hide hh
  clear hh HH hV3 i1 i2 i3
  go_loopg [7] m3 (fun gk iv wr => ∃ k j : Nat, gk = m3 - k ∧ k ≤ m3 ∧ iv = .int .i64 k ∧ V3.drewN j = wr)
  case atStart => exact ⟨0, 0, rfl, Nat.zero_le _, rfl, rfl⟩
  case round =>
  obtain ⟨k, j, hgk, hk, rfl, rfl⟩ := hrel
  by_cases hlt : k < m3
  case pos =>
    have ilt : (k : Int) < (m3 : Int) := by omega
    obtain ⟨x, hxk⟩ : ∃ s, D.relas[k]? = some s := ⟨_, List.getElem?_eq_getElem (by rw [unhide Hm3]; exact hlt)⟩
    obtain ⟨b6, o6, hA6, -, y0⟩ := rel_at ((unhide HRe).below (unhide HH3).bel) hxk
    have hxm := (unhide Hrs) x (List.mem_of_getElem? hxk)
    rw [hA6] at d4
    obtain ⟨y, hy⟩ : ∃ y, x.sym = y := ⟨_, rfl⟩
    rw [hy] at y0 hxm
    have n1 : decide ((y : Int) < 0) = false := by simp
    have n2 : decide ((m2 : Int) < (y : Int)) = false := by simp; omega
    have n3 : decide (m2 < y) = false := by simp; omega
    have n4 : ¬ (m2 : Int) < (y : Int) := by omega
    have n5 : ¬ (y : Int) < 0 := by omega
    clear hxk hA6 hy
    go_wp2_with fail
    go_quiet (fail)
    go_wp2_with fail
    go_roundg (m3 - (k + 1))
    case measure => omega
    case rel => exact ⟨k + 1, j + nq, rfl, by omega, by go_num, rfl⟩
  have ige : ¬ (k : Int) < (m3 : Int) := by omega
  have HH4 := hide ((unhide HH3).belowSz (below_drewN' (Below.refl _ _) j))
  clear HH3 Hrs HRe Hm3
  have hg0 : V.heap.size < (V3.drewN j).heap.size := (unhide HH4).db.lt
  go_wp2_with (first
    | (at_builtin; (with_reducible refine (@id (wpList _ _ _ _ _ (V3.drewN j)) ?_)); refine wpList_app strTy rfl _ _ rfl (V.heap.size + 1) (.slice none 0 0) 0 [] rfl (World.ownsRow_nil _ _ _ _) V.heap.size A1 m1 c1 (D.needed.map Value.string) rfl ((unhide HNe).below (unhide HH4).bel) (by intro u hu; obtain ⟨s, _, rfl⟩ := List.mem_map.1 hu; rfl) (by omega) (by omega) ?_; intro A5 c5 w5 ho5 hg5 hat5; have HH5 := hide ((unhide HH4).grown (al2 := D.needed) hg5 (by simpa using ho5)); have d1 := (unhide HH5).db.cell (i := 1) rfl; have d2 := (unhide HH5).db.cell (i := 2) rfl; clear ho5 hg5 hat5)
    | (at_builtin; refine wpList_app strTy rfl _ _ rfl (V.heap.size + 1) (.slice A5 m1 c5) m1 (D.needed.map Value.string) rfl ((unhide HH5).al.alloc _) (w5.heap.size + 1) (some ⟨w5.heap.size, 0, none⟩) 2 2 [.string so, .string ru] rfl (Rd.rowF (n := 2) (fz := (0, 0)) (cs := #[.string so, .string ru]) rfl) (by intro u hu; simp at hu; rcases hu with rfl | rfl <;> rfl) (by omega) (by have := (unhide HH5).db.lt; simp; omega) ?_; intro A6 c6 w6 ho6 hg6 hat6; have HH6 := hide (((unhide HH5).belowSz ((Below.refl _ _).alloc (Nat.le_refl _) _)).grown (al2 := D.needed ++ [so, ru]) hg6 (by simpa using ho6)); have d3 := (unhide HH6).db.cell (i := 3) rfl; clear ho6 hg6 hat6 HH5))
  clear d3
  go_loopg [8, 9] m2 (fun gk av iv wr => ∃ (k : Nat) (Aa : Option Addr) (ca : Nat), gk = m2 - k ∧ k ≤ m2 ∧ av = .slice Aa (m1 + 2 + k) ca ∧ iv = .int .i64 k ∧ HdM V wr [.slice A1 m1 c1, .string so, .string ru, .slice A2 m2 c2, .slice A3 m3 c3] (D.needed ++ [so, ru] ++ (D.syms.take k).map (·.name)) Aa (m1 + 2 + k) ca)
  case atStart => exact ⟨0, A6, c6, rfl, Nat.zero_le _, rfl, rfl, by simpa using unhide HH6⟩
  case round =>
  obtain ⟨k, Aa, ca, hgk, hk, rfl, rfl, hf⟩ := hrel
  have HF := hide hf
  have d3 := hf.db.cell (i := 3) rfl
  have hgr := hf.db.lt
  clear hf HH6
  by_cases hlt : k < m2
  case pos =>
    have ilt : (k : Int) < (m2 : Int) := by omega
    obtain ⟨s, hsk⟩ : ∃ s, D.syms[k]? = some s := ⟨_, List.getElem?_eq_getElem (by rw [unhide Hm2]; exact hlt)⟩
    obtain ⟨b6, o6, hA6, -, y0, -, -, y3, -⟩ := sym_at ((unhide HSy).below (unhide HF).bel) hsk
    have hb2 := (unhide Hbs) s (List.mem_of_getElem? hsk)
    have htk : (D.syms.take (k + 1)).map (·.name) = (D.syms.take k).map (·.name) ++ [s.name] := by rw [List.take_add_one, hsk]; simp
    rw [hA6] at d3
    obtain ⟨nm, hnm⟩ : ∃ x, s.name = x := ⟨_, rfl⟩
    obtain ⟨bi, hbi⟩ : ∃ x, s.bind = x := ⟨_, rfl⟩
    rw [hnm] at y0 htk
    rw [hbi] at y3 hb2
    have hbI : ¬ (2 : Int) < (bi : Int) := by omega
    have Htk := hide htk
    clear hsk htk hnm hbi hA6
    go_wp2_with (at_builtin; refine wpList_app1g strTy rfl _ _ rfl (V.heap.size + 1) (.slice Aa (m1 + 2 + k) ca) (m1 + 2 + k) _ rfl (unhide HF).al #[.string nm] _ rfl (by simp) rfl (by intro u hu; simp at hu; subst hu; rfl) (by omega) (by omega) ?_; intro A9 c9 w9 ho9 hg9 hat9; have HF9 := hide ((unhide HF).grown (al2 := D.needed ++ [so, ru] ++ (D.syms.take (k + 1)).map (·.name)) hg9 (by rw [unhide Htk, ← List.append_assoc, List.map_append]; exact ho9)); clear ho9 hg9 hat9)
    go_roundg (m2 - (k + 1))
    case measure => omega
    case rel => exact ⟨k + 1, A9, c9, rfl, by omega, rfl, by go_num, unhide HF9⟩
  obtain rfl : m2 = k := by omega
  have ige2 : ¬ (m2 : Int) < (m2 : Int) := by omega
  obtain ⟨al, hal⟩ : ∃ al, D.needed ++ [so, ru] ++ (D.syms.take m2).map (·.name) = al := ⟨_, rfl⟩
  have htk : D.syms.take m2 = D.syms := List.take_of_length_le (by rw [unhide Hm2]; exact Nat.le_refl _)
  have hgd : ∀ s ∈ al, Dy.goodT b s := by
    intro s hs
    refine (unhide Hgd) s ?_
    rw [← hal, htk] at hs
    unfold Dy.allT
    rw [(unhide Hsr).1, (unhide Hsr).2]
    exact hs
  have hall : al.length = m1 + 2 + m2 := by rw [← hal, htk]; simp [unhide Hm1, unhide Hm2]; omega
  have hf := unhide HF
  rw [hal] at hf
  have HG := hide hf
  have Hgd2 := hide hgd
  have Hall := hide hall
  obtain ⟨tot, htot⟩ : ∃ t, m1 + 2 + m2 = t := ⟨_, rfl⟩
  have htl : tot ≤ 400 := by omega
  have hg2 := unhide HG
  have hall2 := unhide Hall
  rw [htot] at hg2 hall2 ⊢
  have HG2 := hide hg2
  have Hall2 := hide hall2
  clear hal htk hgd hall hf htot hg2 hall2 HF HG Hall Hgd Hbs HSy Hsr
  go_wp2_with fail
  clear d3
  go_loopg [10] tot (fun gk iv wr => ∃ i : Nat, gk = tot - i ∧ i ≤ tot ∧ iv = .int .i64 i ∧ HdM V wr [.slice A1 m1 c1, .string so, .string ru, .slice A2 m2 c2, .slice A3 m3 c3] al Aa tot ca)
  case atStart => exact ⟨0, rfl, Nat.zero_le _, rfl, unhide HG2⟩
  case round =>
  obtain ⟨i, hgk2, hi, rfl, hf⟩ := hrel
  have HF := hide hf
  clear hf HG2
  by_cases hlt2 : i < tot
  case neg =>
    have ige3 : ¬ (i : Int) < (tot : Int) := by omega
    go_wp2_with fail
    refine ((unhide HWk) _).mono ?_
    rintro e w7 ⟨rfl, hb7⟩
    go_wp2_with fail
    go_ret
    exact ⟨rfl, (unhide HBW) _ ((unhide HF).belowSz hb7).bel⟩
  have ilt2 : (i : Int) < (tot : Int) := by omega
  obtain ⟨a, ha⟩ : ∃ a, al[i]? = some a := ⟨_, List.getElem?_eq_getElem (by rw [unhide Hall2]; exact hlt2)⟩
  obtain ⟨g9, hA9, -, -⟩ := own_some (unhide HF).al (by omega)
  subst hA9
  have ac := own_cellI (unhide HF).al (u := .string a) (i := i) (by rw [List.getElem?_map, ha]; rfl)
  have hga := (unhide Hgd2) a (List.mem_of_getElem? ha)
  by_cases hz : a.size = 0
  case pos =>
    have hz2 := empty_of hz
    have hz3 : a.toList.isEmpty = true := by rw [hz2, Lib.toList_data]; rfl
    clear hga hz hz2 ha
    go_wp2_with fail
    go_roundg (tot - (i + 1))
    case measure => omega
    case rel => exact ⟨i + 1, rfl, by omega, by go_num, unhide HF⟩
  have hz3 : a.toList.isEmpty = false := by
    rw [Lib.toList_data, List.isEmpty_eq_false_iff]
    intro h
    exact hz (by show a.data.size = 0; rw [← Array.length_toList, h]; rfl)
  have hst : Dy.stands b a := hga.resolve_left hz
  have KW := hide (within_any A n c W.heap.size b a wr ((unhide Hr).below ((unhide HBW) _ (unhide HF).bel)) (by omega) hc hst)
  clear hga hz ha hst
  go_wp2_with fail
  refine (unhide KW).mono ?_
  rintro e w8 ⟨rfl, rfl⟩
  clear KW
  go_wp2_with fail
  go_roundg (tot - (i + 1))
  case measure => omega
  case rel => exact ⟨i + 1, rfl, by omega, by go_num, unhide HF⟩
end Go.Proofs.Ytdminnhfgdoibaa
namespace Go.Proofs.Ytdminnhfgdoibaa.dynamicHolds
open Go.ChangeShapes Go.WideShapes Go.ChangeAt Go.RowKit
open Go.ChangeMaps (open_string shut_string)
set_option linter.unusedVariables false

theorem own : ownKnob Try.prog.godebug = none := by kernel_rfl
theorem laidOut : laidOutB Try.prog = true := by kernel_rfl
theorem wfi {z : Int} (h : (Lit.int .i64 z).wf = true) : -9223372036854775808 ≤ z ∧ z ≤ 9223372036854775807 := by simpa [Lit.wf, IntKind.min, IntKind.max, IntKind.signed, IntKind.bits] using h

set_option maxRecDepth 100000 in
theorem lifted (os : Os) (started : os.Started) (H : Type) (enc : TypeId × Value → H) :
    ReturnsInHanded {} Try.checked os 5 .any (Rows.dynamicHoldsSpec.pre6 enc Try.prog Try.f5 Rows.dynamicHoldsRow.domain false) (Rows.dynamicHoldsSpec.post enc Try.prog Try.f5 false true false false) := by
  refine returnsInHanded_of_change (C := Try.checked) own started (by kernel_rfl) Try.func5
    (ChangeSpec.witness6 (enc := enc) (C := Try.checked) false ⟨#[], #[.slice none 0 0, .agg #[.int .u16 0, .int .u64 0, .int .u64 0, .slice none 0 0]], []⟩ 8 (by kernel_rfl) (by kernel_rfl) (by kernel_rfl) (by kernel_rfl)) ?_
  intro W base args ds gs before hval0 hW hcnd _
  have hval : ∀ (j : Nat) t v, Try.f5.params[j]? = some t → args[j]? = some v → Value.okWide Try.prog W .any base t v := hval0
  have hW' := hW
  obtain ⟨p, q, hA0, hV, rfl, hfz, hnd⟩ := hW
  have hA : DataW.TrodAll enc Try.prog W 0 (fun _ => true) true Try.f5.params.toList args.toList ds p := hA0
  rw [Try.params5] at hA hval
  obtain ⟨v0, vs0, d0, ds0, p0, q0, hargs, rfl, rfl, h0, r0⟩ := trodAll_cons hA
  obtain ⟨v1, vs1, d1, ds1, p1, q1, rfl, rfl, rfl, h1, r1⟩ := trodAll_cons r0
  obtain ⟨rfl, rfl, rfl⟩ := trodAll_nil r1
  obtain rfl : args = #[v0, v1] := by cases args; simp_all
  obtain ⟨rfl, rfl⟩ := trodVars_none hV
  obtain ⟨A0, n0, c0, rfl⟩ := okWide_slice Try.underlying22 (hval 0 22 v0 rfl rfl)
  have k0 := h0
  have lt0 : ∀ x ∈ p0, x.block < W.heap.size := by obtain ⟨m, hm⟩ := k0; exact DataW.trod_lt m _ _ _ hm
  obtain ⟨x0, w0, wc0, wm0⟩ := open_bytes_rd Try.underlying22 Try.underlying5 (by kernel_rfl) h0
  have k1 := h1
  have lt1 : ∀ x ∈ p1, x.block < W.heap.size := by obtain ⟨m, hm⟩ := k1; exact DataW.trod_lt m _ _ _ hm
  obtain ⟨u0, u1, u2, u3, y0, y1, y2, y3, nf, rfl, -, -, g0, g1, g2, g3⟩ := Go.Joins.open_agg4 Try.underlying27 (by kernel_rfl) (by kernel_rfl) (hval 1 27 v1 rfl rfl) h1
  have g0' : DataW.trod enc Try.prog W 0 (fun _ => true) true nf 23 [u0] = some y0 := g0
  have g1' : DataW.trod enc Try.prog W 0 (fun _ => true) true nf 24 [u1] = some y1 := g1
  have g2' : DataW.trod enc Try.prog W 0 (fun _ => true) true nf 24 [u2] = some y2 := g2
  have g3' : DataW.trod enc Try.prog W 0 (fun _ => true) true nf 25 [u3] = some y3 := g3
  obtain ⟨z0, e0, -, wz0⟩ := DataW.trod_int Try.underlying23 g0'
  obtain ⟨z1, e1, -, wz1⟩ := DataW.trod_int Try.underlying24 g1'
  obtain ⟨z2, e2, -, wz2⟩ := DataW.trod_int Try.underlying24 g2'
  simp only [List.cons.injEq, and_true] at e0 e1 e2
  subst e0 e1 e2
  obtain ⟨As, ns, cs, rfl⟩ : ∃ A n c, u3 = .slice A n c := by
    rcases DataW.trod_slice Try.underlying25 g3' with ⟨h, _⟩ | ⟨a, len, cap, _, _, _, _, h, _⟩
    · simp only [List.cons.injEq, and_true] at h
      exact ⟨_, _, _, h⟩
    · simp only [List.cons.injEq, and_true] at h
      exact ⟨_, _, _, h⟩
  obtain ⟨ls, hls, hcs, hms, hfs⟩ := open_segs_rd g3'
  clear hA0 hval0
  refine (holds_any A0 n0 c0 x0 z0 z1 z2 As ns cs ls W w0 hls (Nat.le_trans wc0 wm0) (Nat.le_trans hcs hms) wc0 hfs).mono fun e W' ⟨he, bel⟩ => ?_
  subst he
  exact ⟨_, rfl, _, _, _, [], _, [], hW', trodAll_mk1 (shut_bool Try.underlying4 _), (trodAll_cons_mk (Below.trod laidOut (by kernel_rfl) (of_decide_eq_true (by kernel_rfl)) k0 bel lt0) (trodAll_cons_mk (Below.trod laidOut (by kernel_rfl) (of_decide_eq_true (by kernel_rfl)) k1 bel lt1) trodAll_mk0)), rfl, bel.frame _, fun h => by cases h⟩

theorem over : Rows.dynamicHoldsRow.holds Try.pinned (OpenSpec.ofChange Rows.dynamicHoldsSpec) :=
  OpenClaim.holds_of_wide 5 Try.f5 rfl rfl rfl rfl rfl rfl rfl ⟨rfl, rfl, rfl, rfl, rfl⟩ rfl rfl rfl rfl rfl (by kernel_rfl) Try.func5 (by kernel_rfl)
    (of_decide_eq_true (by kernel_rfl)) (by unfold Func.isWrapper; first | (rw [if_pos (by decide +kernel)]; kernel_rfl) | (rw [if_neg (by decide +kernel)]; exact ⟨rfl, rfl⟩))
    (fun os started H enc _ => lifted os started H enc)

theorem proved : Rows.DynamicHoldsSaid := over
#print axioms proved
end Go.Proofs.Ytdminnhfgdoibaa.dynamicHolds
