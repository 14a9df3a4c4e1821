/- The plain mathematics of calls' bytes: what is written is read, cut it is not; what was read is written so; scripts. No program in sight. No conditions. -/
import Derived.Test.YtphbkjdheopmhaaClForm
namespace Go.Proofs.Ytphbkjdheopmhaa.Cl
set_option linter.unusedVariables false
set_option linter.unusedSimpArgs false
open Go.Proofs.Ytphbkjdheopmhaa

/-- What a call that may be keeps to. -/
structure Small (q : C) : Prop where
  k1 : 1 ≤ q.kind
  k2 : q.kind ≤ 12
  only : onlyB q = true
  p : q.path.size ≤ 200
  a1 : q.argv.length ≤ 32
  a2 : ∀ x ∈ q.argv, x.size ≤ 256
  e1 : q.env.length ≤ 32
  e2 : ∀ x ∈ q.env, x.size ≤ 256
  b : q.bytes.length ≤ 4096
theorem envCk_small {l : List ByteArray} (h : envCk l = 0) : l.length ≤ 32 ∧ ∀ x ∈ l, x.size ≤ 256 := by
  unfold envCk at h
  split at h
  · cases h
  · rename_i h1
    split at h
    · cases h
    · rename_i h2
      refine ⟨by omega, fun x hx => ?_⟩
      rcases Nat.lt_or_ge 256 x.size with h3 | h3
      · exact absurd (List.any_eq_true.2 ⟨x, hx, by simp [bigT, h3]⟩) h2
      · exact h3
theorem fst2_zero {a b : Int} (h : fst2 a b = 0) : a = 0 ∧ b = 0 := by
  unfold fst2 at h
  split at h
  · exact ⟨by assumption, h⟩
  · exact absurd h (by assumption)
theorem only_at {q : C} (h : onlyB q = true) {f : Nat} (hf : f < 9) : (fsN q.kind).contains f = true ∨ emptyB q f = true := by
  have := List.all_eq_true.1 h f (List.mem_range.2 hf)
  unfold fieldB at this
  simpa using this
theorem has_field {k f : Nat} (h : (fsN k).contains f = true) : (f = 5 → k = 1 ∨ k = 10) ∧ (f = 6 → k = 1) ∧ (f = 7 → k = 1) ∧ (f = 8 → k = 9) := by
  have hall : ∀ k, k < 13 → ((fsN k).contains 5 = true → k = 1 ∨ k = 10) ∧ ((fsN k).contains 6 = true → k = 1) ∧ ((fsN k).contains 7 = true → k = 1) ∧ ((fsN k).contains 8 = true → k = 9) := by decide
  have hk : k < 13 := by
    rcases Nat.lt_or_ge k 13 with hk | hk
    · exact hk
    · have e : fsN k = [] := by
        unfold fsN
        split <;> first | rfl | omega
      rw [e] at h
      cases h
  obtain ⟨h5, h6, h7, h8⟩ := hall k hk
  exact ⟨fun e => h5 (e ▸ h), fun e => h6 (e ▸ h), fun e => h7 (e ▸ h), fun e => h8 (e ▸ h)⟩
theorem check_small {q : C} (h : check q = 0) : Small q := by
  unfold check at h
  split at h
  · cases h
  rename_i hk
  split at h
  · cases h
  rename_i ho
  have ho : onlyB q = true := by simpa using ho
  have hp : q.path.size ≤ 200 := by
    rcases only_at ho (f := 5) (by omega) with h1 | h1
    · rcases (has_field h1).1 rfl with h2 | h2
      · rw [if_pos h2] at h
        exact Pth.chk_size _ (fst2_zero h).1
      · rw [if_neg (by omega), if_neg (by omega), if_neg (by omega), if_pos h2] at h
        exact Pth.chk_size _ (fst2_zero h).1
    · have : q.path.size = 0 := of_decide_eq_true h1
      omega
  have ha : q.argv.length ≤ 32 ∧ ∀ x ∈ q.argv, x.size ≤ 256 := by
    rcases only_at ho (f := 6) (by omega) with h1 | h1
    · have h2 := (has_field h1).2.1 rfl
      rw [if_pos h2] at h
      exact envCk_small (fst2_zero (fst2_zero h).2).1
    · have h3 : q.argv.length = 0 := of_decide_eq_true h1
      have h4 : q.argv = [] := List.eq_nil_of_length_eq_zero h3
      rw [h4]
      simp
  have he : q.env.length ≤ 32 ∧ ∀ x ∈ q.env, x.size ≤ 256 := by
    rcases only_at ho (f := 7) (by omega) with h1 | h1
    · have h2 := (has_field h1).2.2.1 rfl
      rw [if_pos h2] at h
      exact envCk_small (fst2_zero (fst2_zero h).2).2
    · have h3 : q.env.length = 0 := of_decide_eq_true h1
      have h4 : q.env = [] := List.eq_nil_of_length_eq_zero h3
      rw [h4]
      simp
  have hb : q.bytes.length ≤ 4096 := by
    rcases only_at ho (f := 8) (by omega) with h1 | h1
    · have h2 := (has_field h1).2.2.2 rfl
      rw [if_neg (by omega), if_neg (by omega), if_pos h2] at h
      split at h
      · cases h
      · omega
    · have h3 : q.bytes.length = 0 := of_decide_eq_true h1
      omega
  exact ⟨by omega, by omega, ho, hp, ha.1, ha.2, he.1, he.2, hb⟩

/-- the numbers of a call fit -/
structure Nums (q : C) : Prop where
  a : q.a < 18446744073709551616
  b : q.b < 18446744073709551616
  c : q.c < 18446744073709551616
  d : q.d < 18446744073709551616
  e : q.e < 18446744073709551616

theorem take_app (x t : List UInt8) {n : Nat} (h : x.length = n) : take ⟨x ++ t, false⟩ n = (x, ⟨t, false⟩) := by
  unfold take
  rw [if_neg (by simp; omega)]
  simp only
  rw [List.take_append_of_le_length (by omega), List.drop_append_of_le_length (by omega), ← h, List.take_length, List.drop_length]
  rfl
theorem rnum_app {x n : Nat} (t : List UInt8) (h : x < 256 ^ n) : rnum ⟨lb x n ++ t, false⟩ n = (x, ⟨t, false⟩) := by
  unfold rnum
  rw [take_app _ _ (lb_len n x)]
  simp only
  rw [le_lb n x h]
theorem rtxt_app (s t : List UInt8) (h : s.length < 65536) : rtxt ⟨txt s ++ t, false⟩ = (s, ⟨t, false⟩) := by
  unfold rtxt txt
  rw [List.append_assoc, rnum_app _ (by omega)]
  exact take_app _ _ rfl
theorem rtxts_app (l : List ByteArray) (t : List UInt8) (h : ∀ x ∈ l, x.size < 65536) : rtxts l.length ⟨txts l ++ t, false⟩ = (l, ⟨t, false⟩) := by
  induction l with
  | nil => rfl
  | cons x r ih =>
    simp only [List.length_cons, txts, rtxts, Bool.false_eq_true, if_false, List.append_assoc]
    rw [rtxt_app _ _ (by rw [bl_len]; exact h x (.head _)), ih (fun y hy => h y (.tail _ hy)), ba_bl]
theorem rlst_app (l : List ByteArray) (t : List UInt8) (h : ∀ x ∈ l, x.size < 65536) (hl : l.length < 256) : rlst ⟨lst l ++ t, false⟩ = (l, ⟨t, false⟩) := by
  unfold rlst lst
  rw [List.append_assoc, rnum_app _ (by omega)]
  exact rtxts_app l t h
/-- a call with one field more -/
def setF (q s : C) : Nat → C
  | 5 => { s with path := q.path }
  | 6 => { s with argv := q.argv }
  | 7 => { s with env := q.env }
  | 8 => { s with bytes := q.bytes }
  | 0 => { s with a := q.a }
  | 1 => { s with b := q.b }
  | 2 => { s with c := q.c }
  | 3 => { s with d := q.d }
  | _ => { s with e := q.e }
def setFs (q : C) : List Nat → C → C
  | [], s => s
  | f :: r, s => setFs q r (setF q s f)
theorem rfld_app {q : C} (hs : Small q) (hn : Nums q) (s : C) (t : List UInt8) {f : Nat} (hf : f < 9) : rfld (s, ⟨fld q f ++ t, false⟩) f = (setF q s f, ⟨t, false⟩) := by
  obtain rfl | rfl | rfl | rfl | rfl | rfl | rfl | rfl | rfl : f = 0 ∨ f = 1 ∨ f = 2 ∨ f = 3 ∨ f = 4 ∨ f = 5 ∨ f = 6 ∨ f = 7 ∨ f = 8 := by omega
  · simp only [rfld, fld, num, setF]; rw [rnum_app _ hn.a]
  · simp only [rfld, fld, num, setF]; rw [rnum_app _ hn.b]
  · simp only [rfld, fld, num, setF]; rw [rnum_app _ hn.c]
  · simp only [rfld, fld, num, setF]; rw [rnum_app _ hn.d]
  · simp only [rfld, fld, num, setF]; rw [rnum_app _ hn.e]
  · simp only [rfld, fld, setF]; rw [rtxt_app _ _ (by rw [bl_len]; have := hs.p; omega), ba_bl]
  · simp only [rfld, fld, setF]; rw [rlst_app _ _ (fun x hx => by have := hs.a2 x hx; omega) (by have := hs.a1; omega)]
  · simp only [rfld, fld, setF]; rw [rlst_app _ _ (fun x hx => by have := hs.e2 x hx; omega) (by have := hs.e1; omega)]
  · simp only [rfld, fld, setF]; rw [rtxt_app _ _ (by have := hs.b; omega)]
theorem rflds_appR {q : C} (hs : Small q) (hn : Nums q) (l : List Nat) (hl : ∀ f ∈ l, f < 9) (s : C) (t : List UInt8) : rflds l (s, ⟨flds q l ++ t, false⟩) = (setFs q l s, ⟨t, false⟩) := by
  induction l generalizing s with
  | nil => rfl
  | cons f r ih =>
    simp only [rflds, flds, setFs, List.append_assoc]
    rw [rfld_app hs hn s _ (hl f (.head _))]
    exact ih (fun x hx => hl x (.tail _ hx)) _
theorem ba_nil {p : ByteArray} (h : p.size = 0) : p = ba [] := ByteArray.ext (Array.eq_empty_of_size_eq_zero h)
theorem emptyN {q : C} {f : Nat} (hf : f < 5) (h : emptyB q f = true) : num q f = 0 := by
  obtain rfl | rfl | rfl | rfl | rfl : f = 0 ∨ f = 1 ∨ f = 2 ∨ f = 3 ∨ f = 4 := by omega
  all_goals exact of_decide_eq_true (by simpa [emptyB] using h)
theorem setFs_all {q : C} (hs : Small q) : setFs q (fsN q.kind) (kindC q.kind) = q := by
  have ho : ∀ f, f < 9 → (fsN q.kind).contains f = true ∨ emptyB q f = true := fun f hf => only_at hs.only hf
  have h0 := ho 0 (by omega); have h1 := ho 1 (by omega); have h2 := ho 2 (by omega); have h3 := ho 3 (by omega); have h4 := ho 4 (by omega)
  have h5 := ho 5 (by omega); have h6 := ho 6 (by omega); have h7 := ho 7 (by omega); have h8 := ho 8 (by omega)
  have k1 := hs.k1
  have k2 := hs.k2
  clear ho hs
  obtain ⟨k, a, b, c, d, e, p, av, ev, bs⟩ := q
  simp only at *
  obtain rfl | rfl | rfl | rfl | rfl | rfl | rfl | rfl | rfl | rfl | rfl | rfl : k = 1 ∨ k = 2 ∨ k = 3 ∨ k = 4 ∨ k = 5 ∨ k = 6 ∨ k = 7 ∨ k = 8 ∨ k = 9 ∨ k = 10 ∨ k = 11 ∨ k = 12 := by omega
  all_goals
    simp [fsN, emptyB, num] at h0 h1 h2 h3 h4 h5 h6 h7 h8
    simp [setFs, setF, fsN, kindC, *]
    try rfl
theorem form_len_pos (q : C) : 0 < (form q).length := by simp [form]
theorem kind_byte {q : C} (hs : Small q) : (UInt8.ofNat q.kind).toNat = q.kind := by
  have := hs.k2
  simp
  omega
theorem rall_form {q : C} (hs : Small q) (hn : Nums q) (t : List UInt8) : rall q.kind (flds q (fsN q.kind) ++ t) = (q, ⟨t, false⟩) := by
  unfold rall
  rw [rflds_appR hs hn _ (fsN_ok q.kind).1, setFs_all hs]
/-- What is written is read, whatever stands behind. -/
theorem read_form {q : C} (h : check q = 0) (hn : Nums q) (t : List UInt8) : read (form q ++ t) = (q, (form q).length, 0) := by
  have hs := check_small h
  have k1 := hs.k1
  have k2 := hs.k2
  unfold form read
  simp only [List.cons_append]
  rw [kind_byte hs, rall_form hs hn t, if_neg (by omega), if_neg (by simp), if_pos h]
  simp only [List.length_cons, List.length_append]
  congr 2
  omega
/-- Cut, it is not. -/
theorem read_cut {q : C} (h : check q = 0) (hn : Nums q) {n : Nat} (hc : n < (form q).length) : read ((form q).take n) = (zeroC, 0, 24) := by
  have hs := check_small h
  have k1 := hs.k1
  have k2 := hs.k2
  cases n with
  | zero => rfl
  | succ n =>
    have hl : n < (flds q (fsN q.kind)).length := by simpa [form] using hc
    unfold form read
    simp only [List.take_succ_cons]
    rw [kind_byte hs, if_neg (by omega)]
    cases hg : (rall q.kind ((flds q (fsN q.kind)).take n)).2.gone
    · exfalso
      have h1 := rflds_more ((flds q (fsN q.kind)).drop n) (fsN q.kind) (s := (kindC q.kind, ⟨(flds q (fsN q.kind)).take n, false⟩)) (fsN_ok q.kind).1 (fsN_ok q.kind).2 hg
      have h2 := rall_form hs hn []
      unfold rall at h2
      rw [List.append_nil] at h2
      have e : more ((flds q (fsN q.kind)).drop n) ⟨(flds q (fsN q.kind)).take n, false⟩ = ⟨flds q (fsN q.kind), false⟩ := by unfold more; simp [List.take_append_drop]
      simp only at h1
      rw [e, h2] at h1
      have h3 := congrArg (fun s : C × R => s.2.b.length) h1
      simp [more] at h3
      omega
    · rfl
theorem rfld_kind (s : C × R) (f : Nat) : (rfld s f).1.kind = s.1.kind := by
  unfold rfld
  split <;> rfl
theorem rflds_kind (l : List Nat) (s : C × R) : (rflds l s).1.kind = s.1.kind := by
  induction l generalizing s with
  | nil => rfl
  | cons f r ih => simp only [rflds]; rw [ih, rfld_kind]
/-- What was read is written as it was. -/
theorem form_read {b : List UInt8} (h : (read b).2.2 = 0) : check (read b).1 = 0 ∧ b = form (read b).1 ++ b.drop (read b).2.1 ∧ (read b).2.1 = (form (read b).1).length := by
  cases b with
  | nil => cases h
  | cons k r =>
    unfold read at h ⊢
    simp only at h ⊢
    split at h
    · cases h
    rename_i hk
    split at h
    · cases h
    rename_i hg
    split at h
    · rename_i hc
      rw [if_neg hk, if_neg hg, if_pos hc]
      simp only
      have hg : (rall k.toNat r).2.gone = false := by simpa using hg
      obtain ⟨_, h1⟩ := rflds_went (fsN k.toNat) (s := (kindC k.toNat, ⟨r, false⟩)) (fsN_ok _).1 (fsN_ok _).2 hg
      have hkd : (rall k.toNat r).1.kind = k.toNat := rflds_kind _ _
      have h2 := h1.2.2
      simp only at h2
      have hfm : form (rall k.toNat r).1 = k :: flds (rall k.toNat r).1 (fsN k.toNat) := by
        unfold form
        rw [hkd]
        simp
      have hlen : r.length = (flds (rall k.toNat r).1 (fsN k.toNat)).length + (rall k.toNat r).2.b.length := by
        have := congrArg List.length h2
        rw [List.length_append] at this
        exact this
      have hn : r.length + 1 - (rall k.toNat r).2.b.length = (form (rall k.toNat r).1).length := by
        rw [hfm, List.length_cons]
        omega
      refine ⟨hc, ?_, hn⟩
      rw [hn]
      have h3 : k :: r = form (rall k.toNat r).1 ++ (rall k.toNat r).2.b := by
        rw [hfm, List.cons_append]
        congr 1
      conv => rhs; rw [h3]
      rw [List.drop_append_of_le_length (Nat.le_refl _), List.drop_length, List.nil_append]
      exact h3
    · rename_i hc
      exact absurd h hc
theorem read_bad {b : List UInt8} (h : (read b).2.2 ≠ 0) : (read b).1 = zeroC ∧ (read b).2.1 = 0 := by
  cases b with
  | nil => exact ⟨rfl, rfl⟩
  | cons k r =>
    unfold read at h ⊢
    simp only at h ⊢
    split
    · exact ⟨rfl, rfl⟩
    · split
      · exact ⟨rfl, rfl⟩
      · split
        · rename_i h1 h2 h3
          rw [if_neg h1, if_neg h2, if_pos h3] at h
          exact absurd rfl h
        · exact ⟨rfl, rfl⟩
/-- the numbers of what was read fit -/
theorem read_len (b : List UInt8) : (read b).2.1 ≤ b.length := by
  by_cases h : (read b).2.2 = 0
  · obtain ⟨_, h1, h2⟩ := form_read h
    rw [h2]
    conv => rhs; rw [h1, List.length_append]
    omega
  · rw [(read_bad h).2]
    omega
theorem rnum_lt (r : R) : (rnum r 8).1 < 18446744073709551616 := by
  have h := Wd.le_lt (take r 8).1
  have h2 : (take r 8).1.length ≤ 8 := by
    unfold take
    split
    · simp
    · simp; omega
  have h3 : (256 : Nat) ^ (take r 8).1.length ≤ 256 ^ 8 := Nat.pow_le_pow_right (by omega) h2
  show Wd.le (take r 8).1 < _
  omega
theorem rfld_nums (s : C × R) (f : Nat) (h : Nums s.1) : Nums (rfld s f).1 := by
  unfold rfld
  split
  · exact ⟨h.a, h.b, h.c, h.d, h.e⟩
  · exact ⟨h.a, h.b, h.c, h.d, h.e⟩
  · exact ⟨h.a, h.b, h.c, h.d, h.e⟩
  · exact ⟨h.a, h.b, h.c, h.d, h.e⟩
  · exact ⟨rnum_lt _, h.b, h.c, h.d, h.e⟩
  · exact ⟨h.a, rnum_lt _, h.c, h.d, h.e⟩
  · exact ⟨h.a, h.b, rnum_lt _, h.d, h.e⟩
  · exact ⟨h.a, h.b, h.c, rnum_lt _, h.e⟩
  · exact ⟨h.a, h.b, h.c, h.d, rnum_lt _⟩
theorem rflds_nums (l : List Nat) (s : C × R) (h : Nums s.1) : Nums (rflds l s).1 := by
  induction l generalizing s with
  | nil => exact h
  | cons f r ih => exact ih _ (rfld_nums s f h)
theorem kindC_nums (k : Nat) : Nums (kindC k) := ⟨by simp [kindC], by simp [kindC], by simp [kindC], by simp [kindC], by simp [kindC]⟩
theorem read_nums (b : List UInt8) : Nums (read b).1 := by
  cases b with
  | nil => exact kindC_nums 0
  | cons k r =>
    unfold read
    simp only
    split
    · exact kindC_nums 0
    · split
      · exact kindC_nums 0
      · split
        · exact rflds_nums _ _ (kindC_nums _)
        · exact kindC_nums 0

/-- The steps that bytes say. -/
def stepsF : Nat → List UInt8 → Nat → List (Nat × C) → List (Nat × C) × Int × Nat
  | 0, _, _, l => (l, 0, 0)
  | n + 1, [], _, l => (l, 0, 0)
  | n + 1, p :: r, at_, l => if (read r).2.2 = 0 then stepsF n (r.drop (read r).2.1) (at_ + 1 + (read r).2.1) (l ++ [(p.toNat, (read r).1)]) else ([], (read r).2.2, at_)
def steps (b : List UInt8) : List (Nat × C) × Int × Nat := stepsF b.length b 0 []
theorem stepsF_nil (n at_ : Nat) (l : List (Nat × C)) : stepsF n [] at_ l = (l, 0, 0) := by cases n <;> rfl
theorem stepsF_fuel (n m : Nat) (r : List UInt8) (at_ : Nat) (l : List (Nat × C)) (h1 : r.length ≤ n) (h2 : r.length ≤ m) : stepsF n r at_ l = stepsF m r at_ l := by
  induction n generalizing m r at_ l with
  | zero =>
    have : r = [] := List.eq_nil_of_length_eq_zero (by omega)
    subst this
    rw [stepsF_nil, stepsF_nil]
  | succ n ih =>
    cases r with
    | nil => rw [stepsF_nil, stepsF_nil]
    | cons p r =>
      obtain ⟨m, rfl⟩ : ∃ j, m = j + 1 := ⟨m - 1, by simp at h2; omega⟩
      simp only [stepsF]
      simp at h1 h2
      rw [ih m _ _ _ (by simp; omega) (by simp; omega)]
/-- One step: read or not. -/
theorem stepsF_cons (n : Nat) (p : UInt8) (r : List UInt8) (at_ : Nat) (l : List (Nat × C)) (h : r.length + 1 ≤ n) :
    stepsF n (p :: r) at_ l = if (read r).2.2 = 0 then stepsF n (r.drop (read r).2.1) (at_ + 1 + (read r).2.1) (l ++ [(p.toNat, (read r).1)]) else ([], (read r).2.2, at_) := by
  obtain ⟨m, rfl⟩ : ∃ j, n = j + 1 := ⟨n - 1, by omega⟩
  conv => lhs; simp only [stepsF]
  rw [stepsF_fuel m (m + 1) _ _ _ (by simp; omega) (by simp; omega)]

/-- Steps as bytes. -/
def script : List (Nat × C) → List UInt8
  | [] => []
  | s :: r => UInt8.ofNat s.1 :: form s.2 ++ script r
theorem script_app (a b : List (Nat × C)) : script (a ++ b) = script a ++ script b := by
  induction a with
  | nil => rfl
  | cons s r ih => simp [script, ih]
/-- steps that may be written -/
def Good (s : Nat × C) : Prop := s.1 < 256 ∧ check s.2 = 0 ∧ Nums s.2
theorem stepsF_script (L : List (Nat × C)) (hL : ∀ s ∈ L, Good s) (t : List UInt8) (n at_ : Nat) (l : List (Nat × C)) (h : (script L ++ t).length ≤ n) :
    stepsF n (script L ++ t) at_ l = stepsF n t (at_ + (script L).length) (l ++ L) := by
  induction L generalizing at_ l with
  | nil => simp [script]
  | cons s r ih =>
    obtain ⟨g1, g2, g3⟩ := hL s (.head _)
    have e : script (s :: r) ++ t = UInt8.ofNat s.1 :: (form s.2 ++ (script r ++ t)) := by simp [script]
    have hl : (script (s :: r) ++ t).length = (form s.2 ++ (script r ++ t)).length + 1 := by rw [e, List.length_cons]
    rw [e, stepsF_cons _ _ _ _ _ (by omega), read_form g2 g3]
    simp only [if_true]
    rw [List.drop_append_of_le_length (Nat.le_refl _), List.drop_length, List.nil_append, ih (fun x hx => hL x (.tail _ hx)) _ _ (by rw [hl, List.length_append] at h; omega)]
    congr 1
    · simp [script]; omega
    · have : (UInt8.ofNat s.1).toNat = s.1 := by simp; omega
      rw [this]
      simp
theorem steps_script (L : List (Nat × C)) (hL : ∀ s ∈ L, Good s) : steps (script L) = (L, 0, 0) := by
  have h := stepsF_script L hL [] (script L).length 0 [] (by simp)
  rw [List.append_nil, stepsF_nil] at h
  simpa [steps] using h
theorem steps_cut (L : List (Nat × C)) (hL : ∀ s ∈ L, Good s) (s : Nat × C) (hs : Good s) (n : Nat) (h : n < (form s.2).length) :
    steps (script L ++ UInt8.ofNat s.1 :: (form s.2).take n) = ([], 24, (script L).length) := by
  unfold steps
  rw [stepsF_script L hL _ _ _ _ (Nat.le_refl _), stepsF_cons _ _ _ _ _ (by simp), read_cut hs.2.1 hs.2.2 h]
  simp
end Go.Proofs.Ytphbkjdheopmhaa.Cl
