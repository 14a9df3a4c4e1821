/- The plain mathematics of calls' bytes: writing, reading, and that each undoes the other. No program in sight. No conditions. -/
import Derived.Test.YtphbkjdheopmhaaCallsPure
namespace Go.Proofs.Ytphbkjdheopmhaa.Cl
set_option linter.unusedVariables false
set_option linter.unusedSimpArgs false
open Go.Proofs.Ytphbkjdheopmhaa

/-- n bytes of a number, the lowest first. -/
def lb : Nat → Nat → List UInt8
  | _, 0 => []
  | x, n + 1 => UInt8.ofNat (x % 256) :: lb (x / 256) n
theorem lb_len (n x : Nat) : (lb x n).length = n := by
  induction n generalizing x with
  | zero => rfl
  | succ n ih => simp [lb, ih]
theorem le_lb (n x : Nat) (h : x < 256 ^ n) : Wd.le (lb x n) = x := by
  induction n generalizing x with
  | zero => simp at h; subst h; rfl
  | succ n ih =>
    rw [Nat.pow_succ] at h
    simp only [lb, Wd.le]
    rw [ih (x / 256) (by omega)]
    have e : (UInt8.ofNat (x % 256)).toNat = x % 256 := by simp
    omega
theorem lb_le (l : List UInt8) : lb (Wd.le l) l.length = l := by
  induction l with
  | nil => rfl
  | cons c r ih =>
    have h := c.toNat_lt
    have e1 : (c.toNat + 256 * Wd.le r) % 256 = c.toNat := by omega
    have e2 : (c.toNat + 256 * Wd.le r) / 256 = Wd.le r := by omega
    simp only [Wd.le, List.length_cons, lb]
    rw [e1, e2, ih]
    simp

def bl (s : ByteArray) : List UInt8 := s.data.toList
def ba (l : List UInt8) : ByteArray := ⟨l.toArray⟩
theorem bl_ba (l : List UInt8) : bl (ba l) = l := rfl
theorem ba_bl (s : ByteArray) : ba (bl s) = s := by cases s; simp [ba, bl]
theorem bl_len (s : ByteArray) : (bl s).length = s.size := rfl
theorem ba_size (l : List UInt8) : (ba l).size = l.length := by show l.toArray.size = l.length; simp
/-- A text with its length ahead. -/
def txt (s : List UInt8) : List UInt8 := lb s.length 2 ++ s
def txts : List ByteArray → List UInt8
  | [] => []
  | s :: r => txt (bl s) ++ txts r
def lst (l : List ByteArray) : List UInt8 := lb l.length 1 ++ txts l
theorem txts_app (a b : List ByteArray) : txts (a ++ b) = txts a ++ txts b := by
  induction a with
  | nil => rfl
  | cons s r ih => simp [txts, ih]
def fld (q : C) : Nat → List UInt8
  | 5 => txt (bl q.path)
  | 6 => lst q.argv
  | 7 => lst q.env
  | 8 => txt q.bytes
  | f => lb (num q f) 8
def flds (q : C) : List Nat → List UInt8
  | [] => []
  | f :: r => fld q f ++ flds q r
theorem flds_app (q : C) (a b : List Nat) : flds q (a ++ b) = flds q a ++ flds q b := by
  induction a with
  | nil => rfl
  | cons s r ih => simp [flds, ih]
def form (q : C) : List UInt8 := UInt8.ofNat q.kind :: flds q (fsN q.kind)

/-- A reader: what is left, and whether some was lacking. -/
structure R where
  b : List UInt8
  gone : Bool
def take (r : R) (n : Nat) : List UInt8 × R := if r.gone = true ∨ r.b.length < n then ([], ⟨r.b, true⟩) else (r.b.take n, ⟨r.b.drop n, false⟩)
def rnum (r : R) (s : Nat) : Nat × R := (Wd.le (take r s).1, (take r s).2)
def rtxt (r : R) : List UInt8 × R := take (rnum r 2).2 (rnum r 2).1
def rtxts : Nat → R → List ByteArray × R
  | 0, r => ([], r)
  | n + 1, r => if r.gone = true then ([], r) else (ba (rtxt r).1 :: (rtxts n (rtxt r).2).1, (rtxts n (rtxt r).2).2)
def rlst (r : R) : List ByteArray × R := rtxts (rnum r 1).1 (rnum r 1).2
def rfld (s : C × R) : Nat → C × R
  | 5 => ({ s.1 with path := ba (rtxt s.2).1 }, (rtxt s.2).2)
  | 6 => ({ s.1 with argv := (rlst s.2).1 }, (rlst s.2).2)
  | 7 => ({ s.1 with env := (rlst s.2).1 }, (rlst s.2).2)
  | 8 => ({ s.1 with bytes := (rtxt s.2).1 }, (rtxt s.2).2)
  | 0 => ({ s.1 with a := (rnum s.2 8).1 }, (rnum s.2 8).2)
  | 1 => ({ s.1 with b := (rnum s.2 8).1 }, (rnum s.2 8).2)
  | 2 => ({ s.1 with c := (rnum s.2 8).1 }, (rnum s.2 8).2)
  | 3 => ({ s.1 with d := (rnum s.2 8).1 }, (rnum s.2 8).2)
  | _ => ({ s.1 with e := (rnum s.2 8).1 }, (rnum s.2 8).2)
def rflds : List Nat → C × R → C × R
  | [], s => s
  | f :: r, s => rflds r (rfld s f)
theorem rflds_app (a b : List Nat) (s : C × R) : rflds (a ++ b) s = rflds b (rflds a s) := by
  induction a generalizing s with
  | nil => rfl
  | cons f r ih => simp [rflds, ih]
def zeroC : C := ⟨0, 0, 0, 0, 0, 0, ba [], [], [], []⟩
def kindC (k : Nat) : C := ⟨k, 0, 0, 0, 0, 0, ba [], [], [], []⟩
def rall (k : Nat) (b : List UInt8) : C × R := rflds (fsN k) (kindC k, ⟨b, false⟩)
def read : List UInt8 → C × Nat × Int
  | [] => (zeroC, 0, 24)
  | k :: r => if k.toNat = 0 ∨ 12 < k.toNat then (zeroC, 0, 23)
      else if (rall k.toNat r).2.gone = true then (zeroC, 0, 24)
      else if check (rall k.toNat r).1 = 0 then ((rall k.toNat r).1, r.length + 1 - (rall k.toNat r).2.b.length, 0)
      else (zeroC, 0, check (rall k.toNat r).1)

/-- What was read: so many bytes ahead of what is left. -/
def Went (r r' : R) (x : List UInt8) : Prop := r.gone = false ∧ r'.gone = false ∧ r.b = x ++ r'.b
theorem Went.trans {a b c : R} {x y : List UInt8} (h : Went a b x) (k : Went b c y) : Went a c (x ++ y) :=
  ⟨h.1, k.2.1, by rw [h.2.2, k.2.2, List.append_assoc]⟩
theorem take_went {r : R} {n : Nat} (h : (take r n).2.gone = false) : Went r (take r n).2 (take r n).1 ∧ (take r n).1.length = n := by
  unfold take at h ⊢
  split at h
  · cases h
  · rename_i hn
    rw [if_neg hn]
    have h1 : r.gone = false := by
      cases hg : r.gone
      · rfl
      · exact absurd (.inl hg) hn
    have h2 : n ≤ r.b.length := by
      rcases Nat.lt_or_ge r.b.length n with h | h
      · exact absurd (.inr h) hn
      · exact h
    exact ⟨⟨h1, rfl, (List.take_append_drop n r.b).symm⟩, by simp; omega⟩
theorem rnum_went {r : R} {n : Nat} (h : (rnum r n).2.gone = false) : Went r (rnum r n).2 (lb (rnum r n).1 n) ∧ (rnum r n).1 < 256 ^ n := by
  obtain ⟨h1, h2⟩ := take_went h
  have e := lb_le (take r n).1
  have h3 := Wd.le_lt (take r n).1
  rw [h2] at e h3
  unfold rnum
  simp only
  rw [e]
  exact ⟨h1, h3⟩
theorem take_gone {r : R} {n : Nat} (h : r.gone = true) : take r n = ([], ⟨r.b, true⟩) := if_pos (.inl h)
theorem gone_back {r : R} {n : Nat} (h : (take r n).2.gone = false) : r.gone = false := (take_went h).1.1
theorem rtxt_went {r : R} (h : (rtxt r).2.gone = false) : Went r (rtxt r).2 (txt (rtxt r).1) ∧ (rtxt r).1.length < 65536 := by
  have h0 : (rnum r 2).2.gone = false := gone_back h
  obtain ⟨h1, h2⟩ := rnum_went h0
  obtain ⟨h3, h4⟩ := take_went h
  have h5 : (rtxt r).1.length = (rnum r 2).1 := h4
  unfold txt
  rw [h5]
  exact ⟨h1.trans h3, h2⟩
theorem rtxts_gone (n : Nat) {r : R} (h : r.gone = true) : (rtxts n r).2.gone = true := by
  cases n with
  | zero => exact h
  | succ n => unfold rtxts; rw [if_pos h]; exact h
theorem rtxts_went (n : Nat) {r : R} (h : (rtxts n r).2.gone = false) : r.gone = false ∧ Went r (rtxts n r).2 (txts (rtxts n r).1) ∧ (rtxts n r).1.length = n := by
  induction n generalizing r with
  | zero => exact ⟨h, ⟨h, h, rfl⟩, rfl⟩
  | succ n ih =>
    cases hg : r.gone
    · have e : rtxts (n + 1) r = (ba (rtxt r).1 :: (rtxts n (rtxt r).2).1, (rtxts n (rtxt r).2).2) := by
        conv => lhs; unfold rtxts
        rw [if_neg (by rw [hg]; simp)]
      rw [e] at h ⊢
      obtain ⟨h1, h2, h3⟩ := ih h
      obtain ⟨h4, _⟩ := rtxt_went h1
      refine ⟨rfl, h4.trans h2, by simp [h3]⟩
    · rw [rtxts_gone _ hg] at h
      cases h
theorem rlst_went {r : R} (h : (rlst r).2.gone = false) : Went r (rlst r).2 (lst (rlst r).1) ∧ (rlst r).1.length < 256 := by
  obtain ⟨h1, h2, h3⟩ := rtxts_went _ h
  obtain ⟨h4, h5⟩ := rnum_went h1
  have h6 : (rlst r).1.length = (rnum r 1).1 := h3
  unfold lst
  rw [h6]
  exact ⟨h4.trans h2, by omega⟩

/-- Reading goes on alike, whatever stands behind. -/
def more (t : List UInt8) (r : R) : R := ⟨r.b ++ t, r.gone⟩
theorem take_more (t : List UInt8) {r : R} {n : Nat} (h : (take r n).2.gone = false) : take (more t r) n = ((take r n).1, more t (take r n).2) := by
  obtain ⟨⟨h1, h2, h3⟩, h4⟩ := take_went h
  have hn : n ≤ r.b.length := by
    rw [h3, List.length_append]
    omega
  have e : take r n = (r.b.take n, ⟨r.b.drop n, false⟩) := if_neg (by rw [h1]; simp; omega)
  have e2 : take (more t r) n = ((r.b ++ t).take n, ⟨(r.b ++ t).drop n, false⟩) := if_neg (by unfold more; simp [h1]; omega)
  rw [e2, e]
  rw [List.take_append_of_le_length hn, List.drop_append_of_le_length hn]
  rfl
theorem rnum_more (t : List UInt8) {r : R} {n : Nat} (h : (rnum r n).2.gone = false) : rnum (more t r) n = ((rnum r n).1, more t (rnum r n).2) := by
  unfold rnum
  rw [take_more t h]
theorem rtxt_more (t : List UInt8) {r : R} (h : (rtxt r).2.gone = false) : rtxt (more t r) = ((rtxt r).1, more t (rtxt r).2) := by
  have h0 : (rnum r 2).2.gone = false := gone_back h
  unfold rtxt
  rw [rnum_more t h0]
  exact take_more t h
theorem rtxts_more (t : List UInt8) (n : Nat) {r : R} (h : (rtxts n r).2.gone = false) : rtxts n (more t r) = ((rtxts n r).1, more t (rtxts n r).2) := by
  induction n generalizing r with
  | zero => rfl
  | succ n ih =>
    have hg := (rtxts_went _ h).1
    have e : rtxts (n + 1) r = (ba (rtxt r).1 :: (rtxts n (rtxt r).2).1, (rtxts n (rtxt r).2).2) := by
      conv => lhs; unfold rtxts
      rw [if_neg (by rw [hg]; simp)]
    have e2 : rtxts (n + 1) (more t r) = (ba (rtxt (more t r)).1 :: (rtxts n (rtxt (more t r)).2).1, (rtxts n (rtxt (more t r)).2).2) := by
      conv => lhs; unfold rtxts
      rw [if_neg (by unfold more; rw [hg]; simp)]
    rw [e] at h ⊢
    rw [e2, rtxt_more t (rtxts_went _ h).1, ih h]
theorem rlst_more (t : List UInt8) {r : R} (h : (rlst r).2.gone = false) : rlst (more t r) = ((rlst r).1, more t (rlst r).2) := by
  have h0 : (rnum r 1).2.gone = false := (rtxts_went _ h).1
  unfold rlst
  rw [rnum_more t h0]
  exact rtxts_more t _ h

/-- one field -/
theorem rfld_back {s : C × R} {f : Nat} (h : (rfld s f).2.gone = false) : s.2.gone = false := by
  unfold rfld at h
  split at h
  · exact (rtxt_went h).1.1
  · exact (rlst_went h).1.1
  · exact (rlst_went h).1.1
  · exact (rtxt_went h).1.1
  · exact (rnum_went h).1.1
  · exact (rnum_went h).1.1
  · exact (rnum_went h).1.1
  · exact (rnum_went h).1.1
  · exact (rnum_went h).1.1
theorem rfld_went {s : C × R} {f : Nat} (hf : f < 9) (h : (rfld s f).2.gone = false) : Went s.2 (rfld s f).2 (fld (rfld s f).1 f) := by
  obtain rfl | rfl | rfl | rfl | rfl | rfl | rfl | rfl | rfl : f = 0 ∨ f = 1 ∨ f = 2 ∨ f = 3 ∨ f = 4 ∨ f = 5 ∨ f = 6 ∨ f = 7 ∨ f = 8 := by omega
  · exact (rnum_went h).1
  · exact (rnum_went h).1
  · exact (rnum_went h).1
  · exact (rnum_went h).1
  · exact (rnum_went h).1
  · exact (rtxt_went h).1
  · exact (rlst_went h).1
  · exact (rlst_went h).1
  · exact (rtxt_went h).1
theorem rfld_more (t : List UInt8) {s : C × R} {f : Nat} (hf : f < 9) (h : (rfld s f).2.gone = false) : rfld (s.1, more t s.2) f = ((rfld s f).1, more t (rfld s f).2) := by
  obtain rfl | rfl | rfl | rfl | rfl | rfl | rfl | rfl | rfl : f = 0 ∨ f = 1 ∨ f = 2 ∨ f = 3 ∨ f = 4 ∨ f = 5 ∨ f = 6 ∨ f = 7 ∨ f = 8 := by omega
  · simp only [rfld]; rw [rnum_more t h]
  · simp only [rfld]; rw [rnum_more t h]
  · simp only [rfld]; rw [rnum_more t h]
  · simp only [rfld]; rw [rnum_more t h]
  · simp only [rfld]; rw [rnum_more t h]
  · simp only [rfld]; rw [rtxt_more t h]
  · simp only [rfld]; rw [rlst_more t h]
  · simp only [rfld]; rw [rlst_more t h]
  · simp only [rfld]; rw [rtxt_more t h]
/-- a field is read, another one stays -/
theorem rfld_other {s : C × R} {f g : Nat} (hf : f < 9) (hg : g < 9) (hne : f ≠ g) : fld (rfld s f).1 g = fld s.1 g := by
  obtain rfl | rfl | rfl | rfl | rfl | rfl | rfl | rfl | rfl : f = 0 ∨ f = 1 ∨ f = 2 ∨ f = 3 ∨ f = 4 ∨ f = 5 ∨ f = 6 ∨ f = 7 ∨ f = 8 := by omega
  all_goals
    obtain rfl | rfl | rfl | rfl | rfl | rfl | rfl | rfl | rfl : g = 0 ∨ g = 1 ∨ g = 2 ∨ g = 3 ∨ g = 4 ∨ g = 5 ∨ g = 6 ∨ g = 7 ∨ g = 8 := by omega
    all_goals first | rfl | exact absurd rfl hne
theorem rflds_kept (l : List Nat) {s : C × R} {g : Nat} (hl : ∀ f ∈ l, f < 9) (hg : g < 9) (hne : g ∉ l) : fld (rflds l s).1 g = fld s.1 g := by
  induction l generalizing s with
  | nil => rfl
  | cons f r ih =>
    simp only [rflds]
    rw [ih (fun x hx => hl x (.tail _ hx)) (fun h => hne (.tail _ h))]
    exact rfld_other (hl f (.head _)) hg (fun e => hne (by rw [e]; exact .head _))
theorem rflds_went (l : List Nat) {s : C × R} (hl : ∀ f ∈ l, f < 9) (hd : l.Nodup) (h : (rflds l s).2.gone = false) : s.2.gone = false ∧ Went s.2 (rflds l s).2 (flds (rflds l s).1 l) := by
  induction l generalizing s with
  | nil => exact ⟨h, h, h, rfl⟩
  | cons f r ih =>
    simp only [rflds] at h ⊢
    have hd' := List.nodup_cons.1 hd
    obtain ⟨h1, h2⟩ := ih (fun x hx => hl x (.tail _ hx)) hd'.2 h
    have h3 := rfld_went (hl f (.head _)) h1
    refine ⟨h3.1, ?_⟩
    have e : fld (rflds r (rfld s f)).1 f = fld (rfld s f).1 f := rflds_kept r (fun x hx => hl x (.tail _ hx)) (hl f (.head _)) hd'.1
    unfold flds
    rw [e]
    exact h3.trans h2
theorem rflds_more (t : List UInt8) (l : List Nat) {s : C × R} (hl : ∀ f ∈ l, f < 9) (hd : l.Nodup) (h : (rflds l s).2.gone = false) : rflds l (s.1, more t s.2) = ((rflds l s).1, more t (rflds l s).2) := by
  induction l generalizing s with
  | nil => rfl
  | cons f r ih =>
    simp only [rflds] at h ⊢
    have hd' := List.nodup_cons.1 hd
    rw [rfld_more t (hl f (.head _)) (rflds_went r (fun x hx => hl x (.tail _ hx)) hd'.2 h).1]
    exact ih (fun x hx => hl x (.tail _ hx)) hd'.2 h
theorem fsN_ok (k : Nat) : (∀ f ∈ fsN k, f < 9) ∧ (fsN k).Nodup := by
  unfold fsN
  split <;> decide
end Go.Proofs.Ytphbkjdheopmhaa.Cl
