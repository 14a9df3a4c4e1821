/- The plain laws of paths over lists of bytes: what the statements of stage 2 ask of pieces, parts, joins, bases and directories. No program in sight. No conditions. -/
import Derived.Test.YteknfjgmbkhfaaaPathsPure
namespace Go.Proofs.Yteknfjgmbkhfaaa.Pth
set_option linter.unusedVariables false
set_option linter.unusedSimpArgs false

/-- A text cut at its slashes, acc being what has been read of the running piece. -/
def sp : List UInt8 → List UInt8 → List (List UInt8)
  | [], acc => [acc]
  | c :: r, acc => if c = 47 then acc :: sp r [] else sp r (acc ++ [c])
def split (l : List UInt8) : List (List UInt8) := sp l []

theorem sp_slash (x y : List UInt8) : ∀ acc, sp (x ++ 47 :: y) acc = sp x acc ++ split y := by
  induction x with
  | nil => intro acc; simp [sp, split]
  | cons c r ih =>
    intro acc
    by_cases h : c = 47
    · simp [sp, h, ih]
    · simp [sp, h, ih]
theorem split_slash (x y : List UInt8) : split (x ++ 47 :: y) = split x ++ split y := sp_slash x y []
theorem sp_plain (x : List UInt8) : ∀ acc, (∀ c ∈ x, c ≠ 47) → sp x acc = [acc ++ x] := by
  induction x with
  | nil => intro acc _; simp [sp]
  | cons c r ih =>
    intro acc h
    have hc := h c (by simp)
    simp only [sp, hc, if_false]
    rw [ih _ (fun d hd => h d (by simp [hd]))]
    simp
theorem split_plain (x : List UInt8) (h : ∀ c ∈ x, c ≠ 47) : split x = [x] := by have e := sp_plain x [] h; rwa [List.nil_append] at e
theorem sp_mem (l : List UInt8) : ∀ acc q, q ∈ sp l acc → ∀ c ∈ q, c ∈ acc ∨ (c ∈ l ∧ c ≠ 47) := by
  induction l with
  | nil => intro acc q hq c hc; simp [sp] at hq; subst hq; exact .inl hc
  | cons d r ih =>
    intro acc q hq c hc
    by_cases h : d = 47
    · simp only [sp, h, if_true, List.mem_cons] at hq
      rcases hq with rfl | hq
      · exact .inl hc
      · rcases ih [] q hq c hc with h1 | h1
        · simp at h1
        · exact .inr ⟨by simp [h1.1], h1.2⟩
    · simp only [sp, h, if_false] at hq
      rcases ih _ q hq c hc with h1 | h1
      · rcases List.mem_append.1 h1 with h1 | h1
        · exact .inl h1
        · simp at h1; subst h1; exact .inr ⟨by simp, h⟩
      · exact .inr ⟨by simp [h1.1], h1.2⟩
theorem split_mem {l q : List UInt8} (h : q ∈ split l) {c : UInt8} (hc : c ∈ q) : c ∈ l ∧ c ≠ 47 := (sp_mem l [] q h c hc).resolve_left (by simp)
theorem sp_len (l : List UInt8) : ∀ acc, ((sp l acc).map List.length).sum + (sp l acc).length = acc.length + l.length + 1 := by
  induction l with
  | nil => intro acc; simp [sp]
  | cons d r ih =>
    intro acc
    by_cases h : d = 47
    · have := ih []
      simp [sp, h] at this ⊢
      omega
    · have := ih (acc ++ [d])
      simp [sp, h] at this ⊢
      omega
theorem split_len (l : List UInt8) : ((split l).map List.length).sum + (split l).length = l.length + 1 := by have e := sp_len l []; simp only [List.length_nil, Nat.zero_add] at e; exact e

theorem pcsL_map (s : ByteArray) : ∀ (r : List UInt8) (i f : Nat), r = s.data.toList.drop i → f ≤ i → i ≤ s.size → (pcsL s r i f).map (fun x => x.data.toList) = sp r ((s.data.toList.drop f).take (i - f)) := by
  intro r
  induction r with
  | nil =>
    intro i f hr hf hi
    simp [pcsL, sp, Lib.extract_data]
  | cons c r ih =>
    intro i f hr hf hi
    have hlt : i < s.data.toList.length := by
      rcases Nat.lt_or_ge i s.data.toList.length with h | h
      · exact h
      · rw [List.drop_of_length_le h] at hr; cases hr
    have hd := List.drop_eq_getElem_cons hlt
    rw [← hr] at hd
    injection hd with h1 h2
    have hsz : s.data.toList.length = s.size := rfl
    by_cases h : c = 47
    · simp only [pcsL, sp, h, if_true, List.map_cons, Lib.extract_data]
      rw [ih (i + 1) (i + 1) h2 (Nat.le_refl _) (by omega)]
      simp
    · simp only [pcsL, sp, h, if_false]
      rw [ih (i + 1) f h2 (by omega) (by omega)]
      congr 1
      rw [show i + 1 - f = (i - f) + 1 from by omega, List.take_add_one]
      congr 1
      rw [List.getElem?_drop, show f + (i - f) = i from by omega, List.getElem?_eq_getElem hlt, ← h1]
      rfl
theorem pcs_map (s : ByteArray) : (pcs s).map (fun x => x.data.toList) = split s.data.toList := by
  have := pcsL_map s s.data.toList 0 0 (by simp) (Nat.le_refl _) (Nat.zero_le _)
  simpa [pcs, split] using this

def longL (q : List UInt8) : Bool := decide (32 < q.length)
def chkL (l : List UInt8) : Int := if l = [] then 3 else if l.contains 0 then 1 else if 200 < l.length then 11 else if (split l).any longL then 11 else 0
def partL (q : List UInt8) : Bool := !(q == []) && !(q == [46])
def partsOf (l : List UInt8) : List (List UInt8) := if chkL l = 0 then (split l).filter partL else []
def rootL (l : List UInt8) : Bool := decide (chkL l = 0) && [47].isPrefixOf l

theorem chk_eq (p : ByteArray) : chk p = chkL p.data.toList := by
  unfold chk chkL
  have h1 : (p.size = 0) = (p.data.toList = []) := by
    rw [eq_iff_iff, ← List.length_eq_zero_iff]
    exact Iff.rfl
  have h2 : (200 < p.size) = (200 < p.data.toList.length) := rfl
  have h3 : (pcs p).any tooLong = (split p.data.toList).any longL := by
    rw [← pcs_map, List.any_map]
    congr 1
  rw [h3]
  simp only [h1, h2]
theorem partsL_map (p : ByteArray) : (partsL p).map (fun x => x.data.toList) = partsOf p.data.toList := by
  unfold partsL partsOf parts
  rw [chk_eq]
  split
  · rw [← pcs_map, List.filter_map]
    rfl
  · rfl
theorem rootB_eq (p : ByteArray) : rootB p = rootL p.data.toList := by
  unfold rootB rootL
  rw [chk_eq]
  rfl
theorem map_data_inj {a b : List ByteArray} (h : a.map (fun x => x.data.toList) = b.map (fun x => x.data.toList)) : a = b := by
  refine List.map_inj_right (f := fun x : ByteArray => x.data.toList) (fun x y e => ByteArray.ext (Array.toList_inj.1 e)) |>.1 h

theorem chkL_zero {l : List UInt8} : chkL l = 0 ↔ l ≠ [] ∧ l.contains 0 = false ∧ l.length ≤ 200 ∧ (split l).any longL = false := by
  unfold chkL
  constructor
  · intro h
    split at h
    · cases h
    · split at h
      · cases h
      · split at h
        · cases h
        · split at h
          · cases h
          · rename_i h1 h2 h3 h4
            exact ⟨h1, by simpa using h2, by omega, by simpa using h4⟩
  · rintro ⟨h1, h2, h3, h4⟩
    rw [if_neg h1, h2, if_neg (by simp), if_neg (by omega), h4]
    rfl

/-- The parts of what is joined are those of both. -/
def joinL (d p : List UInt8) : List UInt8 := if d = [] ∨ [47].isPrefixOf p then p else if [47].isSuffixOf d then d ++ p else d ++ 47 :: p
theorem joinB_eq (d p : ByteArray) : (joinB d p).data.toList = joinL d.data.toList p.data.toList := by
  unfold joinB joinL
  have h1 : (d.size = 0) = (d.data.toList = []) := by
    rw [eq_iff_iff, ← List.length_eq_zero_iff]
    exact Iff.rfl
  have h2 : headB p = [47].isPrefixOf p.data.toList := rfl
  have h3 : tailB d = [47].isSuffixOf d.data.toList := rfl
  rw [h2, h3]
  simp only [h1]
  split
  · rfl
  · split
    · simp
    · simp [slash]
theorem suffix_form {d : List UInt8} (h : [47].isSuffixOf d = true) : ∃ d', d = d' ++ [47] := by
  rw [List.isSuffixOf_iff_suffix] at h
  obtain ⟨t, ht⟩ := h
  exact ⟨t, ht.symm⟩
theorem split_tail (d : List UInt8) : split (d ++ [47]) = split d ++ [[]] := split_slash d []
theorem parts_join (d p : List UInt8) (hd : d ≠ []) (hp : [47].isPrefixOf p = false) :
    (split (joinL d p)).filter partL = (split d).filter partL ++ (split p).filter partL := by
  unfold joinL
  rw [if_neg (by simp [hd, hp])]
  split
  · rename_i h
    obtain ⟨d', rfl⟩ := suffix_form h
    rw [split_tail, List.append_assoc, List.singleton_append, split_slash]
    simp [partL]
  · rw [split_slash, List.filter_append]
theorem head_join (d p : List UInt8) (hd : d ≠ []) (hp : [47].isPrefixOf p = false) : [47].isPrefixOf (joinL d p) = [47].isPrefixOf d := by
  unfold joinL
  rw [if_neg (by simp [hd, hp])]
  cases d with
  | nil => exact absurd rfl hd
  | cons a r =>
    split
    · rfl
    · rfl

theorem joins_law (d p : ByteArray) (h1 : chk d = 0) (h2 : chk p = 0) (h3 : chk (joinB d p) = 0) (hr : rootB p = false) :
    partsL d ++ partsL p = partsL (joinB d p) ∧ rootB d = rootB (joinB d p) := by
  rw [chk_eq] at h1 h2 h3
  rw [joinB_eq] at h3
  have hd := (chkL_zero.1 h1).1
  have hp : [47].isPrefixOf p.data.toList = false := by
    rw [rootB_eq] at hr
    simpa [rootL, h2] using hr
  constructor
  · apply map_data_inj
    rw [List.map_append, partsL_map, partsL_map, partsL_map, joinB_eq]
    unfold partsOf
    rw [if_pos h1, if_pos h2, if_pos h3, parts_join _ _ hd hp]
  · rw [rootB_eq, rootB_eq, joinB_eq]
    unfold rootL
    rw [h1, h3, head_join _ _ hd hp]
theorem joins_root (d p : ByteArray) (h : rootB p = true) : joinB d p = p := by
  have : headB p = true := by
    unfold rootB at h
    exact (Bool.and_eq_true _ _ ▸ h).2
  simp [joinB, this]

/-! ### A directory and a base -/
theorem last_form (p : ByteArray) : (lastB p = -1 ∧ ∀ c ∈ p.data.toList, c ≠ 47) ∨
    ∃ (i : Nat) (d b : List UInt8), lastB p = i ∧ p.data.toList = d ++ 47 :: b ∧ d.length = i ∧ (∀ c ∈ b, c ≠ 47) ∧ i < p.size := by
  have conv : ∀ j, (h : j < p.size) → ((((p.data[j]!).toNat : Nat) : Int) = 47 ↔ p.data.toList[j]'h = 47) := by
    intro j h
    rw [data_get p j h]
    constructor
    · intro e
      have e' : p[j].toNat = 47 := by omega
      exact UInt8.toNat_inj.1 e'
    · intro e
      have : p[j] = 47 := e
      rw [this]
      rfl
  unfold lastB
  rcases Lib.lastIndexByte_spec p 47 with ⟨h, hn⟩ | ⟨i, hi, h, he, hn⟩
  · refine .inl ⟨h, fun c hc e => ?_⟩
    obtain ⟨j, hj, hcj⟩ := List.getElem_of_mem hc
    exact hn j hj ((conv j hj).2 (hcj.trans e))
  · refine .inr ⟨i, p.data.toList.take i, p.data.toList.drop (i + 1), h, ?_, ?_, ?_, hi⟩
    · have hi' : i < p.data.toList.length := hi
      have e2 : p.data.toList[i]'hi' = 47 := (conv i hi).1 he
      have e3 := List.drop_eq_getElem_cons hi'
      rw [e2] at e3
      rw [← e3, List.take_append_drop]
    · rw [List.length_take]
      exact Nat.min_eq_left (Nat.le_of_lt hi)
    · intro c hc e
      obtain ⟨j, hj, hcj⟩ := List.getElem_of_mem hc
      rw [List.getElem_drop] at hcj
      have hj' : i + 1 + j < p.size := by
        rw [List.length_drop] at hj
        have : p.data.toList.length = p.size := rfl
        omega
      exact hn (i + 1 + j) (by omega) hj' ((conv _ hj').2 (hcj.trans e))

theorem base_list (p : ByteArray) : (baseB p).data.toList = p.data.toList.drop (lastB p + 1).toNat := by
  unfold baseB
  rw [Lib.extract_data, List.take_of_length_le]
  rw [List.length_drop]
  exact Nat.le_refl _
theorem base_plain (p : ByteArray) : ∀ c ∈ (baseB p).data.toList, c ≠ 47 := by
  rw [base_list]
  rcases last_form p with ⟨h, hn⟩ | ⟨i, d, b, h, hL, hd, hb, _⟩
  · rw [h]
    exact hn
  · rw [h, hL, show ((i : Int) + 1).toNat = d.length + 1 from by omega]
    simpa using hb
theorem base_noslash (p : ByteArray) (i : Nat) (h : i < (baseB p).size) : (baseB p)[i] ≠ 47 :=
  base_plain p _ (Array.getElem_mem_toList (xs := (baseB p).data) (i := i) h)
theorem tail_base (p : ByteArray) : tailB p = (decide (p.size ≠ 0) && decide ((baseB p).size = 0)) := by
  have hs : (baseB p).size = (p.data.toList.drop (lastB p + 1).toNat).length := by rw [← base_list]; rfl
  have hps : p.size = p.data.toList.length := rfl
  rw [hs, hps]
  show [47].isSuffixOf p.data.toList = _
  rw [Bool.eq_iff_iff, List.isSuffixOf_iff_suffix]
  rcases last_form p with ⟨h, hn⟩ | ⟨i, d, b, h, hL, hd, hb, _⟩
  · rw [h]
    constructor
    · rintro ⟨t, ht⟩
      exact absurd rfl (hn 47 (by rw [← ht]; simp))
    · intro hh
      simp at hh
      try exact absurd hh.2 hh.1
  · rw [h, hL, show ((i : Int) + 1).toNat = d.length + 1 from by omega]
    constructor
    · rintro ⟨t, ht⟩
      by_cases hbn : b = []
      · subst hbn; simp
      · exfalso
        obtain ⟨b', x, rfl⟩ : ∃ b' x, b = b' ++ [x] := ⟨b.dropLast, b.getLast hbn, (List.dropLast_concat_getLast hbn).symm⟩
        have hx := hb x (by simp)
        have : t ++ [47] = (d ++ 47 :: b') ++ [x] := by rw [ht]; simp
        have h2 := List.append_inj_right' this rfl
        simp at h2
        exact absurd h2.symm hx
    · intro hh
      simp at hh
      subst hh
      exact ⟨d, rfl⟩

theorem not_prefix {b : List UInt8} (h : ∀ c ∈ b, c ≠ 47) : [47].isPrefixOf b = false := by
  cases b with
  | nil => rfl
  | cons a r =>
    have := h a (by simp)
    simp only [List.isPrefixOf, Bool.and_true, beq_eq_false_iff_ne]
    exact fun e => this e.symm

/-- What a directory's path joined with the base comes to. -/
structure Back (L J : List UInt8) : Prop where
  parts : (split J).filter partL = (split L).filter partL
  head : [47].isPrefixOf J = [47].isPrefixOf L
  len : J.length ≤ L.length + 2
  ne : J ≠ []
  mem : ∀ c ∈ J, c ∈ L ∨ c = 46 ∨ c = 47
  sub : ∀ q ∈ split J, q ∈ split L ∨ q = [46]

theorem back_list (p : ByteArray) (hp : p.data.toList ≠ []) : Back p.data.toList (joinB (dirB p) (baseB p)).data.toList := by
  rw [joinB_eq, base_list]
  unfold dirB
  rcases last_form p with ⟨h, hn⟩ | ⟨i, d, b, h, hL, hd, hb, _⟩
  · rw [h, if_pos rfl]
    show Back _ (joinL [46] (p.data.toList.drop 0))
    rw [List.drop_zero]
    generalize p.data.toList = L at *
    have e : joinL [46] L = [46] ++ 47 :: L := by
      unfold joinL
      rw [if_neg (by simp [not_prefix hn]), if_neg (by decide)]
    have e2 : split ([46] ++ 47 :: L) = [46] :: split L := by
      rw [split_slash, split_plain [46] (by simp)]
      rfl
    rw [e]
    refine ⟨?_, ?_, by simp, by simp, ?_, ?_⟩
    · rw [e2]
      simp [partL]
    · rw [not_prefix hn]
      rfl
    · intro c hc
      simp at hc
      rcases hc with rfl | rfl | hc
      · simp
      · simp
      · exact .inl hc
    · intro q hq
      rw [e2] at hq
      simp at hq
      exact hq.symm
  · rw [h, if_neg (by omega)]
    have hbl : p.data.toList.drop ((i : Int) + 1).toNat = b := by rw [hL, show ((i : Int) + 1).toNat = d.length + 1 from by omega]; simp
    rw [hbl]
    by_cases h0 : (i : Int) = 0
    · rw [if_pos h0]
      have hd0 : d = [] := List.eq_nil_of_length_eq_zero (by omega)
      subst hd0
      have e : joinL [47] b = p.data.toList := by
        unfold joinL
        rw [if_neg (by simp [not_prefix hb]), if_pos (by decide), hL]
        rfl
      show Back _ (joinL [47] b)
      rw [e]
      exact ⟨rfl, rfl, by omega, hp, fun c hc => .inl hc, fun q hq => .inl hq⟩
    · rw [if_neg h0]
      have hdl : (p.extract 0 ((i : Int)).toNat).data.toList = d := by
        rw [Lib.extract_data, hL, show ((i : Int)).toNat - 0 = d.length from by omega]
        simp
      rw [hdl]
      have hdn : d ≠ [] := by rintro rfl; simp at hd; omega
      have hj : joinL d b = if [47].isSuffixOf d then d ++ b else d ++ 47 :: b := by
        unfold joinL
        rw [if_neg (by simp [hdn, not_prefix hb])]
      rw [hj]
      split
      · rename_i hs
        obtain ⟨d', rfl⟩ := suffix_form hs
        have e0 : split (47 :: b) = [[], b] := by
          rw [show (47 :: b : List UInt8) = [] ++ 47 :: b from rfl, split_slash, split_plain b hb]
          rfl
        have e1 : split p.data.toList = split d' ++ [[], b] := by
          rw [hL, List.append_assoc, List.singleton_append, split_slash, e0]
        have e2 : split (d' ++ [47] ++ b) = split d' ++ [b] := by
          rw [List.append_assoc, List.singleton_append, split_slash, split_plain b hb]
        refine ⟨?_, ?_, ?_, by simp, ?_, ?_⟩
        · rw [e1, e2, List.filter_append, List.filter_append]
          simp [List.filter_cons, partL]
        · rw [hL]
          cases d' <;> rfl
        · rw [hL]
          simp
          omega
        · intro c hc
          rw [hL]
          simp at hc ⊢
          rcases hc with h | h | h
          · simp [h]
          · simp [h]
          · simp [h]
        · intro q hq
          rw [e2] at hq
          rw [e1]
          simp at hq ⊢
          rcases hq with h | h
          · simp [h]
          · simp [h]
      · rw [← hL]
        exact ⟨rfl, rfl, by omega, hp, fun c hc => .inl hc, fun q hq => .inl hq⟩

theorem chk_ne {p : ByteArray} (h : chk p = 0) : p.data.toList ≠ [] := by
  rw [chk_eq] at h
  exact (chkL_zero.1 h).1
theorem back_law (p : ByteArray) (h : chk p = 0) (hj : chk (joinB (dirB p) (baseB p)) = 0) : partsL p = partsL (joinB (dirB p) (baseB p)) ∧ rootB p = rootB (joinB (dirB p) (baseB p)) := by
  have hb := back_list p (chk_ne h)
  rw [chk_eq] at h hj
  constructor
  · apply map_data_inj
    rw [partsL_map, partsL_map]
    unfold partsOf
    rw [if_pos h, if_pos hj, hb.parts]
  · rw [rootB_eq, rootB_eq]
    unfold rootL
    rw [h, hj, hb.head]
theorem back_chk (p : ByteArray) (h : chk p = 0) (h2 : p.size + 2 ≤ 200) : chk (joinB (dirB p) (baseB p)) = 0 := by
  have hb := back_list p (chk_ne h)
  rw [chk_eq] at h ⊢
  obtain ⟨a1, a2, a3, a4⟩ := chkL_zero.1 h
  refine chkL_zero.2 ⟨hb.ne, ?_, ?_, ?_⟩
  · rw [Bool.eq_false_iff]
    intro hc
    rw [List.contains_iff_mem] at hc
    rcases hb.mem _ hc with h0 | h0 | h0
    · rw [← List.contains_iff_mem, a2] at h0
      cases h0
    · cases h0
    · cases h0
  · have := hb.len
    have e : p.data.toList.length = p.size := rfl
    omega
  · rw [Bool.eq_false_iff]
    intro hc
    obtain ⟨q, hq, hl⟩ := List.any_eq_true.1 hc
    rcases hb.sub q hq with h0 | h0
    · have : (split p.data.toList).any longL = true := List.any_eq_true.2 ⟨q, h0, hl⟩
      rw [a4] at this
      cases this
    · subst h0
      cases hl

/-! ### The parts, joined by slashes, have just these parts again -/
def accL (a : List (List UInt8)) : List UInt8 := a.flatMap (· ++ [47])
def accB (a : List ByteArray) : ByteArray := a.foldl (fun s x => s ++ x ++ slash) ⟨#[]⟩
theorem accB_snoc (a : List ByteArray) (x : ByteArray) : accB (a ++ [x]) = accB a ++ x ++ slash := by simp [accB]
theorem accB_list (a : List ByteArray) : (accB a).data.toList = accL (a.map fun x => x.data.toList) := by
  have key : ∀ (a : List ByteArray) (s : ByteArray), (a.foldl (fun s x => s ++ x ++ slash) s).data.toList = s.data.toList ++ accL (a.map fun x => x.data.toList) := by
    intro a
    induction a with
    | nil => intro s; simp [accL]
    | cons x r ih =>
      intro s
      simp only [List.foldl_cons, ih]
      simp [accL, slash]
  have := key a ⟨#[]⟩
  simpa [accB] using this
theorem split_acc (a : List (List UInt8)) (x : List UInt8) (h : ∀ q ∈ a, ∀ c ∈ q, c ≠ 47) : split (accL a ++ x) = a ++ split x := by
  induction a with
  | nil => simp [accL]
  | cons q r ih =>
    have e : accL (q :: r) ++ x = q ++ 47 :: (accL r ++ x) := by simp [accL]
    rw [e, split_slash, split_plain q (h q (by simp)), ih (fun q' hq => h q' (by simp [hq]))]
    rfl
theorem accL_len (a : List (List UInt8)) : (accL a).length = (a.map List.length).sum + a.length := by
  induction a with
  | nil => rfl
  | cons q r ih =>
    have e : accL (q :: r) = q ++ 47 :: accL r := by simp [accL]
    rw [e]
    simp [ih]
    omega
theorem filter_sum (f : List UInt8 → Bool) (l : List (List UInt8)) : ((l.filter f).map List.length).sum + (l.filter f).length ≤ (l.map List.length).sum + l.length := by
  induction l with
  | nil => exact Nat.le_refl _
  | cons q r ih =>
    rw [List.filter_cons]
    split
    · simp; omega
    · simp; omega
/-- What the joined parts come to. -/
def again (a : List ByteArray) : ByteArray := (accB a).extract 0 ((accB a).size - 1)
theorem again_list (init : List (List UInt8)) (last : List UInt8) (a : List ByteArray) (h : a.map (fun x => x.data.toList) = init ++ [last]) : (again a).data.toList = accL init ++ last := by
  have hs : (accB a).size = (accB a).data.toList.length := rfl
  unfold again
  rw [Lib.extract_data, hs, accB_list, h, List.drop_zero, Nat.sub_zero]
  have e : accL (init ++ [last]) = (accL init ++ last) ++ [47] := by simp [accL]
  have e2 : ((accL init ++ last) ++ [47]).length - 1 = (accL init ++ last).length := by rw [List.length_append]; rfl
  rw [e, e2]
  exact List.take_left
theorem again_law (p : ByteArray) (h : chk p = 0) (hne : partsL p ≠ []) : chk (again (partsL p)) = 0 ∧ partsL (again (partsL p)) = partsL p ∧ rootB (again (partsL p)) = false := by
  have hm := partsL_map p
  have hc : chkL p.data.toList = 0 := by rw [← chk_eq]; exact h
  obtain ⟨a1, a2, a3, a4⟩ := chkL_zero.1 hc
  have hpo : partsOf p.data.toList = (split p.data.toList).filter partL := by simp [partsOf, hc]
  rw [hpo] at hm
  generalize hL : p.data.toList = L at *
  have hne' : (split L).filter partL ≠ [] := by
    intro e
    rw [e] at hm
    exact hne (List.map_eq_nil_iff.1 hm)
  obtain ⟨init, last, hil⟩ : ∃ init last, (split L).filter partL = init ++ [last] := ⟨_, _, (List.dropLast_concat_getLast hne').symm⟩
  have hal := again_list init last (partsL p) (hm.trans hil)
  have hmem : ∀ q ∈ init ++ [last], q ∈ split L ∧ partL q = true := by
    intro q hq
    rw [← hil] at hq
    exact List.mem_filter.1 hq
  have hpl : ∀ q ∈ init ++ [last], ∀ c ∈ q, c ≠ 47 := fun q hq c hcq => (split_mem (hmem q hq).1 hcq).2
  have hsp : split (again (partsL p)).data.toList = init ++ [last] := by
    rw [hal, split_acc init last (fun q hq => hpl q (by simp [hq])), split_plain last (hpl last (by simp))]
  have hpn : ∀ q, partL q = true → q ≠ [] := by
    rintro q hq rfl
    cases hq
  have hln : last ≠ [] := hpn _ (hmem last (by simp)).2
  have hc2 : chkL (again (partsL p)).data.toList = 0 := by
    refine chkL_zero.2 ⟨by rw [hal]; simp [hln], ?_, ?_, ?_⟩
    · rw [Bool.eq_false_iff]
      intro h0
      rw [List.contains_iff_mem, hal] at h0
      have hz : ∀ q ∈ init ++ [last], (0 : UInt8) ∉ q := by
        intro q hq hcq
        have := (split_mem (hmem q hq).1 hcq).1
        rw [← List.contains_iff_mem, a2] at this
        cases this
      rcases List.mem_append.1 h0 with h0 | h0
      · unfold accL at h0
        obtain ⟨q, hq, h1⟩ := List.mem_flatMap.1 h0
        rcases List.mem_append.1 h1 with h1 | h1
        · exact hz q (by simp [hq]) h1
        · simp at h1
      · exact hz last (by simp) h0
    · have e1 := accL_len init
      have e2 := filter_sum partL (split L)
      have e3 := split_len L
      rw [hil] at e2
      rw [hal, List.length_append, e1]
      simp at e2
      omega
    · rw [Bool.eq_false_iff, hsp]
      intro h0
      obtain ⟨q, hq, hl⟩ := List.any_eq_true.1 h0
      have : (split L).any longL = true := List.any_eq_true.2 ⟨q, (hmem q hq).1, hl⟩
      rw [a4] at this
      cases this
  refine ⟨by rw [chk_eq]; exact hc2, ?_, ?_⟩
  · apply map_data_inj
    rw [partsL_map, hm, hil]
    unfold partsOf
    rw [if_pos hc2, hsp, ← hil, List.filter_filter]
    simp
  · rw [rootB_eq]
    unfold rootL
    rw [hc2, hal]
    cases init with
    | nil =>
      simp only [accL, List.flatMap_nil, List.nil_append]
      rw [not_prefix (hpl last (by simp))]
      rfl
    | cons q r =>
      have hq := hpn q (hmem q (by simp)).2
      cases q with
      | nil => exact absurd rfl hq
      | cons b q' =>
        have hb := hpl (b :: q') (by simp) b (by simp)
        simp only [accL, List.flatMap_cons, List.cons_append, List.isPrefixOf, Bool.and_true]
        simp
        exact fun e => hb e.symm

end Go.Proofs.Yteknfjgmbkhfaaa.Pth
