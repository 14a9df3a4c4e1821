/- All of Dynamic under one roof. No conditions. Ahead of it: The walk of Look. Conditions: as each says. The walk of Right. Conditions: as each says. The walk of hostelref00.CopyBytes (as Elf8, for any chapter). Conditions: there are fewer than 2^32 bytes. The plain mathematics of calls: which calls may be, their bytes, what bytes say. No program in sight. No conditions. The plain mathematics of calls' bytes: writing, reading, and that each undoes the other. No program in sight. No conditions. The walks of slices.Clone and bytes.Clone of bytes, of words.Set and of its reference where the bytes are there. Conditions: there are fewer than 2^32 bytes. The walks of the law's own helpers: plain, large. No conditions. The walk of the law's anchor. No conditions. The walk of hostelref00.EqTexts: are two lists of texts the same? Condition: the lists are no longer than the model's greatest length. The walk of the law DynamicNone. Conditions: as each says. What an argument that is a slice of bytes, of integers or of strings reads as: a list, cell by cell. No conditions. What an argument that is a head reads as: four fields, and a list of segments. No conditions. -/
import Derived.Test.YtdminnhfgdoibaaDyB3
import Derived.Test.YtdminnhfgdoibaaDyB1
import Derived.Lib.AppendStr
import Derived.Lib.SliceRun
import Derived.Test.YtdminnhfgdoibaaProg
import Derived.WalkSpells
import Derived.WalkLawsBesides
import Derived.BigQuiet
import Derived.Deep.QuietTactic
import Derived.ChangeSlices
import Derived.SliceStrings
import Derived.OpenShut
import Derived.Deep.Slices
import Derived.Lib.SmallJoins
namespace Go.Proofs.Ytdminnhfgdoibaa
set_option linter.unusedVariables false
set_option linter.unusedSimpArgs false
open Go.RowKit
namespace Dy
theorem linksFrom_mem {b : List UInt8} {n : Names} : ∀ (k i : Nat), ∀ x ∈ (linksFrom b n k i).1, 0 < x ∧ x < n.chain
  | 0, i, x, h => by cases h
  | k + 1, i, x, h => by
    by_cases hi : i = 0
    · rw [linksFrom, if_pos hi] at h; cases h
    · by_cases hc : n.chain ≤ i
      · rw [linksFrom, if_neg hi, if_pos hc] at h; cases h
      · rw [linksFrom, if_neg hi, if_neg hc] at h
        rcases List.mem_cons.1 h with rfl | h
        · omega
        · exact linksFrom_mem _ _ x h
theorem linksFrom_len {b : List UInt8} {n : Names} : ∀ (k i : Nat), (linksFrom b n k i).1.length ≤ k
  | 0, i => Nat.le_refl _
  | k + 1, i => by
    by_cases hi : i = 0
    · rw [linksFrom, if_pos hi]; exact Nat.zero_le _
    · by_cases hc : n.chain ≤ i
      · rw [linksFrom, if_neg hi, if_pos hc]; exact Nat.zero_le _
      · rw [linksFrom, if_neg hi, if_neg hc]
        have := linksFrom_len (b := b) (n := n) k (Wd.num b (n.hash + 8 + 4 * n.buckets + 4 * i) 4)
        simpa using this
theorem links_mem {b : List UInt8} {n : Names} {name : List UInt8} : ∀ x ∈ (links b n name).1, 0 < x ∧ x < n.chain := by
  intro x h
  unfold links at h
  split at h
  · cases h
  · exact linksFrom_mem _ _ x h
theorem links_len {b : List UInt8} {n : Names} {name : List UInt8} : (links b n name).1.length ≤ n.chain := by
  unfold links
  split
  · exact Nat.zero_le _
  · exact linksFrom_len _ _
theorem text_le {t : List UInt8} {q : Nat} {s : ByteArray} (h : text t q = some s) : s.size ≤ t.length := by
  unfold text at h
  split at h
  · cases h
  · split at h
    · injection h with h
      subst h
      show (((t.drop q).takeWhile fun c => c != 0).toArray).size ≤ _
      have h1 : ((t.drop q).takeWhile fun c => c != 0).length ≤ (t.drop q).length := (List.takeWhile_sublist _).length_le
      rw [List.length_drop] at h1
      simp only [List.size_toArray]
      omega
    · cases h
theorem symsFrom_name {t b : List UInt8} : ∀ {n p : Nat} {l : List Sym}, symsFrom t b n p = some l → ∀ x ∈ l, x.name.size ≤ t.length
  | 0, _, _, h => by unfold symsFrom at h; injection h with h; subst h; intro x hx; cases hx
  | n + 1, p, l, h => by
    unfold symsFrom at h
    cases hs : symAt t b p with
    | none => rw [hs] at h; cases h
    | some s =>
      rw [hs] at h
      cases hr : symsFrom t b n (p + 24) with
      | none => rw [hr] at h; cases h
      | some r =>
        rw [hr] at h
        injection h with h
        subst h
        intro x hx
        rcases List.mem_cons.1 hx with rfl | hx
        · unfold symAt at hs
          cases ht : text t (Wd.num b p 4) with
          | none => rw [ht] at hs; cases hs
          | some y =>
            rw [ht] at hs
            dsimp only at hs
            split at hs
            · cases hs
            · injection hs with hs
              subst hs
              exact text_le ht
        · exact symsFrom_name hr x hx
/-- What a good answer is made of. -/
theorem parse_parts {b : List UInt8} {segs : List El.Sg} {L : List (Nat × Nat)} (h : open_ b segs = (0, some L)) (h2 : (parse b segs).2 = 0) :
    ∃ t d ss rs, table b.length (El.loads segs) L 5 10 = some t ∧ (names b (El.loads segs) L).1 = 0 ∧ (relaB b (El.loads segs) L).1 = 0 ∧ texts (cut b t.1 t.2) (val L 29).isSome L zero = some d ∧ symsFrom (cut b t.1 t.2) b ((names b (El.loads segs) L).2.chain - 1) ((names b (El.loads segs) L).2.syms + 24) = some ss ∧
      relsFrom ss.length (relaB b (El.loads segs) L).2 ((relaB b (El.loads segs) L).2.length / 24) 0 = some rs ∧ parse b segs = ({ d with syms := ss, relas := rs }, 0) := by
  rw [parse_some h] at h2 ⊢
  cases ht : table b.length (El.loads segs) L 5 10 with
  | none => rw [ht, pBody_1] at h2; exact absurd h2 (by decide)
  | some t =>
    rw [ht] at h2
    by_cases h3 : (names b (El.loads segs) L).1 = 0
    · by_cases h4 : (relaB b (El.loads segs) L).1 = 0
      · cases hd : texts (cut b t.1 t.2) (val L 29).isSome L zero with
        | none => rw [pBody_4 h3 h4 hd] at h2; exact absurd h2 (by decide)
        | some d =>
          cases hs : symsFrom (cut b t.1 t.2) b ((names b (El.loads segs) L).2.chain - 1) ((names b (El.loads segs) L).2.syms + 24) with
          | none => rw [pBody_5 h3 h4 hd hs] at h2; exact absurd h2 (by decide)
          | some ss =>
            cases hr : relsFrom ss.length (relaB b (El.loads segs) L).2 ((relaB b (El.loads segs) L).2.length / 24) 0 with
            | none => rw [pBody_6 h3 h4 hd hs hr] at h2; exact absurd h2 (by decide)
            | some rs => exact ⟨t, d, ss, rs, rfl, h3, h4, hd, hs, hr, pBody_7 h3 h4 hd hs hr⟩
      · rw [pBody_3 h3 h4] at h2
        exact absurd h2 h4
    · rw [pBody_2 h3] at h2
      exact absurd h2 h3
theorem parse_syms {b : List UInt8} {segs : List El.Sg} {L : List (Nat × Nat)} (h : open_ b segs = (0, some L)) (h2 : (parse b segs).2 = 0) : (parse b segs).1.syms.length = (names b (El.loads segs) L).2.chain - 1 ∧ ∀ x ∈ (parse b segs).1.syms, x.name.size ≤ b.length := by
  obtain ⟨t, d, ss, rs, -, -, -, -, hs, -, hp⟩ := parse_parts h h2
  rw [hp]
  refine ⟨symsFrom_len hs, fun x hx => ?_⟩
  have := symsFrom_name hs x hx
  unfold cut at this
  rw [List.length_take, List.length_drop] at this
  omega
theorem lookIn_cons {D : Dyn} {name : ByteArray} {i : Nat} {r : List Nat} {s : Sym} (hs : D.syms[i - 1]? = some s) : lookIn D name (i :: r) = if s.name = name then (i - 1, true) else lookIn D name r := by
  rw [lookIn, hs]
  by_cases h : s.name = name
  · rw [if_pos h, if_pos (by rw [← h]; rfl)]
  · rw [if_neg h]
    exact if_neg (fun e => h (Option.some.inj e))
theorem has_look {b : List UInt8} {segs : List El.Sg} {N : Names} {q : Bool} (h : has b segs N q) (name : ByteArray) : look b segs name = if q = true then lookIn (parse b segs).1 name (links b N name.data.toList).1 else (0, false) := by
  unfold look
  rcases h with ⟨rfl, -, h | h⟩ | ⟨rfl, h, L, ho, rfl⟩
  · rw [if_pos h]; rfl
  · rw [h]
    split <;> rfl
  · rw [if_neg (by simpa using h), ho]
    rfl
theorem has_right {b : List UInt8} {segs : List El.Sg} {N : Names} {q : Bool} (h : has b segs N q) : right b segs = if q = true then rightFrom b N (parse b segs).1.syms 0 else decide ((parse b segs).2 = 0) := by
  unfold right
  rcases h with ⟨rfl, -, h | h⟩ | ⟨rfl, h, L, ho, rfl⟩
  · rw [if_pos h, if_neg (by decide), decide_eq_false h]
  · rw [h]
    by_cases h2 : (parse b segs).2 = 0
    · rw [if_neg (by simpa using h2), if_neg (by decide), decide_eq_true h2]
    · rw [if_pos h2, if_neg (by decide), decide_eq_false h2]
  · rw [if_neg (by simpa using h), ho, if_pos rfl]
theorem has_syms {b : List UInt8} {segs : List El.Sg} {N : Names} (h : has b segs N true) : (parse b segs).1.syms.length = N.chain - 1 ∧ ∀ x ∈ (parse b segs).1.syms, x.name.size ≤ b.length := by
  rcases h with ⟨h, -⟩ | ⟨-, h, L, ho, rfl⟩
  · cases h
  · exact parse_syms ho h
end Dy
theorem symC_len (l : List Dy.Sym) : (symC l).length = l.length * 5 := by
  induction l with
  | nil => rfl
  | cons a r ih =>
    unfold symC at ih ⊢
    rw [List.flatMap_cons, List.length_append, ih]
    simp [symV]
    omega
theorem symC_at (l : List Dy.Sym) : ∀ (k : Nat) (x : Dy.Sym), l[k]? = some x → ∀ j v, (symV x)[j]? = some v → (symC l)[k * 5 + j]? = some v := by
  induction l with
  | nil => intro k x h; simp at h
  | cons a r ih =>
    intro k x h j v hv
    have e0 : symC (a :: r) = symV a ++ symC r := rfl
    have hj : j < 5 := by have := (List.getElem?_eq_some_iff.1 hv).1; simpa [symV] using this
    have h5 : (symV a).length = 5 := rfl
    cases k with
    | zero =>
      simp at h
      subst h
      rw [e0, List.getElem?_append_left (by omega), Nat.zero_mul, Nat.zero_add]
      exact hv
    | succ k =>
      simp at h
      rw [e0, List.getElem?_append_right (by omega), h5, show (k + 1) * 5 + j - 5 = k * 5 + j from by omega]
      exact ih k x h j v hv
theorem sym_at {w : World} {B n : Nat} {A : Option Addr} {l : List Dy.Sym} (h : Rd w B 5 A n (symC l)) {k : Nat} {x : Dy.Sym} (hk : l[k]? = some x) :
    ∃ b off, A = some ⟨b, off, none⟩ ∧ b < B ∧ w.cell? ⟨b, off + k * 5, none⟩ = some (.string x.name) ∧ w.cell? ⟨b, off + k * 5 + 1, none⟩ = some (.int .u64 (x.value : Nat)) ∧ w.cell? ⟨b, off + k * 5 + 2, none⟩ = some (.int .u64 (x.size : Nat)) ∧ w.cell? ⟨b, off + k * 5 + 3, none⟩ = some (.int .u8 (x.bind : Nat)) ∧ w.cell? ⟨b, off + k * 5 + 4, none⟩ = some (.bool x.isdef) := by
  have hc := symC_at l k x hk
  obtain ⟨b, off, ea, hb, hx⟩ := h.open_ (by
    intro e0
    have := hc 0 _ rfl
    rw [e0] at this
    simp at this)
  refine ⟨b, off, ea, hb, ?_, ?_, ?_, ?_, ?_⟩
  · exact hx _ _ (hc 0 _ rfl)
  · rw [Nat.add_assoc]; exact hx _ _ (hc 1 _ rfl)
  · rw [Nat.add_assoc]; exact hx _ _ (hc 2 _ rfl)
  · rw [Nat.add_assoc]; exact hx _ _ (hc 3 _ rfl)
  · rw [Nat.add_assoc]; exact hx _ _ (hc 4 _ rfl)

set_option maxRecDepth 100000 in
set_option maxHeartbeats 8000000 in
theorem look_any (A : Option Addr) (n c B : Nat) (b : List UInt8) (ty en ph : Int) (As : Option Addr) (ns cs : Nat) (segs : List El.Sg) (name : ByteArray) (w : World) (hB : B ≤ w.heap.size) (hb : Rd w B 1 A n (bys b)) (hs : Rd w B 6 As ns (segCells segs)) (hn : n ≤ 4294967296) (hns : ns ≤ 4294967296) (hc : n ≤ c) (hfit : ∀ s ∈ segs, SgFit s) (hname : name.size ≤ 4294967296) :
    Calls Try.prog 10 #[.slice A n c, .agg #[.int .u16 ty, .int .u64 en, .int .u64 ph, .slice As ns cs], .string name] w fun e w' => e = .returned (.tuple #[.int .i64 ((Dy.look b segs name).1 : Nat), .bool (Dy.look b segs name).2]) ∧ Below w.heap.size w w' := by
  have hB0 : Below w.heap.size w (w.alloc (.cells #[.int .u16 ty, .int .u64 en, .int .u64 ph, .slice As ns cs] 27)) := (Below.refl _ _).alloc (Nat.le_refl _) _
  have hH0 := Blk.new w 27 [.int .u16 ty, .int .u64 en, .int .u64 ph, .slice As ns cs]
  have KB := hide (both_any A n c B b ty en ph As ns cs segs _ (Nat.le_trans hB hB0.size) (hb.below (hB0.mono hB)) (hs.below (hB0.mono hB)) hn hns hc hfit)
  have z0 := hH0.cell (i := 0) rfl
  have z1 := hH0.cell (i := 1) rfl
  have z2 := hH0.cell (i := 2) rfl
  have z3 := hH0.cell (i := 3) rfl
  have HB0 := hide hB0
  have hsz0 : (w.alloc (.cells #[.int .u16 ty, .int .u64 en, .int .u64 ph, .slice As ns cs] 27)).heap.size = w.heap.size + 1 := by simp
  have Hsz0 := hide hsz0
  obtain ⟨R, hR⟩ : ∃ R, Dy.look b segs name = R := ⟨_, rfl⟩
  rw [hR]
  have HR := hide hR
  clear hb hs hfit hB0 hH0 hsz0 hR
  go_enter Try.func10, Try.ntmps10
  go_wp2_with fail
  refine (unhide KB).mono ?_
  rintro e w1 ⟨hb1, A1, c1, A2, c2, A3, c3, N, Ah, nh, ch, A4, c4, q, rfl, hdy, hnm, hhas⟩
  have hlook := Dy.has_look hhas name
  have hsyms : q = true → (Dy.parse b segs).1.syms.length = N.chain - 1 := fun h => (Dy.has_syms (by rw [← h]; exact hhas)).1
  rw [unhide HR] at hlook
  obtain ⟨⟨D, px⟩, hP⟩ : ∃ x, Dy.parse b segs = x := ⟨_, rfl⟩
  rw [hP] at hdy hlook hsyms ⊢
  dsimp only at hdy hlook hsyms ⊢
  obtain ⟨m2, hm2⟩ : ∃ x, D.syms.length = x := ⟨_, rfl⟩
  obtain ⟨sl, hsl⟩ : ∃ x, 24 * N.chain = x := ⟨_, rfl⟩
  rw [hm2] at hsyms
  rw [hm2, hsl]
  have hfit := hnm.fit
  have hbt := (unhide HB0).trans (hb1.mono (unhide HB0).size)
  have hbs := hbt.size
  have hw1 : w.heap.size < w1.heap.size := by have := hb1.size; rw [unhide Hsz0] at this; exact this
  have e1 : (w1.alloc (.cells #[.slice none 0 0, .string ⟨#[]⟩, .string ⟨#[]⟩, .slice none 0 0, .slice none 0 0] 41)).heap.size = w1.heap.size + 1 := by simp
  have e2 : ((w1.alloc (.cells #[.slice none 0 0, .string ⟨#[]⟩, .string ⟨#[]⟩, .slice none 0 0, .slice none 0 0] 41)).alloc (.cells #[.int .u64 0, .int .u64 0, .slice none 0 0, .slice none 0 0] 57)).heap.size = w1.heap.size + 1 + 1 := by simp
  have bb : Below w1.heap.size w1 ((w1.alloc (.cells #[.slice none 0 0, .string ⟨#[]⟩, .string ⟨#[]⟩, .slice none 0 0, .slice none 0 0] 41)).alloc (.cells #[.int .u64 0, .int .u64 0, .slice none 0 0, .slice none 0 0] 57)) := ((Below.refl _ _).alloc (Nat.le_refl _) _).alloc (by rw [e1]; omega) _
  have HK1 : Hid (Blk ((w1.alloc (.cells #[.slice none 0 0, .string ⟨#[]⟩, .string ⟨#[]⟩, .slice none 0 0, .slice none 0 0] 41)).alloc (.cells #[.int .u64 0, .int .u64 0, .slice none 0 0, .slice none 0 0] 57)) w1.heap.size 41 [.slice none 0 0, .string ⟨#[]⟩, .string ⟨#[]⟩, .slice none 0 0, .slice none 0 0]) := hide ((Blk.new w1 41 [.slice none 0 0, .string ⟨#[]⟩, .string ⟨#[]⟩, .slice none 0 0, .slice none 0 0]).alloc _)
  have HN1 : Hid (Blk ((w1.alloc (.cells #[.slice none 0 0, .string ⟨#[]⟩, .string ⟨#[]⟩, .slice none 0 0, .slice none 0 0] 41)).alloc (.cells #[.int .u64 0, .int .u64 0, .slice none 0 0, .slice none 0 0] 57)) (w1.heap.size + 1) 57 [.int .u64 0, .int .u64 0, .slice none 0 0, .slice none 0 0]) := hide (by have := Blk.new (w1.alloc (.cells #[.slice none 0 0, .string ⟨#[]⟩, .string ⟨#[]⟩, .slice none 0 0, .slice none 0 0] 41)) 57 [.int .u64 0, .int .u64 0, .slice none 0 0, .slice none 0 0]; rw [e1] at this; exact this)
  have hdv : (#[.slice A1 D.needed.length c1, .string D.soname, .string D.run, .slice A2 m2 c2, .slice A3 D.relas.length c3] : Array Value).all (·.oneCell') = true := dyOne _ _ _ _ _ _ _ _ _ _ _
  have HS : Hid (∀ W, W = (((w1.alloc (.cells #[.slice none 0 0, .string ⟨#[]⟩, .string ⟨#[]⟩, .slice none 0 0, .slice none 0 0] 41)).alloc (.cells #[.int .u64 0, .int .u64 0, .slice none 0 0, .slice none 0 0] 57)).setRow w1.heap.size #[.slice A1 D.needed.length c1, .string D.soname, .string D.run, .slice A2 m2 c2, .slice A3 D.relas.length c3]).setRow (w1.heap.size + 1) #[.int .u64 (N.buckets : Nat), .int .u64 (N.chain : Nat), .slice Ah nh ch, .slice A4 sl c4] → Blk W w1.heap.size 41 [.slice A1 D.needed.length c1, .string D.soname, .string D.run, .slice A2 m2 c2, .slice A3 D.relas.length c3] ∧ Blk W (w1.heap.size + 1) 57 [.int .u64 (N.buckets : Nat), .int .u64 (N.chain : Nat), .slice Ah nh ch, .slice A4 sl c4] ∧ Below w.heap.size w W ∧ NmM W W.heap.size b N Ah nh ch A4 c4 ∧ W.ownsRow (w.heap.size + 1) 46 5 (.slice A2 m2 c2) m2 (symC D.syms)) := hide (by
    intro W hW
    subst hW
    have hbw : Below w1.heap.size w1 ((((w1.alloc (.cells #[.slice none 0 0, .string ⟨#[]⟩, .string ⟨#[]⟩, .slice none 0 0, .slice none 0 0] 41)).alloc (.cells #[.int .u64 0, .int .u64 0, .slice none 0 0, .slice none 0 0] 57)).setRow w1.heap.size #[.slice A1 D.needed.length c1, .string D.soname, .string D.run, .slice A2 m2 c2, .slice A3 D.relas.length c3]).setRow (w1.heap.size + 1) #[.int .u64 (N.buckets : Nat), .int .u64 (N.chain : Nat), .slice Ah nh ch, .slice A4 sl c4]) := below_setRow (below_setRow bb (Nat.le_refl _) _) (by omega) _
    refine ⟨(setRow_other _ _ _ _ (by omega)).trans (setRow_heap _ _ _ _ _ _ (unhide HK1)), setRow_heap _ _ _ _ _ _ ((setRow_other _ _ _ _ (by omega)).trans (unhide HN1)), hbt.trans (hbw.mono hbs), hnm.belowSz hbw, ?_⟩
    have := own_below hdy.syms hbw
    rw [unhide Hsz0, hm2] at this
    exact this)
  have HP := hide hP
  have Hm2 := hide hm2
  have Hlook := hide hlook
  have Hsyms := hide hsyms
  have Hsl := hide hsl
  clear hb1 hdy hnm hhas hP hm2 hlook hsyms hbt bb e1 e2 hsl HB0 KB z0 z1 z2 z3
  cases q
  · have HE : Hid (R = (0, false)) := hide (by rw [unhide Hlook]; rfl)
    clear Hlook Hsyms HP Hm2
    go_wp2_with (first
      | ((with_reducible refine (@id (wpList _ _ _ (Oper.mk none (Op.store 41 (.tmp 8) (.tmp 20)) _ _ _ none :: _) _ _) ?_)); refine wpList_store_row rfl 41 (.tmp 8) (.tmp 20) rfl w1.heap.size #[.slice A1 D.needed.length c1, .string D.soname, .string D.run, .slice A2 m2 c2, .slice A3 D.relas.length c3] rfl rfl 41 _ (unhide HK1) dyInfo rfl hdv ?_)
      | ((with_reducible refine (@id (wpList _ _ _ (Oper.mk none (Op.store 57 (.tmp 9) (.tmp 21)) _ _ _ none :: _) _ _) ?_)); refine wpList_store_row rfl 57 (.tmp 9) (.tmp 21) rfl (w1.heap.size + 1) #[.int .u64 (N.buckets : Nat), .int .u64 (N.chain : Nat), .slice Ah nh ch, .slice A4 sl c4] rfl rfl 57 _ ((setRow_other _ _ _ _ (by omega)).trans (unhide HN1)) nmInfo rfl (nmOne _ _ _ _ _ _ _ _) ?_; obtain ⟨W, hW⟩ : ∃ W, (((w1.alloc (.cells #[.slice none 0 0, .string ⟨#[]⟩, .string ⟨#[]⟩, .slice none 0 0, .slice none 0 0] 41)).alloc (.cells #[.int .u64 0, .int .u64 0, .slice none 0 0, .slice none 0 0] 57)).setRow w1.heap.size #[.slice A1 D.needed.length c1, .string D.soname, .string D.run, .slice A2 m2 c2, .slice A3 D.relas.length c3]).setRow (w1.heap.size + 1) #[.int .u64 (N.buckets : Nat), .int .u64 (N.chain : Nat), .slice Ah nh ch, .slice A4 sl c4] = W := ⟨_, rfl⟩; have hws := (unhide HS) W hW.symm; rw [hW]; have HWs := hide hws; clear hws hW)
      | ((with_reducible refine (@id (wpList _ _ _ (Oper.mk _ (Op.load 57 (.tmp 9)) _ _ _ none :: _) _ _) ?_)); refine wpList_load_row rfl 57 (.tmp 9) rfl (w1.heap.size + 1) rfl 57 #[.int .u64 (N.buckets : Nat), .int .u64 (N.chain : Nat), .slice Ah nh ch, .slice A4 sl c4] (0, 0) _ (unhide HWs).2.1 Try.underlying57 rfl nmInfo ?_))
    go_ret2
    rw [unhide HE]
    exact ⟨rfl, (unhide HWs).2.2.1⟩
  go_wp2_with (first
    | ((with_reducible refine (@id (wpList _ _ _ (Oper.mk none (Op.store 41 (.tmp 8) (.tmp 20)) _ _ _ none :: _) _ _) ?_)); refine wpList_store_row rfl 41 (.tmp 8) (.tmp 20) rfl w1.heap.size #[.slice A1 D.needed.length c1, .string D.soname, .string D.run, .slice A2 m2 c2, .slice A3 D.relas.length c3] rfl rfl 41 _ (unhide HK1) dyInfo rfl hdv ?_)
    | ((with_reducible refine (@id (wpList _ _ _ (Oper.mk none (Op.store 57 (.tmp 9) (.tmp 21)) _ _ _ none :: _) _ _) ?_)); refine wpList_store_row rfl 57 (.tmp 9) (.tmp 21) rfl (w1.heap.size + 1) #[.int .u64 (N.buckets : Nat), .int .u64 (N.chain : Nat), .slice Ah nh ch, .slice A4 sl c4] rfl rfl 57 _ ((setRow_other _ _ _ _ (by omega)).trans (unhide HN1)) nmInfo rfl (nmOne _ _ _ _ _ _ _ _) ?_; obtain ⟨W, hW⟩ : ∃ W, (((w1.alloc (.cells #[.slice none 0 0, .string ⟨#[]⟩, .string ⟨#[]⟩, .slice none 0 0, .slice none 0 0] 41)).alloc (.cells #[.int .u64 0, .int .u64 0, .slice none 0 0, .slice none 0 0] 57)).setRow w1.heap.size #[.slice A1 D.needed.length c1, .string D.soname, .string D.run, .slice A2 m2 c2, .slice A3 D.relas.length c3]).setRow (w1.heap.size + 1) #[.int .u64 (N.buckets : Nat), .int .u64 (N.chain : Nat), .slice Ah nh ch, .slice A4 sl c4] = W := ⟨_, rfl⟩; have hws := (unhide HS) W hW.symm; rw [hW]; have HWs := hide hws; clear hws hW)
    | ((with_reducible refine (@id (wpList _ _ _ (Oper.mk _ (Op.load 57 (.tmp 9)) _ _ _ none :: _) _ _) ?_)); refine wpList_load_row rfl 57 (.tmp 9) rfl (w1.heap.size + 1) rfl 57 #[.int .u64 (N.buckets : Nat), .int .u64 (N.chain : Nat), .slice Ah nh ch, .slice A4 sl c4] (0, 0) _ (unhide HWs).2.1 Try.underlying57 rfl nmInfo ?_))
  have hlook := unhide Hlook
  rw [if_pos trivial] at hlook
  have hm2c : m2 = N.chain - 1 := by have := unhide Hsyms; simpa using this
  have KL := links_any W.heap.size b N Ah nh ch A4 c4 name W (Nat.le_refl _) (unhide HWs).2.2.2.1 hname
  have hmem := Dy.links_mem (b := b) (n := N) (name := name.data.toList)
  have hlen := Dy.links_len (b := b) (n := N) (name := name.data.toList)
  rw [unhide Hsl] at KL
  obtain ⟨⟨ls, en2⟩, hls⟩ : ∃ x, Dy.links b N name.data.toList = x := ⟨_, rfl⟩
  rw [hls] at hlook KL hmem hlen
  dsimp only at hlook hmem hlen
  have HKL := hide KL
  have Hlk := hide hlook
  have Hmem := hide hmem
  have hll : ls.length ≤ 65 := by omega
  clear KL hlook hmem hls Hlook Hsyms hlen
  refine (unhide HKL).mono ?_
  rintro e w4 ⟨A5, c5, rfl, ho5, hb5⟩
  dsimp only at ho5 ⊢
  obtain ⟨gD, gN, gB, -, gS⟩ := unhide HWs
  have HB4 := hide (gB.trans (hb5.mono gB.size))
  have x3 := (gD.belowSz hb5).cell (i := 3) rfl
  have HSy := hide (Rd.of_own (own_below gS hb5))
  have HO5 := hide (Rd.of_own ho5)
  obtain ⟨k5, hk5⟩ : ∃ k, ls.length = k := ⟨_, rfl⟩
  rw [hk5] at hll ⊢
  have hO := unhide HO5
  rw [hk5] at hO
  have HO6 := hide hO
  have Hk5 := hide hk5
  clear hb5 ho5 gD gN gB gS hO hk5 HO5 HKL
  go_wp2_with fail
  go_loopg [34] k5 (fun gk iv wr => ∃ j : Nat, gk = k5 - j ∧ j ≤ k5 ∧ iv = .int .i64 j ∧ w4 = wr ∧ R = Dy.lookIn D name (ls.drop j))
  case atStart => exact ⟨0, by omega, Nat.zero_le _, rfl, rfl, by simpa using unhide Hlk⟩
  case round =>
  obtain ⟨j, hgk, hj, rfl, rfl, hr⟩ := hrel
  have HR3 := hide hr
  clear hr Hlk
  by_cases hlt : j < k5
  case neg =>
    have HE : Hid (R = (0, false)) := hide (by rw [unhide HR3, List.drop_of_length_le (by rw [unhide Hk5]; omega)]; rfl)
    have ige : ¬ (j : Int) < (k5 : Int) := by omega
    clear HR3
    go_wp2_with fail
    go_ret2
    rw [unhide HE]
    exact ⟨rfl, unhide HB4⟩
  have ilt : (j : Int) < (k5 : Int) := by omega
  obtain ⟨i, hi⟩ : ∃ i, ls[j]? = some i := ⟨_, List.getElem?_eq_getElem (by rw [unhide Hk5]; exact hlt)⟩
  obtain ⟨hi0, hic⟩ := (unhide Hmem) i (List.mem_of_getElem? hi)
  obtain ⟨b5, o5, hA5, -, hc5⟩ := (unhide HO6).at_ (k := j) (u := .int .u64 (i : Nat)) (by unfold lkV; rw [List.getElem?_map, hi]; rfl)
  subst hA5
  obtain ⟨k, hk⟩ : ∃ k, i - 1 = k := ⟨_, rfl⟩
  have hkm : k < m2 := by omega
  obtain ⟨s, hs⟩ : ∃ s, D.syms[k]? = some s := ⟨_, List.getElem?_eq_getElem (by rw [unhide Hm2]; exact hkm)⟩
  obtain ⟨b6, o6, hA6, -, y0, -⟩ := sym_at (unhide HSy) hs
  subst hA6
  have hd := unhide HR3
  rw [List.drop_eq_getElem_cons (by rw [unhide Hk5]; exact hlt), show ls[j]'(by rw [unhide Hk5]; exact hlt) = i from (List.getElem?_eq_some_iff.1 hi).2, Dy.lookIn_cons (by rw [hk]; exact hs), hk] at hd
  obtain ⟨nm, hnm⟩ : ∃ x, s.name = x := ⟨_, rfl⟩
  rw [hnm] at y0
  have hik : (i : Int) - 1 = (k : Int) := by omega
  have hiw : IntKind.i64.wrap (i : Int) = (i : Int) := by rw [IntKind.wrap_i64]; omega
  have hkI : (k : Int) < (m2 : Int) := by omega
  rw [hnm] at hd
  by_cases he : nm = name
  case pos =>
    have HE : Hid (R = (k, true)) := hide (by rw [hd, he, if_pos rfl])
    subst he
    clear hd HR3 hi hs hnm hk hi0
    go_wp2_with fail
    go_ret2
    rw [unhide HE]
    exact ⟨rfl, unhide HB4⟩
  have HE : Hid (R = Dy.lookIn D name (ls.drop (j + 1))) := hide (by rw [hd, if_neg he])
  have he3 : (nm.toList == name.toList) = false := by rw [beq_toList]; exact decide_eq_false he
  clear hd HR3 hi hs hnm hk hi0
  go_wp2_with fail
  go_roundg (k5 - (j + 1))
  case measure => omega
  case rel => exact ⟨j + 1, rfl, by omega, by go_num, rfl, unhide HE⟩
end Go.Proofs.Ytdminnhfgdoibaa
namespace Go.Proofs.Ytdminnhfgdoibaa
set_option linter.unusedVariables false
set_option linter.unusedSimpArgs false
open Go.RowKit

/-- What Right goes by. -/
def LkM (w W : World) (g : Nat) (dv nv : List Value) (b : List UInt8) (N : Dy.Names) (Ah : Option Addr) (nh ch : Nat) (A4 : Option Addr) (c4 : Nat) (A2 : Option Addr) (m2 c2 : Nat) (S : List Dy.Sym) : Prop :=
  Blk W g 41 dv ∧ Blk W (g + 1) 57 nv ∧ Below w.heap.size w W ∧ NmM W W.heap.size b N Ah nh ch A4 c4 ∧ W.ownsRow (w.heap.size + 1) 46 5 (.slice A2 m2 c2) m2 (symC S)
theorem LkM.belowSz {w W W' : World} {g : Nat} {dv nv : List Value} {b : List UInt8} {N : Dy.Names} {Ah : Option Addr} {nh ch : Nat} {A4 : Option Addr} {c4 : Nat} {A2 : Option Addr} {m2 c2 : Nat} {S : List Dy.Sym} (h : LkM w W g dv nv b N Ah nh ch A4 c4 A2 m2 c2 S) (hb : Below W.heap.size W W') : LkM w W' g dv nv b N Ah nh ch A4 c4 A2 m2 c2 S :=
  ⟨h.1.belowSz hb, h.2.1.belowSz hb, h.2.2.1.trans (hb.mono h.2.2.1.size), h.2.2.2.1.belowSz hb, own_below h.2.2.2.2 hb⟩
theorem contains_take {l : List Nat} {t x y : Nat} (h : l[t]? = some x) : (l.take (t + 1)).contains y = ((l.take t).contains y || decide (x = y)) := by
  rw [List.take_add_one, h, Bool.eq_iff_iff, Bool.or_eq_true, decide_eq_true_eq, List.contains_iff_mem, List.contains_iff_mem, List.mem_append]
  constructor
  · rintro (h2 | h2)
    · exact .inl h2
    · simp at h2
      exact .inr h2.symm
  · rintro (h2 | h2)
    · exact .inl h2
    · exact .inr (by simp [h2])
theorem empty_of {nm : ByteArray} (h : nm.size = 0) : nm = ⟨#[]⟩ := by
  apply ByteArray.ext
  exact Array.eq_empty_of_size_eq_zero h

set_option maxRecDepth 100000 in
set_option maxHeartbeats 8000000 in
theorem right_any (A : Option Addr) (n c B : Nat) (b : List UInt8) (ty en ph : Int) (As : Option Addr) (ns cs : Nat) (segs : List El.Sg) (w : World) (hB : B ≤ w.heap.size) (hb : Rd w B 1 A n (bys b)) (hs : Rd w B 6 As ns (segCells segs)) (hn : n ≤ 4294967296) (hns : ns ≤ 4294967296) (hc : n ≤ c) (hfit : ∀ s ∈ segs, SgFit s) :
    Calls Try.prog 14 #[.slice A n c, .agg #[.int .u16 ty, .int .u64 en, .int .u64 ph, .slice As ns cs]] w fun e w' => e = .returned (.bool (Dy.right b segs)) ∧ Below w.heap.size w w' := by
  have hB0 : Below w.heap.size w (w.alloc (.cells #[.int .u16 ty, .int .u64 en, .int .u64 ph, .slice As ns cs] 27)) := (Below.refl _ _).alloc (Nat.le_refl _) _
  have hH0 := Blk.new w 27 [.int .u16 ty, .int .u64 en, .int .u64 ph, .slice As ns cs]
  have KB := hide (both_any A n c B b ty en ph As ns cs segs _ (Nat.le_trans hB hB0.size) (hb.below (hB0.mono hB)) (hs.below (hB0.mono hB)) hn hns hc hfit)
  have z0 := hH0.cell (i := 0) rfl
  have z1 := hH0.cell (i := 1) rfl
  have z2 := hH0.cell (i := 2) rfl
  have z3 := hH0.cell (i := 3) rfl
  have HB0 := hide hB0
  have Hbl : Hid (b.length = n) := hide (by have := hb.1; simp [bys] at this; omega)
  have hsz0 : (w.alloc (.cells #[.int .u16 ty, .int .u64 en, .int .u64 ph, .slice As ns cs] 27)).heap.size = w.heap.size + 1 := by simp
  have Hsz0 := hide hsz0
  obtain ⟨R, hR⟩ : ∃ R, Dy.right b segs = R := ⟨_, rfl⟩
  rw [hR]
  have HR := hide hR
  clear hb hs hfit hB0 hH0 hsz0 hR
  go_enter Try.func14, Try.ntmps14
  go_wp2_with fail
  refine (unhide KB).mono ?_
  rintro e w1 ⟨hb1, A1, c1, A2, c2, A3, c3, N, Ah, nh, ch, A4, c4, q, rfl, hdy, hnm, hhas⟩
  have hlook := Dy.has_right hhas
  have hnms : q = true → ∀ x ∈ (Dy.parse b segs).1.syms, x.name.size ≤ b.length := fun h => (Dy.has_syms (by rw [← h]; exact hhas)).2
  have hsyms : q = true → (Dy.parse b segs).1.syms.length = N.chain - 1 := fun h => (Dy.has_syms (by rw [← h]; exact hhas)).1
  rw [unhide HR] at hlook
  obtain ⟨⟨D, px⟩, hP⟩ : ∃ x, Dy.parse b segs = x := ⟨_, rfl⟩
  rw [hP] at hdy hlook hsyms hnms ⊢
  dsimp only at hdy hlook hsyms hnms ⊢
  obtain ⟨m2, hm2⟩ : ∃ x, D.syms.length = x := ⟨_, rfl⟩
  obtain ⟨sl, hsl⟩ : ∃ x, 24 * N.chain = x := ⟨_, rfl⟩
  rw [hm2] at hsyms
  rw [hm2, hsl]
  have hfit := hnm.fit
  have hbt := (unhide HB0).trans (hb1.mono (unhide HB0).size)
  have hbs := hbt.size
  have hw1 : w.heap.size < w1.heap.size := by have := hb1.size; rw [unhide Hsz0] at this; exact this
  have e1 : (w1.alloc (.cells #[.slice none 0 0, .string ⟨#[]⟩, .string ⟨#[]⟩, .slice none 0 0, .slice none 0 0] 41)).heap.size = w1.heap.size + 1 := by simp
  have e2 : ((w1.alloc (.cells #[.slice none 0 0, .string ⟨#[]⟩, .string ⟨#[]⟩, .slice none 0 0, .slice none 0 0] 41)).alloc (.cells #[.int .u64 0, .int .u64 0, .slice none 0 0, .slice none 0 0] 57)).heap.size = w1.heap.size + 1 + 1 := by simp
  have bb : Below w1.heap.size w1 ((w1.alloc (.cells #[.slice none 0 0, .string ⟨#[]⟩, .string ⟨#[]⟩, .slice none 0 0, .slice none 0 0] 41)).alloc (.cells #[.int .u64 0, .int .u64 0, .slice none 0 0, .slice none 0 0] 57)) := ((Below.refl _ _).alloc (Nat.le_refl _) _).alloc (by rw [e1]; omega) _
  have HK1 : Hid (Blk ((w1.alloc (.cells #[.slice none 0 0, .string ⟨#[]⟩, .string ⟨#[]⟩, .slice none 0 0, .slice none 0 0] 41)).alloc (.cells #[.int .u64 0, .int .u64 0, .slice none 0 0, .slice none 0 0] 57)) w1.heap.size 41 [.slice none 0 0, .string ⟨#[]⟩, .string ⟨#[]⟩, .slice none 0 0, .slice none 0 0]) := hide ((Blk.new w1 41 [.slice none 0 0, .string ⟨#[]⟩, .string ⟨#[]⟩, .slice none 0 0, .slice none 0 0]).alloc _)
  have HN1 : Hid (Blk ((w1.alloc (.cells #[.slice none 0 0, .string ⟨#[]⟩, .string ⟨#[]⟩, .slice none 0 0, .slice none 0 0] 41)).alloc (.cells #[.int .u64 0, .int .u64 0, .slice none 0 0, .slice none 0 0] 57)) (w1.heap.size + 1) 57 [.int .u64 0, .int .u64 0, .slice none 0 0, .slice none 0 0]) := hide (by have := Blk.new (w1.alloc (.cells #[.slice none 0 0, .string ⟨#[]⟩, .string ⟨#[]⟩, .slice none 0 0, .slice none 0 0] 41)) 57 [.int .u64 0, .int .u64 0, .slice none 0 0, .slice none 0 0]; rw [e1] at this; exact this)
  have hdv : (#[.slice A1 D.needed.length c1, .string D.soname, .string D.run, .slice A2 m2 c2, .slice A3 D.relas.length c3] : Array Value).all (·.oneCell') = true := dyOne _ _ _ _ _ _ _ _ _ _ _
  have HS : Hid (∀ W, W = (((w1.alloc (.cells #[.slice none 0 0, .string ⟨#[]⟩, .string ⟨#[]⟩, .slice none 0 0, .slice none 0 0] 41)).alloc (.cells #[.int .u64 0, .int .u64 0, .slice none 0 0, .slice none 0 0] 57)).setRow w1.heap.size #[.slice A1 D.needed.length c1, .string D.soname, .string D.run, .slice A2 m2 c2, .slice A3 D.relas.length c3]).setRow (w1.heap.size + 1) #[.int .u64 (N.buckets : Nat), .int .u64 (N.chain : Nat), .slice Ah nh ch, .slice A4 sl c4] → LkM w W w1.heap.size [.slice A1 D.needed.length c1, .string D.soname, .string D.run, .slice A2 m2 c2, .slice A3 D.relas.length c3] [.int .u64 (N.buckets : Nat), .int .u64 (N.chain : Nat), .slice Ah nh ch, .slice A4 sl c4] b N Ah nh ch A4 c4 A2 m2 c2 D.syms) := hide (by
    intro W hW
    subst hW
    have hbw : Below w1.heap.size w1 ((((w1.alloc (.cells #[.slice none 0 0, .string ⟨#[]⟩, .string ⟨#[]⟩, .slice none 0 0, .slice none 0 0] 41)).alloc (.cells #[.int .u64 0, .int .u64 0, .slice none 0 0, .slice none 0 0] 57)).setRow w1.heap.size #[.slice A1 D.needed.length c1, .string D.soname, .string D.run, .slice A2 m2 c2, .slice A3 D.relas.length c3]).setRow (w1.heap.size + 1) #[.int .u64 (N.buckets : Nat), .int .u64 (N.chain : Nat), .slice Ah nh ch, .slice A4 sl c4]) := below_setRow (below_setRow bb (Nat.le_refl _) _) (by omega) _
    refine ⟨(setRow_other _ _ _ _ (by omega)).trans (setRow_heap _ _ _ _ _ _ (unhide HK1)), setRow_heap _ _ _ _ _ _ ((setRow_other _ _ _ _ (by omega)).trans (unhide HN1)), hbt.trans (hbw.mono hbs), hnm.belowSz hbw, ?_⟩
    have := own_below hdy.syms hbw
    rw [unhide Hsz0, hm2] at this
    exact this)
  have HP := hide hP
  have Hnms := hide hnms
  have Hm2 := hide hm2
  have Hlook := hide hlook
  have Hsyms := hide hsyms
  have Hsl := hide hsl
  clear hnms hb1 hdy hnm hhas hP hm2 hlook hsyms hbt bb e1 e2 hsl HB0 KB z0 z1 z2 z3
  cases q
  · have HE : Hid (R = decide (px = 0)) := hide (by rw [unhide Hlook]; rfl)
    clear Hlook Hsyms HP Hm2 Hnms
    by_cases hp0 : px = 0
    · have HE2 : Hid (R = true) := hide (by rw [unhide HE]; exact decide_eq_true hp0)
      subst hp0
      clear HE
      go_wp2_with (first
        | ((with_reducible refine (@id (wpList _ _ _ (Oper.mk none (Op.store 41 (.tmp 5) (.tmp 20)) _ _ _ none :: _) _ _) ?_)); refine wpList_store_row rfl 41 (.tmp 5) (.tmp 20) rfl w1.heap.size #[.slice A1 D.needed.length c1, .string D.soname, .string D.run, .slice A2 m2 c2, .slice A3 D.relas.length c3] rfl rfl 41 _ (unhide HK1) dyInfo rfl hdv ?_)
        | ((with_reducible refine (@id (wpList _ _ _ (Oper.mk none (Op.store 57 (.tmp 6) (.tmp 21)) _ _ _ none :: _) _ _) ?_)); refine wpList_store_row rfl 57 (.tmp 6) (.tmp 21) rfl (w1.heap.size + 1) #[.int .u64 (N.buckets : Nat), .int .u64 (N.chain : Nat), .slice Ah nh ch, .slice A4 sl c4] rfl rfl 57 _ ((setRow_other _ _ _ _ (by omega)).trans (unhide HN1)) nmInfo rfl (nmOne _ _ _ _ _ _ _ _) ?_; obtain ⟨W, hW⟩ : ∃ W, (((w1.alloc (.cells #[.slice none 0 0, .string ⟨#[]⟩, .string ⟨#[]⟩, .slice none 0 0, .slice none 0 0] 41)).alloc (.cells #[.int .u64 0, .int .u64 0, .slice none 0 0, .slice none 0 0] 57)).setRow w1.heap.size #[.slice A1 D.needed.length c1, .string D.soname, .string D.run, .slice A2 m2 c2, .slice A3 D.relas.length c3]).setRow (w1.heap.size + 1) #[.int .u64 (N.buckets : Nat), .int .u64 (N.chain : Nat), .slice Ah nh ch, .slice A4 sl c4] = W := ⟨_, rfl⟩; have hws := (unhide HS) W hW.symm; rw [hW]; have HWs := hide hws; have x3 := hws.1.cell (i := 3) rfl; clear hws hW))
      go_ret
      rw [unhide HE2]
      exact ⟨rfl, (unhide HWs).2.2.1⟩
    · have HE2 : Hid (R = false) := hide (by rw [unhide HE]; exact decide_eq_false hp0)
      clear HE
      go_wp2_with (first
        | ((with_reducible refine (@id (wpList _ _ _ (Oper.mk none (Op.store 41 (.tmp 5) (.tmp 20)) _ _ _ none :: _) _ _) ?_)); refine wpList_store_row rfl 41 (.tmp 5) (.tmp 20) rfl w1.heap.size #[.slice A1 D.needed.length c1, .string D.soname, .string D.run, .slice A2 m2 c2, .slice A3 D.relas.length c3] rfl rfl 41 _ (unhide HK1) dyInfo rfl hdv ?_)
        | ((with_reducible refine (@id (wpList _ _ _ (Oper.mk none (Op.store 57 (.tmp 6) (.tmp 21)) _ _ _ none :: _) _ _) ?_)); refine wpList_store_row rfl 57 (.tmp 6) (.tmp 21) rfl (w1.heap.size + 1) #[.int .u64 (N.buckets : Nat), .int .u64 (N.chain : Nat), .slice Ah nh ch, .slice A4 sl c4] rfl rfl 57 _ ((setRow_other _ _ _ _ (by omega)).trans (unhide HN1)) nmInfo rfl (nmOne _ _ _ _ _ _ _ _) ?_; obtain ⟨W, hW⟩ : ∃ W, (((w1.alloc (.cells #[.slice none 0 0, .string ⟨#[]⟩, .string ⟨#[]⟩, .slice none 0 0, .slice none 0 0] 41)).alloc (.cells #[.int .u64 0, .int .u64 0, .slice none 0 0, .slice none 0 0] 57)).setRow w1.heap.size #[.slice A1 D.needed.length c1, .string D.soname, .string D.run, .slice A2 m2 c2, .slice A3 D.relas.length c3]).setRow (w1.heap.size + 1) #[.int .u64 (N.buckets : Nat), .int .u64 (N.chain : Nat), .slice Ah nh ch, .slice A4 sl c4] = W := ⟨_, rfl⟩; have hws := (unhide HS) W hW.symm; rw [hW]; have HWs := hide hws; have x3 := hws.1.cell (i := 3) rfl; clear hws hW))
      go_ret
      rw [unhide HE2]
      exact ⟨by first | rfl | simp [hp0], (unhide HWs).2.2.1⟩
  have hlook := unhide Hlook
  rw [if_pos rfl] at hlook
  have hm2c : m2 = N.chain - 1 := by have := unhide Hsyms; simpa using this
  have hnm9 : ∀ x ∈ D.syms, x.name.size ≤ 4294967296 := fun x hx => Nat.le_trans (by have := unhide Hnms; simp only [forall_const] at this; exact this x hx) (by rw [unhide Hbl]; exact hn)
  have Hnm9 := hide hnm9
  have Hlk := hide hlook
  have hm64 : m2 ≤ 65 := by omega
  clear hlook Hlook Hsyms Hnms hnm9 hm2c
  have x3 := ((unhide HS) _ rfl).1.cell (i := 3) rfl
  go_wp2_with (first
    | ((with_reducible refine (@id (wpList _ _ _ (Oper.mk none (Op.store 41 (.tmp 5) (.tmp 20)) _ _ _ none :: _) _ _) ?_)); refine wpList_store_row rfl 41 (.tmp 5) (.tmp 20) rfl w1.heap.size #[.slice A1 D.needed.length c1, .string D.soname, .string D.run, .slice A2 m2 c2, .slice A3 D.relas.length c3] rfl rfl 41 _ (unhide HK1) dyInfo rfl hdv ?_)
    | ((with_reducible refine (@id (wpList _ _ _ (Oper.mk none (Op.store 57 (.tmp 6) (.tmp 21)) _ _ _ none :: _) _ _) ?_)); refine wpList_store_row rfl 57 (.tmp 6) (.tmp 21) rfl (w1.heap.size + 1) #[.int .u64 (N.buckets : Nat), .int .u64 (N.chain : Nat), .slice Ah nh ch, .slice A4 sl c4] rfl rfl 57 _ ((setRow_other _ _ _ _ (by omega)).trans (unhide HN1)) nmInfo rfl (nmOne _ _ _ _ _ _ _ _) ?_))
  clear x3
  go_loopg [31] m2 (fun gk iv wr => ∃ j : Nat, gk = m2 - j ∧ j ≤ m2 ∧ iv = .int .i64 j ∧ LkM w wr w1.heap.size [.slice A1 D.needed.length c1, .string D.soname, .string D.run, .slice A2 m2 c2, .slice A3 D.relas.length c3] [.int .u64 (N.buckets : Nat), .int .u64 (N.chain : Nat), .slice Ah nh ch, .slice A4 sl c4] b N Ah nh ch A4 c4 A2 m2 c2 D.syms ∧ R = Dy.rightFrom b N (D.syms.drop j) j)
  case atStart => exact ⟨0, by omega, Nat.zero_le _, rfl, (unhide HS) _ rfl, by simpa using unhide Hlk⟩
  case round =>
  obtain ⟨j, hgk, hj, rfl, hlm, hr⟩ := hrel
  have HM := hide hlm
  have HR3 := hide hr
  clear hr Hlk hlm HS HK1 HN1
  by_cases hlt : j < m2
  case neg =>
    have HE : Hid (R = true) := hide (by rw [unhide HR3, List.drop_of_length_le (by rw [unhide Hm2]; omega)]; rfl)
    have ige : ¬ (j : Int) < (m2 : Int) := by omega
    clear HR3
    go_wp2_with fail
    go_ret
    rw [unhide HE]
    exact ⟨rfl, (unhide HM).2.2.1⟩
  have ilt : (j : Int) < (m2 : Int) := by omega
  obtain ⟨s, hs⟩ : ∃ s, D.syms[j]? = some s := ⟨_, List.getElem?_eq_getElem (by rw [unhide Hm2]; exact hlt)⟩
  obtain ⟨b6, o6, hA6, -, y0, y1, y2, y3, y4⟩ := sym_at (Rd.of_own (unhide HM).2.2.2.2) hs
  subst hA6
  have hd := unhide HR3
  rw [List.drop_eq_getElem_cons (by rw [unhide Hm2]; exact hlt), show D.syms[j]'(by rw [unhide Hm2]; exact hlt) = s from (List.getElem?_eq_some_iff.1 hs).2, Dy.rightFrom] at hd
  have hns2 : s.name.size ≤ 4294967296 := (unhide Hnm9) s (List.mem_of_getElem? hs)
  obtain ⟨nm, s1, s2, s3, s4⟩ := s
  dsimp only at y0 y1 y2 y3 y4 hd hns2
  have HM1 := hide ((unhide HM).belowSz ((Below.refl _ _).alloc (Nat.le_refl _) (.cells #[.string nm, .int .u64 (s1 : Nat), .int .u64 (s2 : Nat), .int .u8 (s3 : Nat), .bool s4] 46)))
  have hE1 := Blk.new wr 46 [.string nm, .int .u64 (s1 : Nat), .int .u64 (s2 : Nat), .int .u8 (s3 : Nat), .bool s4]
  have v0 := hE1.cell (i := 0) rfl
  have hd9 := hide hd
  clear hd HR3 hs hE1
  by_cases hz : nm.size = 0
  case pos =>
    have hnil := empty_of hz
    subst hnil
    have HE : Hid (R = Dy.rightFrom b N (D.syms.drop (j + 1)) (j + 1)) := hide (by have := unhide hd9; rw [decide_eq_true (show (⟨#[]⟩ : ByteArray).size = 0 from rfl), Bool.true_or, Bool.true_and] at this; exact this)
    clear hd9 hz
    go_wp2_with fail
    go_roundg (m2 - (j + 1))
    case measure => omega
    case rel => exact ⟨j + 1, rfl, by omega, by go_num, unhide HM1, unhide HE⟩
  have hq0 : nm.toList.isEmpty = false := by
    rw [Lib.toList_data, List.isEmpty_eq_false_iff]
    intro h
    exact hz (by show nm.data.size = 0; rw [← Array.length_toList, h]; rfl)
  have hd := unhide hd9
  rw [decide_eq_false hz, Bool.false_or] at hd
  have KL := links_any _ b N Ah nh ch A4 c4 nm (wr.alloc (.cells #[.string nm, .int .u64 (s1 : Nat), .int .u64 (s2 : Nat), .int .u8 (s3 : Nat), .bool s4] 46)) (Nat.le_refl _) (unhide HM1).2.2.2.1 hns2
  have hlen := Dy.links_len (b := b) (n := N) (name := nm.data.toList)
  rw [unhide Hsl] at KL
  obtain ⟨⟨ls, en2⟩, hls⟩ : ∃ x, Dy.links b N nm.data.toList = x := ⟨_, rfl⟩
  rw [hls] at KL hlen hd
  dsimp only at hlen hd
  have HKL := hide KL
  have Hd := hide hd
  have hll : ls.length ≤ 65 := by omega
  clear KL hls hlen hd hd9
  go_wp2_with ((with_reducible refine (@id (wpList _ _ _ (Oper.mk _ (Op.load 57 (.tmp 6)) _ _ _ none :: _) _ _) ?_)); refine wpList_load_row rfl 57 (.tmp 6) rfl (w1.heap.size + 1) rfl 57 #[.int .u64 (N.buckets : Nat), .int .u64 (N.chain : Nat), .slice Ah nh ch, .slice A4 sl c4] (0, 0) _ (unhide HM1).2.1 Try.underlying57 rfl nmInfo ?_)
  refine (unhide HKL).mono ?_
  rintro e w5 ⟨A5, c5, rfl, ho5, hb5⟩
  dsimp only at ho5 ⊢
  have HM5 := hide ((unhide HM1).belowSz hb5)
  have HO5 := hide (Rd.of_own ho5)
  obtain ⟨k5, hk5⟩ : ∃ k, ls.length = k := ⟨_, rfl⟩
  rw [hk5] at hll ⊢
  have hO := unhide HO5
  rw [hk5] at hO
  have HO6 := hide hO
  have Hk5 := hide hk5
  clear hb5 ho5 hO hk5 HO5 HKL HM1 HM y0 y1 y2 y3 y4 v0 hq0
  go_wp2_with fail
  go_loopg [13, 48] k5 (fun gk2 fv iv2 wr2 => ∃ t : Nat, gk2 = k5 - t ∧ t ≤ k5 ∧ iv2 = .int .i64 t ∧ fv = .bool ((ls.take t).contains (j + 1)) ∧ w5 = wr2)
  case atStart => exact ⟨0, by omega, Nat.zero_le _, rfl, rfl, rfl⟩
  case round =>
  obtain ⟨t, hgk2, ht, rfl, rfl, rfl⟩ := hrel
  by_cases hlt2 : t < k5
  case neg =>
    have htk : ls.take t = ls := List.take_of_length_le (by rw [unhide Hk5]; omega)
    have ige : ¬ (t : Int) < (k5 : Int) := by omega
    have hd := unhide Hd
    rw [htk]
    obtain ⟨fb, hfb⟩ : ∃ x, ls.contains (j + 1) = x := ⟨_, rfl⟩
    rw [hfb] at hd ⊢
    have Hd2 := hide hd
    clear hd htk hfb Hd
    cases en2
    · have HE : Hid (R = false) := hide (by rw [unhide Hd2]; rfl)
      clear Hd2
      go_wp2_with fail
      go_ret
      rw [unhide HE]
      exact ⟨rfl, (unhide HM5).2.2.1⟩
    · cases fb
      · have HE : Hid (R = false) := hide (by rw [unhide Hd2]; rfl)
        clear Hd2
        go_wp2_with fail
        go_ret
        rw [unhide HE]
        exact ⟨rfl, (unhide HM5).2.2.1⟩
      · have HE : Hid (R = Dy.rightFrom b N (D.syms.drop (j + 1)) (j + 1)) := hide (by rw [unhide Hd2]; rfl)
        clear Hd2
        go_wp2_with fail
        go_roundg (m2 - (j + 1))
        case measure => omega
        case rel => exact ⟨j + 1, rfl, by omega, by go_num, unhide HM5, unhide HE⟩
  have ilt2 : (t : Int) < (k5 : Int) := by omega
  obtain ⟨x, hx⟩ : ∃ i, ls[t]? = some i := ⟨_, List.getElem?_eq_getElem (by rw [unhide Hk5]; exact hlt2)⟩
  obtain ⟨b5, o5, hA5, -, hc5⟩ := (unhide HO6).at_ (k := t) (u := .int .u64 (x : Nat)) (by unfold lkV; rw [List.getElem?_map, hx]; rfl)
  subst hA5
  have hct := contains_take (y := j + 1) hx
  obtain ⟨fb, hfb⟩ : ∃ y, (ls.take t).contains (j + 1) = y := ⟨_, rfl⟩
  rw [hfb] at hct ⊢
  have Hct := hide hct
  have hw1 : IntKind.u64.wrap ((j : Int) + 1) = (j : Int) + 1 := by rw [IntKind.wrap_u64]; omega
  clear hct hx hfb Hd
  cases fb
  · by_cases hxe : x = j + 1
    · have hxI : (x : Int) = (j : Int) + 1 := by omega
      have HE : Hid ((ls.take (t + 1)).contains (j + 1) = true) := hide (by rw [unhide Hct, decide_eq_true hxe]; rfl)
      clear Hct hxe
      go_wp2_with fail
      go_roundg (k5 - (t + 1))
      case measure => omega
      case rel => exact ⟨t + 1, rfl, by omega, by go_num, by first | (rw [unhide HE]; done) | (rw [unhide HE]; first | rfl | (simp; omega)), rfl⟩
    · have hxI : ¬ (x : Int) = (j : Int) + 1 := by omega
      have HE : Hid ((ls.take (t + 1)).contains (j + 1) = false) := hide (by rw [unhide Hct, decide_eq_false hxe]; rfl)
      clear Hct hxe
      go_wp2_with fail
      go_roundg (k5 - (t + 1))
      case measure => omega
      case rel => exact ⟨t + 1, rfl, by omega, by go_num, by first | (rw [unhide HE]; done) | (rw [unhide HE]; first | rfl | (simp; omega)), rfl⟩
  · have HE : Hid ((ls.take (t + 1)).contains (j + 1) = true) := hide (by rw [unhide Hct]; rfl)
    clear Hct
    go_wp2_with fail
    go_roundg (k5 - (t + 1))
    case measure => omega
    case rel => exact ⟨t + 1, rfl, by omega, by go_num, by rw [unhide HE], rfl⟩
end Go.Proofs.Ytdminnhfgdoibaa
namespace Go.Proofs.Ytdminnhfgdoibaa
set_option linter.unusedVariables false
set_option linter.unusedSimpArgs false
open Go.RowKit

theorem bys_at' {b : List UInt8} {i : Nat} {x : UInt8} (h : b[i]? = some x) : (bys b)[i]? = some (.int .u8 x.toNat) := by simp [bys, h]

/-- What has been copied from k on. -/
def backTo (b : List UInt8) (k : Nat) : List Value := List.replicate k (.int .u8 0) ++ bys (b.drop k)
theorem backTo_set {b : List UInt8} {k : Nat} {x : UInt8} (h : b[k]? = some x) : (backTo b (k + 1)).set k (.int .u8 x.toNat) = backTo b k := by
  unfold backTo
  rw [List.drop_eq_getElem_cons (i := k) (by have := (List.getElem?_eq_some_iff.1 h).1; exact this)]
  have hx : b[k]'((List.getElem?_eq_some_iff.1 h).1) = x := (List.getElem?_eq_some_iff.1 h).2
  rw [hx, List.replicate_succ', List.append_assoc]
  rw [List.set_append]
  simp [bys]

set_option maxRecDepth 20000 in
set_option maxHeartbeats 1000000 in
theorem copyBytes_any (A : Option Addr) (m c B : Nat) (b : List UInt8) (w : World) (hB : B ≤ w.heap.size) (hb : Rd w B 1 A m (bys b)) (hm : m ≤ 4294967296) :
    Calls Try.prog 63 #[.slice A m c] w fun e w' => ∃ A' c', e = .returned (.slice A' m c') ∧ w'.ownsRow w.heap.size 5 1 (.slice A' m c') m (bys b) ∧ Below w.heap.size w w' := by
  have hbl : b.length = m := by simpa [bys] using hb.len1
  rcases Nat.eq_zero_or_pos m with rfl | hpos
  · have hb0 : b = [] := List.eq_nil_of_length_eq_zero hbl
    subst hb0
    clear hb hbl
    go_enter Try.func63, Try.ntmps63
    go_wp2
    go_ret
    exact ⟨none, 0, rfl, World.ownsRow_nil _ _ _ _, Below.refl _ _⟩
  have hne : decide (m = 0) = false := by simp; omega
  obtain ⟨i, hi, hz0, hz1, hz2⟩ := info_parts byteInfo
  have Hb := hide hb
  have Hbl := hide hbl
  have Hi := hide hi
  have Hz0 := hide hz0
  have Hz1 := hide hz1
  have Hz2 := hide hz2
  clear hb hbl hi hz0 hz1 hz2
  go_enter Try.func63, Try.ntmps63
  go_wp2_with (at_make; refine wpList_make_full _ rfl _ _ 22 rfl w.heap.size 5 i (.int .u8 0) 1 Try.underlying22 (unhide Hi) (unhide Hz0) (unhide Hz1) _ _ _ _ m rfl rfl rfl rfl (by rw [unhide Hz2]; omega) (by unfold maxLen; omega) (Nat.le_refl _) ?_; intro w1 hown hgrow; have hb1 := (Below.refl w.heap.size w).grown hgrow (Nat.le_refl _) (fun k hk => by cases hk); have Hown := hide hown; have Hb1 := hide hb1; clear hown hgrow hb1)
  go_loopw [4] (fun at_ wr => ∃ k : Nat, k ≤ m ∧ at_ = .int .i64 ((k : Int) - 1) ∧ wr.ownsRow w.heap.size 5 1 (.slice (some ⟨w.heap.size, 0, none⟩) m m) m (backTo b k) ∧ Below w.heap.size w wr) (fun at_ _ => (intOf at_ + 1).toNat)
  case atStart =>
    refine ⟨m, Nat.le_refl _, rfl, ?_, unhide Hb1⟩
    have := unhide Hown
    have e : (madeCells (Value.int .u8 0).cells (m * 1)).toList = backTo b m := by
      unfold backTo
      rw [List.drop_eq_nil_of_le (by rw [unhide Hbl]; exact Nat.le_refl _)]
      simp [bys, Value.cells, toList_madeCells_one]
    rwa [e] at this
  case round =>
  clear Hown Hb1
  obtain ⟨k, hk, rfl, hown, hb2⟩ := hrel
  have Hown := hide hown
  have Hb2 := hide hb2
  clear hown hb2
  by_cases hk0 : k = 0
  · subst hk0
    go_wp2
    go_ret
    refine ⟨_, _, rfl, ?_, unhide Hb2⟩
    have := unhide Hown
    simpa [backTo] using this
  · obtain ⟨j, rfl⟩ : ∃ j, k = j + 1 := ⟨k - 1, by omega⟩
    obtain ⟨x, hx⟩ : ∃ x, b[j]? = some x := ⟨_, List.getElem?_eq_getElem (by rw [unhide Hbl]; omega)⟩
    obtain ⟨ab, ao, rfl, hlt, hc⟩ := ((unhide Hb).below ((unhide Hb2).mono hB)).at_ (bys_at' hx)
    have hset := own_set (i := j) (unhide Hown) (.int .u8 x.toNat)
    rw [backTo_set hx] at hset
    have hcl : (backTo b (j + 1))[j]? = some (.int .u8 0) := by simp [backTo, List.getElem?_append]
    have hc2 := own_cell (unhide Hown) hcl
    have hf2 := own_free (unhide Hown) j
    have hge := own_at (unhide Hown)
    have e1 : ((j + 1 : Nat) : Int) - 1 = (j : Int) := by omega
    rw [e1]
    have Hset := hide hset
    clear hset hcl hx
    go_wp2
    go_roundw
    case rel => exact ⟨j, by omega, rfl, unhide Hset, (unhide Hb2).setCell (Nat.le_refl _) _⟩
    case measure => simp [intOf]

end Go.Proofs.Ytdminnhfgdoibaa
namespace Go.Proofs.Ytdminnhfgdoibaa.Cl
set_option linter.unusedVariables false
set_option linter.unusedSimpArgs false
open Go.Proofs.Ytdminnhfgdoibaa

structure C where
  kind : Nat
  a : Nat
  b : Nat
  c : Nat
  d : Nat
  e : Nat
  path : ByteArray
  argv : List ByteArray
  env : List ByteArray
  bytes : List UInt8

/-- The fields of a kind, by their numbers. -/
def fsN : Nat → List Nat
  | 1 => [5, 6, 7]
  | 3 => [0]
  | 5 => [0, 1, 2, 3, 4]
  | 6 => [0, 1]
  | 7 => [0, 1, 2]
  | 8 => [0, 1]
  | 9 => [0, 8]
  | 10 => [5, 0]
  | 11 => [0]
  | 12 => [0, 1]
  | _ => []
def num (c : C) : Nat → Nat
  | 0 => c.a
  | 1 => c.b
  | 2 => c.c
  | 3 => c.d
  | _ => c.e
/-- is nothing said by a field? -/
def emptyB (c : C) : Nat → Bool
  | 5 => decide (c.path.size = 0)
  | 6 => decide (c.argv.length = 0)
  | 7 => decide (c.env.length = 0)
  | 8 => decide (c.bytes.length = 0)
  | f => num c f == 0
def fieldB (c : C) (f : Nat) : Bool := (fsN c.kind).contains f || emptyB c f
def onlyB (c : C) : Bool := (List.range 9).all (fieldB c)
def bigT (s : ByteArray) : Bool := decide (256 < s.size)
def zeroT (s : ByteArray) : Bool := s.data.toList.contains 0
def envCk (l : List ByteArray) : Int := if 32 < l.length then 12 else if l.any bigT then 12 else if l.any zeroT then 1 else 0
def fst2 (a b : Int) : Int := if a = 0 then b else a
def check (c : C) : Int :=
  if c.kind = 0 ∨ 12 < c.kind then 23 else if onlyB c = false then 1
  else if c.kind = 1 then fst2 (Pth.chk c.path) (fst2 (envCk c.argv) (envCk c.env))
  else if c.kind = 8 ∨ c.kind = 12 then (if 4096 < c.b then 12 else 0)
  else if c.kind = 9 then (if 4096 < c.bytes.length then 12 else 0)
  else if c.kind = 10 then fst2 (Pth.chk c.path) (if 1 < c.a then 1 else 0)
  else 0

end Go.Proofs.Ytdminnhfgdoibaa.Cl
namespace Go.Proofs.Ytdminnhfgdoibaa.Cl
set_option linter.unusedVariables false
set_option linter.unusedSimpArgs false
open Go.Proofs.Ytdminnhfgdoibaa

/-- n bytes of a number, the lowest first. -/
def lb : Nat → Nat → List UInt8
  | _, 0 => []
  | x, n + 1 => UInt8.ofNat (x % 256) :: lb (x / 256) n
theorem lb_len (n x : Nat) : (lb x n).length = n := by
  induction n generalizing x with
  | zero => rfl
  | succ n ih => simp [lb, ih]
theorem le_lb (n x : Nat) (h : x < 256 ^ n) : Wd.le (lb x n) = x := by
  induction n generalizing x with
  | zero => simp at h; subst h; rfl
  | succ n ih =>
    rw [Nat.pow_succ] at h
    simp only [lb, Wd.le]
    rw [ih (x / 256) (by omega)]
    have e : (UInt8.ofNat (x % 256)).toNat = x % 256 := by simp
    omega
theorem lb_le (l : List UInt8) : lb (Wd.le l) l.length = l := by
  induction l with
  | nil => rfl
  | cons c r ih =>
    have h := c.toNat_lt
    have e1 : (c.toNat + 256 * Wd.le r) % 256 = c.toNat := by omega
    have e2 : (c.toNat + 256 * Wd.le r) / 256 = Wd.le r := by omega
    simp only [Wd.le, List.length_cons, lb]
    rw [e1, e2, ih]
    simp

def bl (s : ByteArray) : List UInt8 := s.data.toList
def ba (l : List UInt8) : ByteArray := ⟨l.toArray⟩
theorem bl_ba (l : List UInt8) : bl (ba l) = l := rfl
theorem ba_bl (s : ByteArray) : ba (bl s) = s := by cases s; simp [ba, bl]
theorem bl_len (s : ByteArray) : (bl s).length = s.size := rfl
theorem ba_size (l : List UInt8) : (ba l).size = l.length := by show l.toArray.size = l.length; simp
/-- A text with its length ahead. -/
def txt (s : List UInt8) : List UInt8 := lb s.length 2 ++ s
def txts : List ByteArray → List UInt8
  | [] => []
  | s :: r => txt (bl s) ++ txts r
def lst (l : List ByteArray) : List UInt8 := lb l.length 1 ++ txts l
theorem txts_app (a b : List ByteArray) : txts (a ++ b) = txts a ++ txts b := by
  induction a with
  | nil => rfl
  | cons s r ih => simp [txts, ih]
def fld (q : C) : Nat → List UInt8
  | 5 => txt (bl q.path)
  | 6 => lst q.argv
  | 7 => lst q.env
  | 8 => txt q.bytes
  | f => lb (num q f) 8
def flds (q : C) : List Nat → List UInt8
  | [] => []
  | f :: r => fld q f ++ flds q r
theorem flds_app (q : C) (a b : List Nat) : flds q (a ++ b) = flds q a ++ flds q b := by
  induction a with
  | nil => rfl
  | cons s r ih => simp [flds, ih]
def form (q : C) : List UInt8 := UInt8.ofNat q.kind :: flds q (fsN q.kind)

/-- A reader: what is left, and whether some was lacking. -/
structure R where
  b : List UInt8
  gone : Bool
def take (r : R) (n : Nat) : List UInt8 × R := if r.gone = true ∨ r.b.length < n then ([], ⟨r.b, true⟩) else (r.b.take n, ⟨r.b.drop n, false⟩)
def rnum (r : R) (s : Nat) : Nat × R := (Wd.le (take r s).1, (take r s).2)
def rtxt (r : R) : List UInt8 × R := take (rnum r 2).2 (rnum r 2).1
def rtxts : Nat → R → List ByteArray × R
  | 0, r => ([], r)
  | n + 1, r => if r.gone = true then ([], r) else (ba (rtxt r).1 :: (rtxts n (rtxt r).2).1, (rtxts n (rtxt r).2).2)
def rlst (r : R) : List ByteArray × R := rtxts (rnum r 1).1 (rnum r 1).2
def rfld (s : C × R) : Nat → C × R
  | 5 => ({ s.1 with path := ba (rtxt s.2).1 }, (rtxt s.2).2)
  | 6 => ({ s.1 with argv := (rlst s.2).1 }, (rlst s.2).2)
  | 7 => ({ s.1 with env := (rlst s.2).1 }, (rlst s.2).2)
  | 8 => ({ s.1 with bytes := (rtxt s.2).1 }, (rtxt s.2).2)
  | 0 => ({ s.1 with a := (rnum s.2 8).1 }, (rnum s.2 8).2)
  | 1 => ({ s.1 with b := (rnum s.2 8).1 }, (rnum s.2 8).2)
  | 2 => ({ s.1 with c := (rnum s.2 8).1 }, (rnum s.2 8).2)
  | 3 => ({ s.1 with d := (rnum s.2 8).1 }, (rnum s.2 8).2)
  | _ => ({ s.1 with e := (rnum s.2 8).1 }, (rnum s.2 8).2)
def rflds : List Nat → C × R → C × R
  | [], s => s
  | f :: r, s => rflds r (rfld s f)
theorem rflds_app (a b : List Nat) (s : C × R) : rflds (a ++ b) s = rflds b (rflds a s) := by
  induction a generalizing s with
  | nil => rfl
  | cons f r ih => simp [rflds, ih]
def zeroC : C := ⟨0, 0, 0, 0, 0, 0, ba [], [], [], []⟩
def kindC (k : Nat) : C := ⟨k, 0, 0, 0, 0, 0, ba [], [], [], []⟩
def rall (k : Nat) (b : List UInt8) : C × R := rflds (fsN k) (kindC k, ⟨b, false⟩)
def read : List UInt8 → C × Nat × Int
  | [] => (zeroC, 0, 24)
  | k :: r => if k.toNat = 0 ∨ 12 < k.toNat then (zeroC, 0, 23)
      else if (rall k.toNat r).2.gone = true then (zeroC, 0, 24)
      else if check (rall k.toNat r).1 = 0 then ((rall k.toNat r).1, r.length + 1 - (rall k.toNat r).2.b.length, 0)
      else (zeroC, 0, check (rall k.toNat r).1)

/-- What was read: so many bytes ahead of what is left. -/
def Went (r r' : R) (x : List UInt8) : Prop := r.gone = false ∧ r'.gone = false ∧ r.b = x ++ r'.b
theorem Went.trans {a b c : R} {x y : List UInt8} (h : Went a b x) (k : Went b c y) : Went a c (x ++ y) :=
  ⟨h.1, k.2.1, by rw [h.2.2, k.2.2, List.append_assoc]⟩
theorem take_went {r : R} {n : Nat} (h : (take r n).2.gone = false) : Went r (take r n).2 (take r n).1 ∧ (take r n).1.length = n := by
  unfold take at h ⊢
  split at h
  · cases h
  · rename_i hn
    rw [if_neg hn]
    have h1 : r.gone = false := by
      cases hg : r.gone
      · rfl
      · exact absurd (.inl hg) hn
    have h2 : n ≤ r.b.length := by
      rcases Nat.lt_or_ge r.b.length n with h | h
      · exact absurd (.inr h) hn
      · exact h
    exact ⟨⟨h1, rfl, (List.take_append_drop n r.b).symm⟩, by simp; omega⟩
theorem rnum_went {r : R} {n : Nat} (h : (rnum r n).2.gone = false) : Went r (rnum r n).2 (lb (rnum r n).1 n) ∧ (rnum r n).1 < 256 ^ n := by
  obtain ⟨h1, h2⟩ := take_went h
  have e := lb_le (take r n).1
  have h3 := Wd.le_lt (take r n).1
  rw [h2] at e h3
  unfold rnum
  simp only
  rw [e]
  exact ⟨h1, h3⟩
theorem take_gone {r : R} {n : Nat} (h : r.gone = true) : take r n = ([], ⟨r.b, true⟩) := if_pos (.inl h)
theorem gone_back {r : R} {n : Nat} (h : (take r n).2.gone = false) : r.gone = false := (take_went h).1.1
theorem rtxt_went {r : R} (h : (rtxt r).2.gone = false) : Went r (rtxt r).2 (txt (rtxt r).1) ∧ (rtxt r).1.length < 65536 := by
  have h0 : (rnum r 2).2.gone = false := gone_back h
  obtain ⟨h1, h2⟩ := rnum_went h0
  obtain ⟨h3, h4⟩ := take_went h
  have h5 : (rtxt r).1.length = (rnum r 2).1 := h4
  unfold txt
  rw [h5]
  exact ⟨h1.trans h3, h2⟩
theorem rtxts_gone (n : Nat) {r : R} (h : r.gone = true) : (rtxts n r).2.gone = true := by
  cases n with
  | zero => exact h
  | succ n => unfold rtxts; rw [if_pos h]; exact h
theorem rtxts_went (n : Nat) {r : R} (h : (rtxts n r).2.gone = false) : r.gone = false ∧ Went r (rtxts n r).2 (txts (rtxts n r).1) ∧ (rtxts n r).1.length = n := by
  induction n generalizing r with
  | zero => exact ⟨h, ⟨h, h, rfl⟩, rfl⟩
  | succ n ih =>
    cases hg : r.gone
    · have e : rtxts (n + 1) r = (ba (rtxt r).1 :: (rtxts n (rtxt r).2).1, (rtxts n (rtxt r).2).2) := by
        conv => lhs; unfold rtxts
        rw [if_neg (by rw [hg]; simp)]
      rw [e] at h ⊢
      obtain ⟨h1, h2, h3⟩ := ih h
      obtain ⟨h4, _⟩ := rtxt_went h1
      refine ⟨rfl, h4.trans h2, by simp [h3]⟩
    · rw [rtxts_gone _ hg] at h
      cases h
theorem rlst_went {r : R} (h : (rlst r).2.gone = false) : Went r (rlst r).2 (lst (rlst r).1) ∧ (rlst r).1.length < 256 := by
  obtain ⟨h1, h2, h3⟩ := rtxts_went _ h
  obtain ⟨h4, h5⟩ := rnum_went h1
  have h6 : (rlst r).1.length = (rnum r 1).1 := h3
  unfold lst
  rw [h6]
  exact ⟨h4.trans h2, by omega⟩

/-- Reading goes on alike, whatever stands behind. -/
def more (t : List UInt8) (r : R) : R := ⟨r.b ++ t, r.gone⟩
theorem take_more (t : List UInt8) {r : R} {n : Nat} (h : (take r n).2.gone = false) : take (more t r) n = ((take r n).1, more t (take r n).2) := by
  obtain ⟨⟨h1, h2, h3⟩, h4⟩ := take_went h
  have hn : n ≤ r.b.length := by
    rw [h3, List.length_append]
    omega
  have e : take r n = (r.b.take n, ⟨r.b.drop n, false⟩) := if_neg (by rw [h1]; simp; omega)
  have e2 : take (more t r) n = ((r.b ++ t).take n, ⟨(r.b ++ t).drop n, false⟩) := if_neg (by unfold more; simp [h1]; omega)
  rw [e2, e]
  rw [List.take_append_of_le_length hn, List.drop_append_of_le_length hn]
  rfl
theorem rnum_more (t : List UInt8) {r : R} {n : Nat} (h : (rnum r n).2.gone = false) : rnum (more t r) n = ((rnum r n).1, more t (rnum r n).2) := by
  unfold rnum
  rw [take_more t h]
theorem rtxt_more (t : List UInt8) {r : R} (h : (rtxt r).2.gone = false) : rtxt (more t r) = ((rtxt r).1, more t (rtxt r).2) := by
  have h0 : (rnum r 2).2.gone = false := gone_back h
  unfold rtxt
  rw [rnum_more t h0]
  exact take_more t h
theorem rtxts_more (t : List UInt8) (n : Nat) {r : R} (h : (rtxts n r).2.gone = false) : rtxts n (more t r) = ((rtxts n r).1, more t (rtxts n r).2) := by
  induction n generalizing r with
  | zero => rfl
  | succ n ih =>
    have hg := (rtxts_went _ h).1
    have e : rtxts (n + 1) r = (ba (rtxt r).1 :: (rtxts n (rtxt r).2).1, (rtxts n (rtxt r).2).2) := by
      conv => lhs; unfold rtxts
      rw [if_neg (by rw [hg]; simp)]
    have e2 : rtxts (n + 1) (more t r) = (ba (rtxt (more t r)).1 :: (rtxts n (rtxt (more t r)).2).1, (rtxts n (rtxt (more t r)).2).2) := by
      conv => lhs; unfold rtxts
      rw [if_neg (by unfold more; rw [hg]; simp)]
    rw [e] at h ⊢
    rw [e2, rtxt_more t (rtxts_went _ h).1, ih h]
theorem rlst_more (t : List UInt8) {r : R} (h : (rlst r).2.gone = false) : rlst (more t r) = ((rlst r).1, more t (rlst r).2) := by
  have h0 : (rnum r 1).2.gone = false := (rtxts_went _ h).1
  unfold rlst
  rw [rnum_more t h0]
  exact rtxts_more t _ h

/-- one field -/
theorem rfld_back {s : C × R} {f : Nat} (h : (rfld s f).2.gone = false) : s.2.gone = false := by
  unfold rfld at h
  split at h
  · exact (rtxt_went h).1.1
  · exact (rlst_went h).1.1
  · exact (rlst_went h).1.1
  · exact (rtxt_went h).1.1
  · exact (rnum_went h).1.1
  · exact (rnum_went h).1.1
  · exact (rnum_went h).1.1
  · exact (rnum_went h).1.1
  · exact (rnum_went h).1.1
theorem rfld_went {s : C × R} {f : Nat} (hf : f < 9) (h : (rfld s f).2.gone = false) : Went s.2 (rfld s f).2 (fld (rfld s f).1 f) := by
  obtain rfl | rfl | rfl | rfl | rfl | rfl | rfl | rfl | rfl : f = 0 ∨ f = 1 ∨ f = 2 ∨ f = 3 ∨ f = 4 ∨ f = 5 ∨ f = 6 ∨ f = 7 ∨ f = 8 := by omega
  · exact (rnum_went h).1
  · exact (rnum_went h).1
  · exact (rnum_went h).1
  · exact (rnum_went h).1
  · exact (rnum_went h).1
  · exact (rtxt_went h).1
  · exact (rlst_went h).1
  · exact (rlst_went h).1
  · exact (rtxt_went h).1
theorem rfld_more (t : List UInt8) {s : C × R} {f : Nat} (hf : f < 9) (h : (rfld s f).2.gone = false) : rfld (s.1, more t s.2) f = ((rfld s f).1, more t (rfld s f).2) := by
  obtain rfl | rfl | rfl | rfl | rfl | rfl | rfl | rfl | rfl : f = 0 ∨ f = 1 ∨ f = 2 ∨ f = 3 ∨ f = 4 ∨ f = 5 ∨ f = 6 ∨ f = 7 ∨ f = 8 := by omega
  · simp only [rfld]; rw [rnum_more t h]
  · simp only [rfld]; rw [rnum_more t h]
  · simp only [rfld]; rw [rnum_more t h]
  · simp only [rfld]; rw [rnum_more t h]
  · simp only [rfld]; rw [rnum_more t h]
  · simp only [rfld]; rw [rtxt_more t h]
  · simp only [rfld]; rw [rlst_more t h]
  · simp only [rfld]; rw [rlst_more t h]
  · simp only [rfld]; rw [rtxt_more t h]
/-- a field is read, another one stays -/
theorem rfld_other {s : C × R} {f g : Nat} (hf : f < 9) (hg : g < 9) (hne : f ≠ g) : fld (rfld s f).1 g = fld s.1 g := by
  obtain rfl | rfl | rfl | rfl | rfl | rfl | rfl | rfl | rfl : f = 0 ∨ f = 1 ∨ f = 2 ∨ f = 3 ∨ f = 4 ∨ f = 5 ∨ f = 6 ∨ f = 7 ∨ f = 8 := by omega
  all_goals
    obtain rfl | rfl | rfl | rfl | rfl | rfl | rfl | rfl | rfl : g = 0 ∨ g = 1 ∨ g = 2 ∨ g = 3 ∨ g = 4 ∨ g = 5 ∨ g = 6 ∨ g = 7 ∨ g = 8 := by omega
    all_goals first | rfl | exact absurd rfl hne
theorem rflds_kept (l : List Nat) {s : C × R} {g : Nat} (hl : ∀ f ∈ l, f < 9) (hg : g < 9) (hne : g ∉ l) : fld (rflds l s).1 g = fld s.1 g := by
  induction l generalizing s with
  | nil => rfl
  | cons f r ih =>
    simp only [rflds]
    rw [ih (fun x hx => hl x (.tail _ hx)) (fun h => hne (.tail _ h))]
    exact rfld_other (hl f (.head _)) hg (fun e => hne (by rw [e]; exact .head _))
theorem rflds_went (l : List Nat) {s : C × R} (hl : ∀ f ∈ l, f < 9) (hd : l.Nodup) (h : (rflds l s).2.gone = false) : s.2.gone = false ∧ Went s.2 (rflds l s).2 (flds (rflds l s).1 l) := by
  induction l generalizing s with
  | nil => exact ⟨h, h, h, rfl⟩
  | cons f r ih =>
    simp only [rflds] at h ⊢
    have hd' := List.nodup_cons.1 hd
    obtain ⟨h1, h2⟩ := ih (fun x hx => hl x (.tail _ hx)) hd'.2 h
    have h3 := rfld_went (hl f (.head _)) h1
    refine ⟨h3.1, ?_⟩
    have e : fld (rflds r (rfld s f)).1 f = fld (rfld s f).1 f := rflds_kept r (fun x hx => hl x (.tail _ hx)) (hl f (.head _)) hd'.1
    unfold flds
    rw [e]
    exact h3.trans h2
theorem rflds_more (t : List UInt8) (l : List Nat) {s : C × R} (hl : ∀ f ∈ l, f < 9) (hd : l.Nodup) (h : (rflds l s).2.gone = false) : rflds l (s.1, more t s.2) = ((rflds l s).1, more t (rflds l s).2) := by
  induction l generalizing s with
  | nil => rfl
  | cons f r ih =>
    simp only [rflds] at h ⊢
    have hd' := List.nodup_cons.1 hd
    rw [rfld_more t (hl f (.head _)) (rflds_went r (fun x hx => hl x (.tail _ hx)) hd'.2 h).1]
    exact ih (fun x hx => hl x (.tail _ hx)) hd'.2 h
theorem fsN_ok (k : Nat) : (∀ f ∈ fsN k, f < 9) ∧ (fsN k).Nodup := by
  unfold fsN
  split <;> decide
end Go.Proofs.Ytdminnhfgdoibaa.Cl
namespace Go.Proofs.Ytdminnhfgdoibaa
set_option linter.unusedVariables false
set_option linter.unusedSimpArgs false
open Go.RowKit

/-- Is a slice of bytes nil? -/
theorem nilq (w : World) (a : Option Addr) (n c n' c' : Nat) : (binOp .eql 22 (.slice a n c) (.slice none n' c')).run Try.prog w = .ok (.bool a.isNone) w := Lib.run_eql_slice_nil w _ _ a n c n' c' Try.underlying22
/-- A row of nothing, in a block of its own. -/
theorem own_empty (w : World) (e : TypeId) (base : Nat) (hb : base ≤ w.heap.size) : (w.alloc (.cells #[] e)).ownsRow base e 1 (.slice (some ⟨w.heap.size, 0, none⟩) 0 0) 0 [] :=
  ⟨rfl, .inr ⟨w.heap.size, 0, #[], rfl, hb, heap_alloc_new _ _, Nat.le_refl _, by decide, rfl, rfl⟩⟩
theorem grown_below {w w1 w2 : World} {row : Option Nat} (hb : Below w.heap.size w w1) (hg : w1.grownBy w2 row) (hr : ∀ k, row = some k → w.heap.size ≤ k) : Below w.heap.size w w2 := hb.grown hg hb.size hr

set_option maxRecDepth 100000 in
set_option maxHeartbeats 1000000 in
theorem bclone_some (ad : Addr) (m c B : Nat) (b : List UInt8) (w : World) (hB : B ≤ w.heap.size) (hb : Rd w B 1 (some ad) m (bys b)) (hm : m ≤ 4294967296) :
    Calls Try.prog 55 #[.slice (some ad) m c] w fun e w' => ∃ A' c', e = .returned (.slice A' m c') ∧ w'.ownsRow w.heap.size 5 1 (.slice A' m c') m (bys b) ∧ Below w.heap.size w w' := by
  have Hb := hide hb
  clear hb
  have q22 := nilq
  go_enter Try.func55, Try.ntmps55
  go_wp2_with (first
    | (at_builtin; refine wpList_app byteTy rfl _ _ rfl w.heap.size (.slice (some ⟨w.heap.size, 0, none⟩) 0 0) 0 [] rfl (own_empty w _ _ (Nat.le_refl _)) B (some ad) m c (bys b) rfl ((unhide Hb).alloc hB _) (bys_one b) (by omega) (by simp) ?_; intro A2 c2 w1 hown hgrow hat; have Hb1 := hide (grown_below ((Below.refl w.heap.size w).alloc (Nat.le_refl _) _) hgrow (fun k hk => (by simp [Value.ownBlock] at hk; omega))); have Hown := hide hown; clear hgrow hat hown))
  go_ret
  have h := unhide Hown
  simp only [Nat.zero_add, List.nil_append] at h
  exact ⟨A2, c2, by simp, h, unhide Hb1⟩
set_option maxRecDepth 100000 in
theorem bclone_none (w : World) :
    Calls Try.prog 55 #[.slice none 0 0] w fun e w' => e = .returned (.slice none 0 0) ∧ w = w' := by
  have q22 := nilq
  go_enter Try.func55, Try.ntmps55
  go_wp2
  go_ret
  exact ⟨rfl, rfl⟩

theorem refInside_yes (a b c : Nat) (w : World) (hc : c < 18446744073709551616) (h : a + b ≤ c) : Calls Try.prog 46 #[.int .u64 a, .int .u64 b, .int .u64 c] w fun e w' => e = .returned (.bool true) ∧ w = w' := by
  have h1 : decide (((b : Nat) : Int) ≤ ((c : Nat) : Int)) = true := by simp; omega
  have h2 : decide (((a : Nat) : Int) ≤ ((c : Nat) : Int) - ((b : Nat) : Int)) = true := by simp; omega
  go_enter Try.func46, Try.ntmps46
  go_wp2
  go_ret
  exact ⟨rfl, rfl⟩
theorem place_yes (A : Option Addr) (m c p s : Nat) (w : World) (hm : m ≤ 4294967296) (hs : s = 1 ∨ s = 2 ∨ s = 4 ∨ s = 8) (h : p + s ≤ m) : Calls Try.prog 62 #[.slice A m c, .int .u64 p, .int .i64 s] w fun e w' => e = .returned (.int .i64 0) ∧ w = w' := by
  rcases hs with rfl | rfl | rfl | rfl
  all_goals
    go_enter Try.func62, Try.ntmps62
    go_wp2_with (go_at_call 46; refine (refInside_yes p _ m w (by omega) h).mono ?_; rintro e w1 ⟨rfl, rfl⟩)
    go_ret
    exact ⟨rfl, rfl⟩

/-- i bytes of x written from p on. -/
def setK (b : List UInt8) (p x : Nat) : Nat → List UInt8
  | 0 => b
  | i + 1 => (setK b p x i).set (p + i) (UInt8.ofNat (x / 256 ^ i % 256))
theorem setK_len (b : List UInt8) (p x i : Nat) : (setK b p x i).length = b.length := by
  induction i with
  | zero => rfl
  | succ i ih => simp [setK, ih]
theorem lb_snoc (n x : Nat) : Cl.lb x (n + 1) = Cl.lb x n ++ [UInt8.ofNat (x / 256 ^ n % 256)] := by
  induction n generalizing x with
  | zero => simp [Cl.lb]
  | succ n ih =>
    have e : Cl.lb x (n + 1 + 1) = UInt8.ofNat (x % 256) :: Cl.lb (x / 256) (n + 1) := rfl
    rw [e, ih (x / 256), Nat.div_div_eq_div_mul, Nat.pow_succ, Nat.mul_comm 256]
    rfl
theorem setK_zero (s x i : Nat) (h : i ≤ s) : setK (List.replicate s 0) 0 x i = Cl.lb x i ++ List.replicate (s - i) 0 := by
  induction i with
  | zero => simp [setK, Cl.lb]
  | succ i ih =>
    have e : s - i = (s - (i + 1)) + 1 := by omega
    rw [setK, ih (by omega), lb_snoc, e, List.replicate_succ, Nat.zero_add, List.set_append_right _ _ (by rw [Cl.lb_len]; exact Nat.le_refl _), Cl.lb_len, Nat.sub_self, List.set_cons_zero, List.append_assoc]
    rfl
theorem setK_all (s x : Nat) : setK (List.replicate s 0) 0 x s = Cl.lb x s := by
  rw [setK_zero s x s (Nat.le_refl _), Nat.sub_self]
  simp

set_option maxRecDepth 100000 in
set_option maxHeartbeats 1000000 in
theorem refSet_yes (A : Option Addr) (m c B : Nat) (b : List UInt8) (p s x : Nat) (w : World) (hB : B ≤ w.heap.size) (hb : Rd w B 1 A m (bys b)) (hm : m ≤ 4294967296) (hs : s = 1 ∨ s = 2 ∨ s = 4 ∨ s = 8) (h : p + s ≤ m) (hx : x < 18446744073709551616) :
    Calls Try.prog 40 #[.slice A m c, .int .u64 p, .int .i64 s, .int .u64 x] w fun e w' => ∃ A' c', e = .returned (.tuple #[.slice A' m c', .int .i64 0]) ∧ w'.ownsRow w.heap.size 5 1 (.slice A' m c') m (bys (setK b p x s)) ∧ Below w.heap.size w w' := by
  have hbl : b.length = m := by simpa [bys] using hb.len1
  have hs8 : s ≤ 8 := by omega
  have hs0 : 0 < s := by omega
  have hpl := place_yes A m c p s w hm hs h
  have hcp := copyBytes_any A m c B b w hB hb hm
  have Hpl := hide hpl
  have Hcp := hide hcp
  have Hbl := hide hbl
  clear hpl hcp hbl hb hs
  go_enter Try.func40, Try.ntmps40
  go_wp2_with (first
    | (go_at_call 62; refine (unhide Hpl).mono ?_; rintro e w1 ⟨rfl, rfl⟩)
    | (go_at_call 63; refine (unhide Hcp).mono ?_; rintro e w1 ⟨A', c', rfl, hown, hb1⟩; obtain ⟨g, rfl, hg1, hg2⟩ := own_some hown (by omega); have Hown := hide hown; have Hb1 := hide hb1; clear hown hb1))
  go_loopw [12, 3] (fun i y wr => ∃ k : Nat, k ≤ s ∧ i = .int .i64 k ∧ y = .int .u64 (x / 256 ^ k : Nat) ∧ wr.ownsRow w.heap.size 5 1 (.slice (some ⟨g, 0, none⟩) m c') m (bys (setK b p x k)) ∧ Below w.heap.size w wr) (fun i _ _ => s - (intOf i).toNat)
  case atStart => exact ⟨0, by omega, rfl, by simp, unhide Hown, unhide Hb1⟩
  case round =>
  clear Hown Hb1
  obtain ⟨k, hk, rfl, rfl, hown, hb2⟩ := hrel
  have Hown := hide hown
  have Hb2 := hide hb2
  clear hown hb2
  rcases Nat.lt_or_ge k s with hlt | hge
  case inr =>
    obtain rfl : k = s := by omega
    go_wp2
    go_ret2
    exact ⟨_, _, rfl, unhide Hown, unhide Hb2⟩
  obtain ⟨z, hz⟩ : ∃ z, (setK b p x k)[p + k]? = some z := ⟨_, List.getElem?_eq_getElem (by rw [setK_len, unhide Hbl]; omega)⟩
  have hset := own_set (i := p + k) (unhide Hown) (.int .u8 (UInt8.ofNat (x / 256 ^ k % 256)).toNat)
  rw [bys_set] at hset
  have hc2 := own_cell (unhide Hown) (bys_at hz)
  have hf2 := own_free (unhide Hown) (p + k)
  obtain ⟨hg3, hg4, hg5⟩ := own_at (unhide Hown)
  have hy : x / 256 ^ k < 18446744073709551616 := Nat.lt_of_le_of_lt (Nat.div_le_self _ _) hx
  have hy2 : x / 256 ^ k / 256 = x / 256 ^ (k + 1) := by rw [Nat.div_div_eq_div_mul, Nat.pow_succ]
  have hy3 : (UInt8.ofNat (x / 256 ^ k % 256)).toNat = x / 256 ^ k % 256 := by simp
  have Hy2 := hide hy2
  rw [show (setK b p x k).set (p + k) (UInt8.ofNat (x / 256 ^ k % 256)) = setK b p x (k + 1) from rfl, hy3] at hset
  have Hset := hide hset
  clear hset hy2 hy3 hz
  generalize x / 256 ^ k = y at *
  go_wp2
  go_roundw
  case rel =>
    refine ⟨k + 1, by omega, by go_num, ?_, ?_, (unhide Hb2).setCell hg1 _⟩
    · rw [← unhide Hy2]
      congr 1
    · exact unhide Hset
  case measure => simp [intOf]; omega
end Go.Proofs.Ytdminnhfgdoibaa
namespace Go.Proofs.Ytdminnhfgdoibaa
set_option linter.unusedVariables false
set_option linter.unusedSimpArgs false
open Go.RowKit

/-- What large answers. -/
def Large13E (n ns : Nat) (w : World) (e : Ending) (w' : World) : Prop := ∃ r, e = .returned (.bool r) ∧ Below w.heap.size w w' ∧ (r = false → n ≤ 131072 ∧ ns ≤ 256)
theorem large13_any (A : Option Addr) (n c : Nat) (ty en ph : Int) (As : Option Addr) (ns cs : Nat) (w : World) (hn : n ≤ maxLen) (hns : ns ≤ maxLen) :
    Calls Try.prog 7 #[.slice A n c, .agg #[.int .u16 ty, .int .u64 en, .int .u64 ph, .slice As ns cs]] w (Large13E n ns w) := by
  have hH := Blk.new w 27 [.int .u16 ty, .int .u64 en, .int .u64 ph, .slice As ns cs]
  have z3 := hH.cell (i := 3) rfl
  have Hb : Hid (Below w.heap.size w (w.alloc (.cells #[.int .u16 ty, .int .u64 en, .int .u64 ph, .slice As ns cs] 27))) := hide ((Below.refl _ _).alloc (Nat.le_refl _) _)
  unfold maxLen at hn hns
  clear hH
  by_cases h1 : 131072 < n
  · have hI : (131072 : Int) < (n : Int) := by omega
    go_enter Try.func7, Try.ntmps7
    go_wp2_with fail
    go_ret
    exact ⟨true, rfl, unhide Hb, fun h => by cases h⟩
  have hI : ¬ (131072 : Int) < (n : Int) := by omega
  by_cases h2 : 256 < ns
  · have hJ : (256 : Int) < (ns : Int) := by omega
    go_enter Try.func7, Try.ntmps7
    go_wp2_with fail
    go_ret
    exact ⟨true, by first | rfl | (simp; omega), unhide Hb, fun h => by cases h⟩
  have hJ : ¬ (256 : Int) < (ns : Int) := by omega
  go_enter Try.func7, Try.ntmps7
  go_wp2_with fail
  go_ret
  exact ⟨false, by first | rfl | (simp; omega), unhide Hb, fun _ => ⟨by omega, by omega⟩⟩
theorem results_tmp_cell {P : Program} {fn : Func} {p q : Tmp} {ty : TypeId} (h : fn.results = #[.tmp q, .cell p ty]) (tmps : Array Value) (w : World) (g : Nat) (t : TypeId) (cs : Array Value) (fr : Nat × Nat) (d : TypeDesc)
    (hp : tmps.getD p undef = .pointer (some ⟨g, 0, none⟩)) (hg : w.heap[g]? = some (.cells cs t fr))
    (hu : P.underlying ty = some d) (hd : (match d with | .struct _ | .array _ _ => true | _ => false) = true) (hi : (P.info? ty).map (·.size) = some cs.size) :
    (results fn tmps).run P w = .ok (.tuple #[tmps.getD q undef, .agg cs]) w := by
  have hp' : tmps[p]?.getD undef = .pointer (some ⟨g, 0, none⟩) := by simpa using hp
  simp [results, h, hp', asAddr, run_loadVar_row w g t ty cs fr d hg hu hd hi]
namespace Dy
/-- The numbers of the law's own object. -/
def plL : List Nat := [1, 3, 14, 1, 4, 4272, 5, 4368, 10, 8, 6, 4296, 11, 24, 7, 4344, 8, 24, 9, 24, 0, 0, 8589934593, 1, 0, 0, 0, 0, 281543696187393, 77, 5, 4104, 4294967297, 18446744073709551615, 1644192000]
def plB : Nat → List UInt8
  | 0 => List.replicate 280 0
  | k + 1 => setK (plB k) (8 * k) (plL.getD k 0) 8
theorem plB_len (k : Nat) : (plB k).length = 280 := by
  induction k with
  | zero => exact List.length_replicate
  | succ k ih => rw [plB, setK_len, ih]
def plSegs : List El.Sg := [⟨1, 4, 0, 4096, 280, 280⟩, ⟨2, 4, 0, 4096, 176, 176⟩]
end Dy
theorem hdInfo : (Try.prog.info? 27).map (·.size) = some 4 := by kernel_rfl
theorem hdOne (a b c : Int) (A : Option Addr) (n k : Nat) : (#[.int .u16 a, .int .u64 b, .int .u64 c, .slice A n k] : Array Value).all (·.oneCell') = true := by simp [Value.oneCell']
/-- What plain answers. -/
def PlainE (w : World) (e : Ending) (w' : World) : Prop := ∃ A c g, e = .returned (.tuple #[.slice A 280 c, .agg #[.int .u16 3, .int .u64 0, .int .u64 0, .slice (some ⟨g, 0, none⟩) 2 2]]) ∧ Rd w' w'.heap.size 1 A 280 (bys (Dy.plB 35)) ∧ Rd w' w'.heap.size 6 (some ⟨g, 0, none⟩) 2 (segCells Dy.plSegs) ∧ 280 ≤ c ∧ Below w.heap.size w w'
set_option maxRecDepth 100000 in
set_option maxHeartbeats 4000000 in
theorem plain13_any (w : World) : Calls Try.prog 20 #[] w (PlainE w) := by
  obtain ⟨i, hi, hz0, hz1, hz2⟩ := info_parts byteInfo
  have Hi := hide hi
  have Hz0 := hide hz0
  have Hz1 := hide hz1
  have Hz2 := hide hz2
  have HK0 : Hid (Blk (w.alloc (.cells #[.int .u16 0, .int .u64 0, .int .u64 0, .slice none 0 0] 27)) w.heap.size 27 [.int .u16 0, .int .u64 0, .int .u64 0, .slice none 0 0]) := hide (Blk.new w 27 [.int .u16 0, .int .u64 0, .int .u64 0, .slice none 0 0])
  clear hi hz0 hz1 hz2
  go_enter Try.func20, Try.ntmps20
  go_wp2_with (at_make; refine wpList_make_full _ rfl _ _ 22 rfl (w.heap.size + 1) 5 i (.int .u8 0) 1 Try.underlying22 (unhide Hi) (unhide Hz0) (unhide Hz1) _ _ _ _ 280 rfl rfl rfl rfl (by rw [unhide Hz2]; omega) (by unfold maxLen; omega) (by simp) ?_; intro w1 hown hgrow; have Hown := hide hown; have Hgrow := hide hgrow; clear hown hgrow)
  have e1 : (w.alloc (.cells #[.int .u16 0, .int .u64 0, .int .u64 0, .slice none 0 0] 27)).heap.size = w.heap.size + 1 := by simp
  have hb1 : Below w.heap.size w w1 := (((Below.refl _ _).alloc (Nat.le_refl _) _).alloc (by rw [e1]; omega) _).grown (unhide Hgrow) (by simp; omega) (fun k hk => by cases hk)
  have hk1 : Blk w1 w.heap.size 27 [.int .u16 0, .int .u64 0, .int .u64 0, .slice none 0 0] := ((unhide Hgrow).block w.heap.size (by simp; omega) (by intro h; cases h)).trans ((unhide HK0).alloc _)
  have hcs : ∀ j v, Dy.plL[j]? = some v → w1.cell? ⟨w.heap.size + 1, j, none⟩ = some (.int .u64 (v : Nat)) := by
    intro j v hv
    have h1 := (unhide Hgrow).block (w.heap.size + 1) (by simp) (by intro h; cases h)
    have h2 := Blk.new (w.alloc (.cells #[.int .u16 0, .int .u64 0, .int .u64 0, .slice none 0 0] 27)) 24 (Dy.plL.map fun n => Value.int .u64 ((n : Nat) : Int))
    rw [e1] at h2
    have h3 : Blk w1 (w.heap.size + 1) 24 (Dy.plL.map fun n => Value.int .u64 ((n : Nat) : Int)) := h1.trans h2
    exact h3.cell (by rw [List.getElem?_map, hv]; rfl)
  have hz : (madeCells (Value.int .u8 0).cells (280 * 1)).toList = bys (Dy.plB 0) := by
    simp only [Value.cells, toList_madeCells_one]
    unfold Dy.plB bys
    rw [List.map_replicate]
    rfl
  have hown := unhide Hown
  rw [hz] at hown
  simp only [World.size_alloc] at hown
  have HOw := hide hown
  have HB1 := hide hb1
  have HK1 := hide hk1
  have HCs := hide hcs
  have hl1 : w.heap.size + 1 < w1.heap.size := by have := (unhide Hgrow).size; simp at this; omega
  clear hown hb1 hk1 hcs hz Hown Hgrow HK0 Hi Hz0 Hz1 Hz2 e1
  go_loopg [4, 5] 35 (fun gk bv iv wr => ∃ (k : Nat) (A' : Option Addr) (c' : Nat), gk = 35 - k ∧ k ≤ 35 ∧ iv = .int .i64 k ∧ bv = .slice A' 280 c' ∧ wr.ownsRow (w.heap.size + 1) 5 1 (.slice A' 280 c') 280 (bys (Dy.plB k)) ∧ Below w.heap.size w wr ∧ Blk wr w.heap.size 27 [.int .u16 0, .int .u64 0, .int .u64 0, .slice none 0 0] ∧ (∀ j v, Dy.plL[j]? = some v → wr.cell? ⟨w.heap.size + 1, j, none⟩ = some (.int .u64 (v : Nat))) ∧ w.heap.size + 1 < wr.heap.size)
  case atStart => exact ⟨0, _, _, rfl, by omega, rfl, rfl, unhide HOw, unhide HB1, unhide HK1, unhide HCs, hl1⟩
  case round =>
  obtain ⟨k, A', c', hgk, hk, rfl, rfl, hown, hb2, hk2, hcells, hsz⟩ := hrel
  clear HOw HB1 HK1 HCs hl1
  by_cases hlt : k < 35
  case neg =>
    obtain rfl : k = 35 := by omega
    have HOw := hide hown
    have HB2 := hide hb2
    have HK2 := hide hk2
    have bw : Below wr.heap.size wr (wr.alloc (.cells #[.int .u32 1, .int .u8 4, .int .u64 0, .int .u64 4096, .int .u64 280, .int .u64 280, .int .u32 2, .int .u8 4, .int .u64 0, .int .u64 4096, .int .u64 176, .int .u64 176] 52)) := (Below.refl _ _).alloc (Nat.le_refl _) _
    have HK3 := hide (hk2.belowSz bw)
    have HOw3 := hide (own_below hown bw)
    have HB3 := hide (hb2.trans (bw.mono hb2.size))
    have HSg : Hid (Blk (wr.alloc (.cells #[.int .u32 1, .int .u8 4, .int .u64 0, .int .u64 4096, .int .u64 280, .int .u64 280, .int .u32 2, .int .u8 4, .int .u64 0, .int .u64 4096, .int .u64 176, .int .u64 176] 52)) wr.heap.size 52 [.int .u32 1, .int .u8 4, .int .u64 0, .int .u64 4096, .int .u64 280, .int .u64 280, .int .u32 2, .int .u8 4, .int .u64 0, .int .u64 4096, .int .u64 176, .int .u64 176]) := hide (Blk.new wr 52 [.int .u32 1, .int .u8 4, .int .u64 0, .int .u64 4096, .int .u64 280, .int .u64 280, .int .u32 2, .int .u8 4, .int .u64 0, .int .u64 4096, .int .u64 176, .int .u64 176])
    clear hown hb2 hk2 hcells bw
    go_wp2_with ((with_reducible refine (@id (wpList _ _ _ (Oper.mk none (Op.store 27 (.tmp 1) (.tmp 51)) _ _ _ none :: _) _ _) ?_)); refine wpList_store_row rfl 27 (.tmp 1) (.tmp 51) rfl w.heap.size #[.int .u16 3, .int .u64 0, .int .u64 0, .slice (some ⟨wr.heap.size, 0, none⟩) 2 2] rfl rfl 27 _ (unhide HK3) hdInfo rfl (hdOne _ _ _ _ _ _) ?_)
    refine bodyPost_ret (results_tmp_cell (P := Try.prog) rfl _ _ w.heap.size 27 #[.int .u16 3, .int .u64 0, .int .u64 0, .slice (some ⟨wr.heap.size, 0, none⟩) 2 2] (0, 0) _ rfl (setRow_heap _ _ _ _ _ _ (unhide HK3)) Try.underlying27 rfl hdInfo) rfl ?_
    have hO := own_setRowB (unhide HOw3) (Nat.lt_succ_self _) #[.int .u16 3, .int .u64 0, .int .u64 0, .slice (some ⟨wr.heap.size, 0, none⟩) 2 2]
    refine ⟨A', c', wr.heap.size, rfl, Rd.of_own hO, ?_, own_len (unhide HOw3), below_setRow (unhide HB3) (Nat.le_refl _) _⟩
    refine ⟨rfl, .inr ⟨wr.heap.size, 0, rfl, by simp, fun j u hj => ?_⟩⟩
    rw [cell_setRow_other _ _ _ _ (by dsimp only; omega)]
    exact (unhide HSg).cell (by rw [Nat.zero_add]; exact hj)
  have ilt : (k : Int) < 35 := by omega
  obtain ⟨x, hx⟩ : ∃ x, Dy.plL[k]? = some x := ⟨_, List.getElem?_eq_getElem hlt⟩
  have hxl : x < 18446744073709551616 := by
    have : ∀ y ∈ Dy.plL, y < 18446744073709551616 := by decide
    exact this x (List.mem_of_getElem? hx)
  have hnext : Dy.plB (k + 1) = setK (Dy.plB k) (8 * k) x 8 := by
    show setK (Dy.plB k) (8 * k) (Dy.plL.getD k 0) 8 = _
    rw [List.getD, hx]
    rfl
  have hset := refSet_yes A' 280 c' wr.heap.size (Dy.plB k) (8 * k) 8 x wr (Nat.le_refl _) (Rd.of_own hown) (by omega) (by omega) (by omega) hxl
  rw [← hnext] at hset
  have c0 := hcells _ _ hx
  have hI : ((8 * k : Nat) : Int) = 8 * (k : Int) := by omega
  rw [hI] at hset
  have w1e : IntKind.i64.wrap (8 * (k : Int)) = 8 * (k : Int) := by rw [IntKind.wrap_i64]; omega
  have w2e : IntKind.u64.wrap (8 * (k : Int)) = 8 * (k : Int) := by rw [IntKind.wrap_u64]; omega
  have Hset := hide hset
  have HB2 := hide hb2
  have HK2 := hide hk2
  have Hcells := hide hcells
  clear hset hown hb2 hk2 hcells hx hnext hI
  go_wp2_with fail
  refine (unhide Hset).mono ?_
  rintro e w3 ⟨A2, c2, rfl, hown, hbx⟩
  have HO3 := hide (own_base (base' := w.heap.size + 1) hown (Nat.le_of_lt hsz))
  have HB3 := hide ((unhide HB2).trans (hbx.mono (unhide HB2).size))
  have HK3 := hide ((unhide HK2).belowSz hbx)
  have HC3 : Hid (∀ j v, Dy.plL[j]? = some v → w3.cell? ⟨w.heap.size + 1, j, none⟩ = some (.int .u64 (v : Nat))) := hide (fun j v hv => (hbx.cell (p := ⟨w.heap.size + 1, j, none⟩) hsz).trans ((unhide Hcells) j v hv))
  have hsz3 : w.heap.size + 1 < w3.heap.size := Nat.lt_of_lt_of_le hsz hbx.size
  clear hown hbx c0 w1e w2e Hset HB2 HK2 Hcells
  go_wp2_with fail
  go_roundg (35 - (k + 1))
  case measure => omega
  case rel => exact ⟨k + 1, A2, c2, rfl, by omega, by go_num, rfl, unhide HO3, unhide HB3, unhide HK3, unhide HC3, hsz3⟩
end Go.Proofs.Ytdminnhfgdoibaa
namespace Go.Proofs.Ytdminnhfgdoibaa
set_option linter.unusedVariables false
set_option linter.unusedSimpArgs false
open Go.RowKit
namespace Dy
def plLit : List UInt8 := [1, 0, 0, 0, 0, 0, 0, 0, 3, 0, 0, 0, 0, 0, 0, 0, 14, 0, 0, 0, 0, 0, 0, 0, 1, 0, 0, 0, 0, 0, 0, 0, 4, 0, 0, 0, 0, 0, 0, 0, 176, 16, 0, 0, 0, 0, 0, 0, 5, 0, 0, 0, 0, 0, 0, 0, 16, 17, 0, 0, 0, 0, 0, 0, 10, 0, 0, 0, 0, 0, 0, 0, 8, 0, 0, 0, 0, 0, 0, 0, 6, 0, 0, 0, 0, 0, 0, 0, 200, 16, 0, 0, 0, 0, 0, 0, 11, 0, 0, 0, 0, 0, 0, 0, 24, 0, 0, 0, 0, 0, 0, 0, 7, 0, 0, 0, 0, 0, 0, 0, 248, 16, 0, 0, 0, 0, 0, 0, 8, 0, 0, 0, 0, 0, 0, 0, 24, 0, 0, 0, 0, 0, 0, 0, 9, 0, 0, 0, 0, 0, 0, 0, 24, 0, 0, 0, 0, 0, 0, 0, 0, 0, 0, 0, 0, 0, 0, 0, 0, 0, 0, 0, 0, 0, 0, 0, 1, 0, 0, 0, 2, 0, 0, 0, 1, 0, 0, 0, 0, 0, 0, 0, 0, 0, 0, 0, 0, 0, 0, 0, 0, 0, 0, 0, 0, 0, 0, 0, 0, 0, 0, 0, 0, 0, 0, 0, 0, 0, 0, 0, 0, 0, 0, 0, 1, 0, 0, 0, 16, 0, 1, 0, 77, 0, 0, 0, 0, 0, 0, 0, 5, 0, 0, 0, 0, 0, 0, 0, 8, 16, 0, 0, 0, 0, 0, 0, 1, 0, 0, 0, 1, 0, 0, 0, 255, 255, 255, 255, 255, 255, 255, 255, 0, 97, 0, 98, 0, 0, 0, 0]
set_option maxRecDepth 1000000 in
theorem plB_eq : plB 35 = plLit := by kernel_rfl
set_option maxRecDepth 1000000 in
theorem pl_parse : parse plLit plSegs = (⟨[⟨#[98]⟩], ⟨#[97]⟩, ⟨#[]⟩, [⟨⟨#[97]⟩, 77, 5, 1, true⟩], [⟨4104, 1, 1, 18446744073709551615⟩]⟩, 0) := by kernel_rfl
set_option maxRecDepth 1000000 in
theorem pl_look : look plLit plSegs ⟨#[97]⟩ = (0, true) := by kernel_rfl
set_option maxRecDepth 1000000 in
theorem pl_right : right plLit plSegs = true := by kernel_rfl
theorem pl_hash : hash [97] = 97 := by kernel_rfl
theorem pl_fit : ∀ s ∈ plSegs, SgFit s := by
  intro s hs
  unfold plSegs at hs
  simp only [List.mem_cons, List.not_mem_nil, or_false] at hs
  rcases hs with rfl | rfl <;> exact ⟨by decide, by decide, by decide, by decide, by decide, by decide⟩
end Dy
theorem own_cellI {w : World} {base g n c size i : Nat} {e : TypeId} {xs : List Value} {u : Value} (h : w.ownsRow base e size (.slice (some ⟨g, 0, none⟩) n c) n xs) (hi : xs[i]? = some u) : w.cell? ⟨g, i, none⟩ = some u := by
  obtain ⟨b, off, ea, -, hx⟩ := (Rd.of_own h).open_ (by intro e0; rw [e0] at hi; simp at hi)
  injection ea with ea
  injection ea with e1 e2
  subst e1 e2
  have := hx i u hi
  rwa [Nat.zero_add] at this
set_option maxRecDepth 100000 in
set_option maxHeartbeats 4000000 in
theorem works13_any (w : World) : Calls Try.prog 8 #[] w fun e w' => e = .returned (.bool true) ∧ Below w.heap.size w w' := by
  have KP := hide (plain13_any w)
  have ad1 : IntKind.i64.wrap ((18446744073709551615 : Nat) : Int) = -1 := by rw [IntKind.wrap_i64]; rfl
  have Had := hide ad1
  clear ad1
  go_enter Try.func8, Try.ntmps8
  go_wp2_with fail
  refine (unhide KP).mono ?_
  rintro e w1 ⟨A, c, g, rfl, hrb, hrs, hc, hb1⟩
  rw [Dy.plB_eq] at hrb
  have bH : Below w1.heap.size w1 (w1.alloc (.cells #[.int .u16 3, .int .u64 0, .int .u64 0, .slice (some ⟨g, 0, none⟩) 2 2] 27)) := (Below.refl _ _).alloc (Nat.le_refl _) _
  have HB1 : Hid (Below w.heap.size w (w1.alloc (.cells #[.int .u16 3, .int .u64 0, .int .u64 0, .slice (some ⟨g, 0, none⟩) 2 2] 27))) := hide (hb1.trans (bH.mono hb1.size))
  have HH1 : Hid (Blk (w1.alloc (.cells #[.int .u16 3, .int .u64 0, .int .u64 0, .slice (some ⟨g, 0, none⟩) 2 2] 27)) w1.heap.size 27 [.int .u16 3, .int .u64 0, .int .u64 0, .slice (some ⟨g, 0, none⟩) 2 2]) := hide (Blk.new w1 27 [.int .u16 3, .int .u64 0, .int .u64 0, .slice (some ⟨g, 0, none⟩) 2 2])
  have z0 := (unhide HH1).cell (i := 0) rfl
  have z1 := (unhide HH1).cell (i := 1) rfl
  have z2 := (unhide HH1).cell (i := 2) rfl
  have z3 := (unhide HH1).cell (i := 3) rfl
  have e1 : (w1.alloc (.cells #[.int .u16 3, .int .u64 0, .int .u64 0, .slice (some ⟨g, 0, none⟩) 2 2] 27)).heap.size = w1.heap.size + 1 := by simp
  have KQ := dparse_any A 280 c w1.heap.size Dy.plLit 3 0 0 (some ⟨g, 0, none⟩) 2 2 Dy.plSegs (w1.alloc (.cells #[.int .u16 3, .int .u64 0, .int .u64 0, .slice (some ⟨g, 0, none⟩) 2 2] 27)) (by rw [e1]; omega) (hrb.below bH) (hrs.below bH) (by omega) (by omega) hc Dy.pl_fit
  have KL := fun (w' : World) (hb : Below w1.heap.size w1 w') => look_any A 280 c w1.heap.size Dy.plLit 3 0 0 (some ⟨g, 0, none⟩) 2 2 Dy.plSegs ⟨#[97]⟩ w' hb.size (hrb.below hb) (hrs.below hb) (by omega) (by omega) hc Dy.pl_fit (by decide)
  have KR := fun (w' : World) (hb : Below w1.heap.size w1 w') => right_any A 280 c w1.heap.size Dy.plLit 3 0 0 (some ⟨g, 0, none⟩) 2 2 Dy.plSegs w' hb.size (hrb.below hb) (hrs.below hb) (by omega) (by omega) hc Dy.pl_fit
  have KH := fun (w' : World) => hash_any ⟨#[97]⟩ w' (by decide)
  rw [Dy.pl_look] at KL
  rw [Dy.pl_right] at KR
  rw [show Dy.hash (⟨#[97]⟩ : ByteArray).data.toList = 97 from Dy.pl_hash] at KH
  unfold ParseE at KQ
  rw [Dy.pl_parse] at KQ
  have kl : ∀ (w' : World) (hb : Below w1.heap.size w1 w'), Calls Try.prog 10 #[.slice A 280 c, .agg #[.int .u16 3, .int .u64 0, .int .u64 0, .slice (some ⟨g, 0, none⟩) 2 2], .string ⟨#[97]⟩] w' (fun e w2 => e = .returned (.tuple #[.int .i64 0, .bool true]) ∧ Below w'.heap.size w' w2) := KL
  have kh : ∀ (w' : World), Calls Try.prog 12 #[.string ⟨#[97]⟩] w' (fun e w2 => e = .returned (.int .u32 97) ∧ Below w'.heap.size w' w2) := KH
  have HKQ := hide KQ
  have HKL := hide kl
  have HKR := hide KR
  have HKH := hide kh
  have HbH := hide bH
  clear KP KQ KL KR KH kl kh hrb hrs hb1 bH e1
  go_wp2_with fail
  refine (unhide HKQ).mono ?_
  rintro e w2 ⟨hb2, A1, c1, A2, c2, A3, c3, rfl, hdy⟩
  dsimp only [List.length_cons, List.length_nil] at hdy ⊢
  obtain ⟨h1, h2, h3⟩ := hdy
  obtain ⟨g1, rfl, -, -⟩ := own_some h1 (by simp)
  obtain ⟨g2, rfl, -, -⟩ := own_some h2 (by simp)
  obtain ⟨g3, rfl, -, -⟩ := own_some h3 (by simp)
  have bD : Below w2.heap.size w2 (w2.alloc (.cells #[.slice (some ⟨g1, 0, none⟩) 1 c1, .string ⟨#[97]⟩, .string ⟨#[]⟩, .slice (some ⟨g2, 0, none⟩) 1 c2, .slice (some ⟨g3, 0, none⟩) 1 c3] 41)) := (Below.refl _ _).alloc (Nat.le_refl _) _
  have HB2 : Hid (Below w.heap.size w (w2.alloc (.cells #[.slice (some ⟨g1, 0, none⟩) 1 c1, .string ⟨#[97]⟩, .string ⟨#[]⟩, .slice (some ⟨g2, 0, none⟩) 1 c2, .slice (some ⟨g3, 0, none⟩) 1 c3] 41))) := hide (((unhide HB1).trans (hb2.mono (unhide HB1).size)).alloc ((unhide HB1).trans (hb2.mono (unhide HB1).size)).size _)
  have HbD : Hid (Below w1.heap.size w1 (w2.alloc (.cells #[.slice (some ⟨g1, 0, none⟩) 1 c1, .string ⟨#[97]⟩, .string ⟨#[]⟩, .slice (some ⟨g2, 0, none⟩) 1 c2, .slice (some ⟨g3, 0, none⟩) 1 c3] 41))) := hide (((unhide HbH).trans (hb2.mono (unhide HbH).size)).alloc ((unhide HbH).trans (hb2.mono (unhide HbH).size)).size _)
  have HH2 : Hid (Blk (w2.alloc (.cells #[.slice (some ⟨g1, 0, none⟩) 1 c1, .string ⟨#[97]⟩, .string ⟨#[]⟩, .slice (some ⟨g2, 0, none⟩) 1 c2, .slice (some ⟨g3, 0, none⟩) 1 c3] 41)) w1.heap.size 27 [.int .u16 3, .int .u64 0, .int .u64 0, .slice (some ⟨g, 0, none⟩) 2 2]) := hide (((unhide HH1).belowSz hb2).alloc _)
  have HD2 : Hid (Blk (w2.alloc (.cells #[.slice (some ⟨g1, 0, none⟩) 1 c1, .string ⟨#[97]⟩, .string ⟨#[]⟩, .slice (some ⟨g2, 0, none⟩) 1 c2, .slice (some ⟨g3, 0, none⟩) 1 c3] 41)) w2.heap.size 41 [.slice (some ⟨g1, 0, none⟩) 1 c1, .string ⟨#[97]⟩, .string ⟨#[]⟩, .slice (some ⟨g2, 0, none⟩) 1 c2, .slice (some ⟨g3, 0, none⟩) 1 c3]) := hide (Blk.new w2 41 [.slice (some ⟨g1, 0, none⟩) 1 c1, .string ⟨#[97]⟩, .string ⟨#[]⟩, .slice (some ⟨g2, 0, none⟩) 1 c2, .slice (some ⟨g3, 0, none⟩) 1 c3])
  have HC2 : Hid (∀ W, Below (w2.alloc (.cells #[.slice (some ⟨g1, 0, none⟩) 1 c1, .string ⟨#[97]⟩, .string ⟨#[]⟩, .slice (some ⟨g2, 0, none⟩) 1 c2, .slice (some ⟨g3, 0, none⟩) 1 c3] 41)).heap.size (w2.alloc (.cells #[.slice (some ⟨g1, 0, none⟩) 1 c1, .string ⟨#[97]⟩, .string ⟨#[]⟩, .slice (some ⟨g2, 0, none⟩) 1 c2, .slice (some ⟨g3, 0, none⟩) 1 c3] 41)) W → Blk W w1.heap.size 27 [.int .u16 3, .int .u64 0, .int .u64 0, .slice (some ⟨g, 0, none⟩) 2 2] ∧ Blk W w2.heap.size 41 [.slice (some ⟨g1, 0, none⟩) 1 c1, .string ⟨#[97]⟩, .string ⟨#[]⟩, .slice (some ⟨g2, 0, none⟩) 1 c2, .slice (some ⟨g3, 0, none⟩) 1 c3] ∧ Below w.heap.size w W ∧ Below w1.heap.size w1 W ∧ W.cell? ⟨g1, 0, none⟩ = some (.string ⟨#[98]⟩) ∧ W.cell? ⟨g2, 1, none⟩ = some (.int .u64 77) ∧ W.cell? ⟨g3, 3, none⟩ = some (.int .i64 (-1))) := hide (by
    intro W hW
    refine ⟨(unhide HH2).belowSz hW, (unhide HD2).belowSz hW, (unhide HB2).trans (hW.mono (unhide HB2).size), (unhide HbD).trans (hW.mono (unhide HbD).size), ?_, ?_, ?_⟩
    · exact own_cellI (i := 0) (own_below (own_below h1 bD) hW) rfl
    · exact own_cellI (i := 1) (own_below (own_below h2 bD) hW) rfl
    · have := own_cellI (i := 3) (u := .int .i64 (adI 18446744073709551615)) (own_below (own_below h3 bD) hW) rfl
      unfold adI at this
      rw [unhide Had] at this
      exact this)
  have y0 := (unhide HH2).cell (i := 0) rfl
  have y1 := (unhide HH2).cell (i := 1) rfl
  have y2 := (unhide HH2).cell (i := 2) rfl
  have y3 := (unhide HH2).cell (i := 3) rfl
  clear hb2 h1 h2 h3 bD HB1 HH1 HKQ HbH z0 z1 z2 z3 Had
  go_wp2_with fail
  refine ((unhide HKL) _ (unhide HbD)).mono ?_
  rintro e w3 ⟨rfl, hb3⟩
  obtain ⟨q1, q2, q3, q4, q5, q6, q7⟩ := (unhide HC2) w3 hb3
  have HB3 := hide q3
  have HB4 := hide q4
  have x0 := q1.cell (i := 0) rfl
  have x1 := q1.cell (i := 1) rfl
  have x2 := q1.cell (i := 2) rfl
  have x3 := q1.cell (i := 3) rfl
  have d0 := q2.cell (i := 0) rfl
  have d1 := q2.cell (i := 1) rfl
  have d3 := q2.cell (i := 3) rfl
  have d4 := q2.cell (i := 4) rfl
  clear q1 q2 q3 q4 hb3 HC2 HB2 HbD HH2 HD2 HKL y0 y1 y2 y3
  go_wp2_with fail
  refine ((unhide HKR) _ (unhide HB4)).mono ?_
  rintro e w4 ⟨rfl, hb4⟩
  have HB5 := hide ((unhide HB3).trans (hb4.mono (unhide HB3).size))
  clear hb4 HKR
  go_wp2_with fail
  refine ((unhide HKH) w4).mono ?_
  rintro e w5 ⟨rfl, hb5⟩
  go_wp2_with fail
  go_ret
  exact ⟨rfl, (unhide HB5).trans (hb5.mono (unhide HB5).size)⟩
end Go.Proofs.Ytdminnhfgdoibaa
namespace Go.Proofs.Ytdminnhfgdoibaa
set_option linter.unusedVariables false
set_option linter.unusedSimpArgs false
open Go.RowKit

theorem take_ext {α : Type} {xs ys : List α} {k : Nat} {x : α} (h : xs.take k = ys.take k) (hx : xs[k]? = some x) (hy : ys[k]? = some x) : xs.take (k + 1) = ys.take (k + 1) := by
  rw [List.take_add_one, List.take_add_one, h, hx, hy]

set_option maxHeartbeats 1000000 in
theorem eqTexts_any (A B : Option Addr) (n m c d K : Nat) (xs ys : List ByteArray) (w : World) (ha : Rd w K 1 A n (xs.map Value.string)) (hb : Rd w K 1 B m (ys.map Value.string)) (hn : n ≤ maxLen) (hm : m ≤ maxLen) :
    Calls Try.prog 39 #[.slice A n c, .slice B m d] w fun e w' => e = .returned (.bool (decide (xs = ys))) ∧ ∃ j, w' = w.drewN j := by
  have hxl : xs.length = n := by simpa using ha.len1
  have hyl : ys.length = m := by simpa using hb.len1
  unfold maxLen at hn hm
  have Hxl := hide hxl
  have Hyl := hide hyl
  have Ha := hide ha
  have Hb := hide hb
  clear hxl hyl ha hb
  go_enter Try.func39, Try.ntmps39
  go_wp2
  go_loopw [5] (fun at_ wr => ∃ k j : Nat, at_ = .int .i64 k ∧ k ≤ n ∧ k ≤ m ∧ xs.take k = ys.take k ∧ wr = w.drewN j) (fun at_ _ => n - (intOf at_).toNat)
  case atStart => exact ⟨0, 0, rfl, Nat.zero_le _, Nat.zero_le _, rfl, rfl⟩
  case round =>
    obtain ⟨k, j, rfl, hkn, hkm, htk, rfl⟩ := hrel
    have Htk := hide htk
    clear htk
    by_cases h1 : k < n
    · have d1 : decide (k < n) = true := by simpa using h1
      have i1 : (k : Int) < (n : Int) := by omega
      by_cases h2 : k < m
      · have d2 : decide (k < m) = true := by simpa using h2
        have i2 : (k : Int) < (m : Int) := by omega
        obtain ⟨x, hx⟩ : ∃ x, xs[k]? = some x := ⟨_, List.getElem?_eq_getElem (by rw [unhide Hxl]; exact h1)⟩
        obtain ⟨y, hy⟩ : ∃ y, ys[k]? = some y := ⟨_, List.getElem?_eq_getElem (by rw [unhide Hyl]; exact h2)⟩
        obtain ⟨b1, o1, rfl, _, c1⟩ := (unhide Ha).at_ (k := k) (u := .string x) (by simp [hx])
        obtain ⟨b2, o2, rfl, _, c2⟩ := (unhide Hb).at_ (k := k) (u := .string y) (by simp [hy])
        have Hx := hide hx
        have Hy := hide hy
        have hbq := beq_toList x y
        clear hx hy
        by_cases he : x = y
        · have q : (x.toList == y.toList) = true := by rw [hbq]; simpa using he
          subst he
          clear hbq
          go_wp2
          go_quiet (fail)
          go_wp2
          go_round
          case rel => exact ⟨k + 1, j + nq, by go_num, by omega, by omega, take_ext (unhide Htk) (unhide Hx) (unhide Hy), rfl⟩
          case measure => simp [intOf]; omega
        · have q : (x.toList == y.toList) = false := by rw [hbq]; simpa using he
          have He := hide he
          clear hbq he
          go_wp2
          go_quiet (fail)
          go_wp2
          go_ret
          refine ⟨ret_bool ?_, _, rfl⟩
          symm
          simp only [decide_eq_false_iff_not]
          rintro rfl
          exact unhide He (Option.some.inj ((unhide Hx).symm.trans (unhide Hy)))
      · have d2 : decide (k < m) = false := by simpa using h2
        go_wp2
        go_quiet (fail)
        go_wp2
        go_ret
        refine ⟨ret_bool ?_, _, rfl⟩
        symm
        simp only [decide_eq_false_iff_not]
        rintro rfl
        have := unhide Hxl
        have := unhide Hyl
        omega
    · have d1 : decide (k < n) = false := by simpa using h1
      go_wp2
      go_quiet (fail)
      go_wp2
      go_ret
      refine ⟨ret_bool ?_, _, rfl⟩
      have hl1 := unhide Hxl
      have hl2 := unhide Hyl
      rw [Bool.eq_iff_iff, beq_iff_eq, decide_eq_true_eq]
      constructor
      · intro e
        have e' := unhide Htk
        rwa [List.take_of_length_le (by omega), List.take_of_length_le (by omega)] at e'
      · rintro rfl
        omega

end Go.Proofs.Ytdminnhfgdoibaa
namespace Go.Proofs.Ytdminnhfgdoibaa
set_option linter.unusedVariables false
set_option linter.unusedSimpArgs false
open Go.RowKit

set_option maxRecDepth 100000 in
set_option maxHeartbeats 2000000 in
theorem same0_any (A1 A2 A3 : Option Addr) (c1 c2 c3 : Nat) (w : World) : Calls Try.prog 19 #[.agg #[.slice A1 0 c1, .string ⟨#[]⟩, .string ⟨#[]⟩, .slice A2 0 c2, .slice A3 0 c3], .agg #[.slice none 0 0, .string ⟨#[]⟩, .string ⟨#[]⟩, .slice none 0 0, .slice none 0 0]] w fun e w' => e = .returned (.bool true) ∧ Below w.heap.size w w' := by
  have e1 : (w.alloc (.cells #[.slice A1 0 c1, .string ⟨#[]⟩, .string ⟨#[]⟩, .slice A2 0 c2, .slice A3 0 c3] 41)).heap.size = w.heap.size + 1 := by simp
  have hB : Below w.heap.size w ((w.alloc (.cells #[.slice A1 0 c1, .string ⟨#[]⟩, .string ⟨#[]⟩, .slice A2 0 c2, .slice A3 0 c3] 41)).alloc (.cells #[.slice none 0 0, .string ⟨#[]⟩, .string ⟨#[]⟩, .slice none 0 0, .slice none 0 0] 41)) := ((Below.refl _ _).alloc (Nat.le_refl _) _).alloc (by rw [e1]; omega) _
  have hx := (Blk.new w 41 [.slice A1 0 c1, .string ⟨#[]⟩, .string ⟨#[]⟩, .slice A2 0 c2, .slice A3 0 c3]).alloc (.cells #[.slice none 0 0, .string ⟨#[]⟩, .string ⟨#[]⟩, .slice none 0 0, .slice none 0 0] 41)
  have hy := Blk.new (w.alloc (.cells #[.slice A1 0 c1, .string ⟨#[]⟩, .string ⟨#[]⟩, .slice A2 0 c2, .slice A3 0 c3] 41)) 41 [.slice none 0 0, .string ⟨#[]⟩, .string ⟨#[]⟩, .slice none 0 0, .slice none 0 0]
  rw [e1] at hy
  obtain ⟨x0, x1, x2, x3, x4⟩ := And.intro (hx.cell (i := 0) rfl) (And.intro (hx.cell (i := 1) rfl) (And.intro (hx.cell (i := 2) rfl) (And.intro (hx.cell (i := 3) rfl) (hx.cell (i := 4) rfl))))
  obtain ⟨y0, y1, y2, y3, y4⟩ := And.intro (hy.cell (i := 0) rfl) (And.intro (hy.cell (i := 1) rfl) (And.intro (hy.cell (i := 2) rfl) (And.intro (hy.cell (i := 3) rfl) (hy.cell (i := 4) rfl))))
  have KE := hide (eqTexts_any A1 none 0 0 c1 0 0 [] [] ((w.alloc (.cells #[.slice A1 0 c1, .string ⟨#[]⟩, .string ⟨#[]⟩, .slice A2 0 c2, .slice A3 0 c3] 41)).alloc (.cells #[.slice none 0 0, .string ⟨#[]⟩, .string ⟨#[]⟩, .slice none 0 0, .slice none 0 0] 41)) (Rd.none_ _ _ _ _) (Rd.none_ _ _ _ _) (Nat.zero_le _) (Nat.zero_le _))
  have HX := hide hx
  have HY := hide hy
  have HB := hide hB
  clear hx hy hB e1
  go_enter Try.func19, Try.ntmps19
  go_wp2_with fail
  refine (unhide KE).mono ?_
  rintro e w1 ⟨rfl, j, rfl⟩
  have hx := (unhide HX).drewN j
  have hy := (unhide HY).drewN j
  have hb := below_drewN' (unhide HB) j
  obtain ⟨V, hV⟩ : ∃ V, ((w.alloc (.cells #[.slice A1 0 c1, .string ⟨#[]⟩, .string ⟨#[]⟩, .slice A2 0 c2, .slice A3 0 c3] 41)).alloc (.cells #[.slice none 0 0, .string ⟨#[]⟩, .string ⟨#[]⟩, .slice none 0 0, .slice none 0 0] 41)).drewN j = V := ⟨_, rfl⟩
  rw [hV] at hx hy hb
  rw [hV]
  clear x0 x1 x2 x3 x4 y0 y1 y2 y3 y4 hV HX HY HB KE
  obtain ⟨x3, x4⟩ := And.intro (hx.cell (i := 3) rfl) (hx.cell (i := 4) rfl)
  obtain ⟨y3, y4⟩ := And.intro (hy.cell (i := 3) rfl) (hy.cell (i := 4) rfl)
  have HB := hide hb
  clear hx hy hb
  go_wp2_with fail
  go_loopg [5] 0 (fun gk iv wr => gk = 0 ∧ iv = .int .i64 0 ∧ V = wr)
  case atStart => exact ⟨rfl, rfl, rfl⟩
  case round =>
  obtain ⟨hgk, rfl, rfl⟩ := hrel
  go_wp2_with fail
  go_loopg [6] 0 (fun gk iv wr => gk = 0 ∧ iv = .int .i64 0 ∧ V = wr)
  case atStart => exact ⟨rfl, rfl, rfl⟩
  case round =>
  obtain ⟨hgk, rfl, rfl⟩ := hrel
  go_wp2_with fail
  go_ret
  exact ⟨rfl, unhide HB⟩
/-- The segments without dynamic ones. -/
def Dy.nos (segs : List El.Sg) (k : Nat) : List El.Sg := (segs.take k).filter fun s => s.kind != 2
theorem nos_yes {segs : List El.Sg} {k : Nat} {s : El.Sg} (h : segs[k]? = some s) (h2 : ¬ s.kind = 2) : Dy.nos segs (k + 1) = Dy.nos segs k ++ [s] := by
  unfold Dy.nos
  rw [List.take_add_one, h, List.filter_append]
  congr 1
  simp [h2]
theorem nos_no {segs : List El.Sg} {k : Nat} {s : El.Sg} (h : segs[k]? = some s) (h2 : s.kind = 2) : Dy.nos segs (k + 1) = Dy.nos segs k := by
  unfold Dy.nos
  rw [List.take_add_one, h, List.filter_append]
  simp [h2]
theorem nos_parse {b : List UInt8} {segs : List El.Sg} {k : Nat} : Dy.open_ b (Dy.nos segs k) = (0, none) ∧ Dy.parse b (Dy.nos segs k) = (Dy.zero, 0) := by
  have h : Dy.open_ b (Dy.nos segs k) = (0, none) := open_none (by
    rw [List.find?_eq_none]
    intro s hs
    unfold Dy.nos at hs
    have := (List.mem_filter.1 hs).2
    simpa using this)
  exact ⟨h, Dy.parse_no h⟩
theorem nos_look {b : List UInt8} {segs : List El.Sg} {k : Nat} (name : ByteArray) : Dy.look b (Dy.nos segs k) name = (0, false) := by
  unfold Dy.look
  rw [nos_parse.1, nos_parse.2]
  rfl
theorem nos_right {b : List UInt8} {segs : List El.Sg} {k : Nat} : Dy.right b (Dy.nos segs k) = true := by
  unfold Dy.right
  rw [nos_parse.1, nos_parse.2]
  rfl
/-- Where the law stands: the head, and the one that is laid. -/
structure NnM (W wr : World) (g : Nat) (hv : List Value) (segs : List El.Sg) (k : Nat) (Ag : Option Addr) (m cg : Nat) : Prop where
  bel : Below W.heap.size W wr
  hd : Blk wr W.heap.size 27 hv
  gb : Blk wr g 27 [.int .u16 0, .int .u64 0, .int .u64 0, .slice Ag m cg]
  row : wr.ownsRow (g + 1) 52 6 (.slice Ag m cg) m (segCells (Dy.nos segs k))
  n : (Dy.nos segs k).length = m
  m : m ≤ k
section
variable {W wr w2 : World} {g k m cg : Nat} {hv : List Value} {segs : List El.Sg} {Ag : Option Addr}
theorem NnM.belowSz (h : NnM W wr g hv segs k Ag m cg) (hb : Below wr.heap.size wr w2) : NnM W w2 g hv segs k Ag m cg := ⟨h.bel.trans (hb.mono h.bel.size), h.hd.belowSz hb, h.gb.belowSz hb, own_below h.row hb, h.n, h.m⟩
theorem NnM.skip (h : NnM W wr g hv segs k Ag m cg) {s : El.Sg} (hs : segs[k]? = some s) (h2 : s.kind = 2) : NnM W wr g hv segs (k + 1) Ag m cg := ⟨h.bel, h.hd, h.gb, by rw [nos_no hs h2]; exact h.row, by rw [nos_no hs h2]; exact h.n, Nat.le_succ_of_le h.m⟩
theorem NnM.grown (h : NnM W wr g hv segs k Ag m cg) (hgW : W.heap.size < g) (hg : wr.grownBy w2 (Value.slice Ag m cg).ownBlock) : Below W.heap.size W w2 ∧ Blk w2 W.heap.size 27 hv ∧ Blk w2 g 27 [.int .u16 0, .int .u64 0, .int .u64 0, .slice Ag m cg] :=
  ⟨h.bel.grown hg h.bel.size (fun q hq => by have := (h.row.lt q hq).1; omega), (hg.block _ h.hd.lt (fun e => by have := (h.row.lt _ e.symm).1; omega)).trans h.hd, (hg.block _ h.gb.lt (fun e => by have := (h.row.lt _ e.symm).1; omega)).trans h.gb⟩
theorem NnM.push {A' : Option Addr} {c' : Nat} (h : NnM W wr g hv segs k Ag m cg) (hgW : W.heap.size < g) {s : El.Sg} (hs : segs[k]? = some s) (h2 : ¬ s.kind = 2) (ho : w2.ownsRow (g + 1) 52 6 (.slice A' (m + 1) c') (m + 1) (segCells (Dy.nos segs k) ++ [.int .u32 (s.kind : Nat), .int .u8 (s.flags : Nat), .int .u64 (s.off : Nat), .int .u64 (s.addr : Nat), .int .u64 (s.fsz : Nat), .int .u64 (s.msz : Nat)])) (hg : wr.grownBy w2 (Value.slice Ag m cg).ownBlock) :
    NnM W (w2.setCell ⟨g, 3, none⟩ (.slice A' (m + 1) c')) g hv segs (k + 1) A' (m + 1) c' := by
  obtain ⟨h1, h3, h4⟩ := h.grown hgW hg
  refine ⟨h1.setCell (p := ⟨g, 3, none⟩) (by dsimp only; omega) _, h3.other (by dsimp only; omega) _, h4.set 3 _, ?_, ?_, Nat.succ_le_succ h.m⟩
  · rw [nos_yes hs h2, segCells_snoc]
    exact own_setOB ho (Nat.lt_succ_self _) _
  · rw [nos_yes hs h2, List.length_append, h.n]
    rfl
end

set_option maxRecDepth 100000 in
set_option maxHeartbeats 8000000 in
theorem none_any (A : Option Addr) (n c : Nat) (b : List UInt8) (ty en ph : Int) (As : Option Addr) (ns cs : Nat) (segs : List El.Sg) (name : ByteArray) (W : World) (hb : Rd W W.heap.size 1 A n (bys b)) (hs : Rd W W.heap.size 6 As ns (segCells segs)) (hn : n ≤ maxLen) (hns : ns ≤ maxLen) (hc : n ≤ c) (hfit : ∀ s ∈ segs, SgFit s) (hname : name.size ≤ maxLen) :
    Calls Try.prog 6 #[.slice A n c, .agg #[.int .u16 ty, .int .u64 en, .int .u64 ph, .slice As ns cs], .string name] W fun e w' => e = .returned (.bool true) ∧ Below W.heap.size W w' := by
  have hsl : segs.length = ns := by have := hs.1; rw [segCells_len] at this; omega
  have hB0 : Below W.heap.size W (W.alloc (.cells #[.int .u16 ty, .int .u64 en, .int .u64 ph, .slice As ns cs] 27)) := (Below.refl _ _).alloc (Nat.le_refl _) _
  have hH0 := Blk.new W 27 [.int .u16 ty, .int .u64 en, .int .u64 ph, .slice As ns cs]
  have KLg := hide (large13_any A n c ty en ph As ns cs (W.alloc (.cells #[.int .u16 ty, .int .u64 en, .int .u64 ph, .slice As ns cs] 27)) hn hns)
  have z0 := hH0.cell (i := 0) rfl
  have z1 := hH0.cell (i := 1) rfl
  have z2 := hH0.cell (i := 2) rfl
  have z3 := hH0.cell (i := 3) rfl
  have hwk := fun (w' : World) => works13_any w'
  have HWk := hide hwk
  have HB0 := hide hB0
  have HH0 := hide hH0
  have Hr := hide hb
  have Hs := hide hs
  have Hfit := hide hfit
  have Hsl := hide hsl
  unfold maxLen at hname hn hns
  clear hb hs hfit hsl hB0 hH0 hwk
  go_enter Try.func6, Try.ntmps6
  go_wp2_with fail
  refine (unhide KLg).mono ?_
  rintro e w1 ⟨r, rfl, hb1, hr⟩
  have HB1 := hide ((unhide HB0).trans (hb1.mono (unhide HB0).size))
  have HH1 := hide ((unhide HH0).belowSz hb1)
  clear hb1 HB0 HH0 KLg z0 z1 z2 z3
  cases r
  case true =>
    clear hr
    go_wp2_with fail
    refine ((unhide HWk) _).mono ?_
    rintro e w2 ⟨rfl, hb2⟩
    go_wp2_with fail
    go_ret
    exact ⟨rfl, (unhide HB1).trans (hb2.mono (unhide HB1).size)⟩
  obtain ⟨hn7, hns8⟩ := hr rfl
  clear hr
  by_cases hlong : 65536 < name.size
  case pos =>
    have hI : (65536 : Int) < (name.size : Int) := by omega
    go_wp2_with fail
    refine ((unhide HWk) _).mono ?_
    rintro e w2 ⟨rfl, hb2⟩
    go_wp2_with fail
    go_ret
    exact ⟨rfl, (unhide HB1).trans (hb2.mono (unhide HB1).size)⟩
  have hI : ¬ (65536 : Int) < (name.size : Int) := by omega
  obtain ⟨g, hg⟩ : ∃ g, w1.heap.size = g := ⟨_, rfl⟩
  have hgW : W.heap.size < g := by rw [← hg]; exact (unhide HH1).lt
  have HN1 : Hid (NnM W (w1.alloc (.cells #[.int .u16 0, .int .u64 0, .int .u64 0, .slice none 0 0] 27)) g [.int .u16 ty, .int .u64 en, .int .u64 ph, .slice As ns cs] segs 0 none 0 0) := hide ⟨(unhide HB1).alloc (unhide HB1).size _, (unhide HH1).alloc _, by rw [← hg]; exact Blk.new w1 27 [.int .u16 0, .int .u64 0, .int .u64 0, .slice none 0 0], World.ownsRow_nil _ _ _ _, rfl, Nat.le_refl _⟩
  clear HB1 HH1
  go_wp2_with fail
  go_loopg [8] ns (fun gk iv wr => ∃ (k : Nat) (Ag : Option Addr) (m cg : Nat), gk = ns - k ∧ k ≤ ns ∧ iv = .int .i64 k ∧ NnM W wr g [.int .u16 ty, .int .u64 en, .int .u64 ph, .slice As ns cs] segs k Ag m cg)
  case atStart => exact ⟨0, none, 0, 0, rfl, Nat.zero_le _, rfl, unhide HN1⟩
  case round =>
  obtain ⟨k, Ag, m, cg, hgk, hk, rfl, hnn⟩ := hrel
  have HN := hide hnn
  have z3 := hnn.hd.cell (i := 3) rfl
  clear hnn HN1
  by_cases hlt : k < ns
  case neg =>
    obtain rfl : k = ns := by omega
    have ige : ¬ (k : Int) < (k : Int) := by omega
    have hN := unhide HN
    have hRb := ((unhide Hr).below hN.bel).more hN.bel.size
    have hRs : Rd wr wr.heap.size 6 Ag m (segCells (Dy.nos segs k)) := Rd.of_own hN.row
    have hf2 : ∀ s ∈ Dy.nos segs k, SgFit s := fun s h => (unhide Hfit) s (List.mem_of_mem_take (List.mem_filter.1 h).1)
    have hmk := hN.m
    have KP := fun (w' : World) (h : Below wr.heap.size wr w') => dparse_any A n c w'.heap.size b 0 0 0 Ag m cg (Dy.nos segs k) w' (Nat.le_refl _) (hRb.belowSz h) (hRs.belowSz h) (by omega) (by omega) hc hf2
    have KL := fun (w' : World) (h : Below wr.heap.size wr w') => look_any A n c w'.heap.size b 0 0 0 Ag m cg (Dy.nos segs k) name w' (Nat.le_refl _) (hRb.belowSz h) (hRs.belowSz h) (by omega) (by omega) hc hf2 (by omega)
    have KR := fun (w' : World) (h : Below wr.heap.size wr w') => right_any A n c w'.heap.size b 0 0 0 Ag m cg (Dy.nos segs k) w' (Nat.le_refl _) (hRb.belowSz h) (hRs.belowSz h) (by omega) (by omega) hc hf2
    rw [nos_look] at KL
    rw [nos_right] at KR
    unfold ParseE at KP
    rw [nos_parse.2] at KP
    have kl : ∀ (w' : World) (hb : Below wr.heap.size wr w'), Calls Try.prog 10 #[.slice A n c, .agg #[.int .u16 0, .int .u64 0, .int .u64 0, .slice Ag m cg], .string name] w' (fun e w2 => e = .returned (.tuple #[.int .i64 0, .bool false]) ∧ Below w'.heap.size w' w2) := KL
    have g0 := hN.gb.cell (i := 0) rfl
    have g1 := hN.gb.cell (i := 1) rfl
    have g2 := hN.gb.cell (i := 2) rfl
    have g3 := hN.gb.cell (i := 3) rfl
    have HKP := hide (KP wr (Below.refl _ _))
    have HKL := hide kl
    have HKR := hide KR
    clear hN hRb hRs hf2 KP KL KR kl Hr Hs Hfit
    go_wp2_with fail
    refine (unhide HKP).mono ?_
    rintro e w2 ⟨hb2, A1, c1, A2, c2, A3, c3, rfl, hdy⟩
    have b3 : Below w2.heap.size w2 (w2.alloc (.cells #[.slice A1 0 c1, .string ⟨#[]⟩, .string ⟨#[]⟩, .slice A2 0 c2, .slice A3 0 c3] 41)) := (Below.refl _ _).alloc (Nat.le_refl _) _
    have HN3 := hide (((unhide HN).belowSz hb2).belowSz b3)
    have HB3 := hide (hb2.trans (b3.mono hb2.size))
    have HD3 : Hid (Blk (w2.alloc (.cells #[.slice A1 0 c1, .string ⟨#[]⟩, .string ⟨#[]⟩, .slice A2 0 c2, .slice A3 0 c3] 41)) w2.heap.size 41 [.slice A1 0 c1, .string ⟨#[]⟩, .string ⟨#[]⟩, .slice A2 0 c2, .slice A3 0 c3]) := hide (Blk.new w2 41 [.slice A1 0 c1, .string ⟨#[]⟩, .string ⟨#[]⟩, .slice A2 0 c2, .slice A3 0 c3])
    have e2 : Dy.zero.needed.length = 0 := rfl
    have e3 : Dy.zero.syms.length = 0 := rfl
    have e4 : Dy.zero.relas.length = 0 := rfl
    have e5 : Dy.zero.soname = ⟨#[]⟩ := rfl
    have e6 : Dy.zero.run = ⟨#[]⟩ := rfl
    dsimp only
    rw [e2, e3, e4, e5, e6]
    have k0 := (unhide HN3).gb.cell (i := 0) rfl
    have k1 := (unhide HN3).gb.cell (i := 1) rfl
    have k2 := (unhide HN3).gb.cell (i := 2) rfl
    have k3 := (unhide HN3).gb.cell (i := 3) rfl
    clear hb2 hdy b3 HN HKP g0 g1 g2 g3 e2 e3 e4 e5 e6 z3
    go_wp2_with fail
    refine ((unhide HKL) _ (unhide HB3)).mono ?_
    rintro e w4 ⟨rfl, hb4⟩
    have HN4 := hide ((unhide HN3).belowSz hb4)
    have HB4 := hide ((unhide HB3).trans (hb4.mono (unhide HB3).size))
    have hd4 := (unhide HD3).belowSz hb4
    have d0 := hd4.cell (i := 0) rfl
    have d1 := hd4.cell (i := 1) rfl
    have d2 := hd4.cell (i := 2) rfl
    have d3 := hd4.cell (i := 3) rfl
    have d4 := hd4.cell (i := 4) rfl
    have KS := hide (same0_any A1 A2 A3 c1 c2 c3 w4)
    clear hb4 hd4 HN3 HB3 HD3 HKL k0 k1 k2 k3
    go_wp2_with fail
    refine (unhide KS).mono ?_
    rintro e w5 ⟨rfl, hb5⟩
    have HN5 := hide ((unhide HN4).belowSz hb5)
    have HB5 := hide ((unhide HB4).trans (hb5.mono (unhide HB4).size))
    have k0 := (unhide HN5).gb.cell (i := 0) rfl
    have k1 := (unhide HN5).gb.cell (i := 1) rfl
    have k2 := (unhide HN5).gb.cell (i := 2) rfl
    have k3 := (unhide HN5).gb.cell (i := 3) rfl
    clear hb5 HN4 HB4 KS d0 d1 d2 d3 d4
    go_wp2_with fail
    refine ((unhide HKR) _ (unhide HB5)).mono ?_
    rintro e w6 ⟨rfl, hb6⟩
    have HN6 := hide ((unhide HN5).belowSz hb6)
    clear hb6 HN5 HB5 HKR k0 k1 k2 k3
    go_wp2_with fail
    refine ((unhide HWk) w6).mono ?_
    rintro e w7 ⟨rfl, hb7⟩
    go_wp2_with fail
    go_ret
    exact ⟨rfl, ((unhide HN6).belowSz hb7).bel⟩
  have ilt : (k : Int) < (ns : Int) := by omega
  obtain ⟨s, hsk⟩ : ∃ s, segs[k]? = some s := ⟨_, List.getElem?_eq_getElem (by rw [unhide Hsl]; exact hlt)⟩
  obtain ⟨b1, o1, hA1, hbb, c0, c1, c2, c3, c4, c5⟩ := seg_at ((unhide Hs).below (unhide HN).bel) hsk
  subst hA1
  by_cases hk2 : s.kind = 2
  case pos =>
    have hkI : (s.kind : Int) = 2 := by omega
    have HNx := hide ((unhide HN).skip hsk hk2)
    clear hsk hk2
    go_wp2_with fail
    go_roundg (ns - (k + 1))
    case measure => omega
    case rel => exact ⟨k + 1, Ag, m, cg, rfl, by omega, by go_num, unhide HNx⟩
  have hkI : ¬ (s.kind : Int) = 2 := by omega
  have HP := hide (fun (wq w2 : World) (A' : Option Addr) (c' : Nat) (h : NnM W wq g [.int .u16 ty, .int .u64 en, .int .u64 ph, .slice (some ⟨b1, o1, none⟩) ns cs] segs k Ag m cg) (ho : w2.ownsRow (g + 1) 52 6 (.slice A' (m + 1) c') (m + 1) (segCells (Dy.nos segs k) ++ [.int .u32 (s.kind : Nat), .int .u8 (s.flags : Nat), .int .u64 (s.off : Nat), .int .u64 (s.addr : Nat), .int .u64 (s.fsz : Nat), .int .u64 (s.msz : Nat)])) (hg : wq.grownBy w2 (Value.slice Ag m cg).ownBlock) => h.push hgW hsk hk2 ho hg)
  have HNd := hide ((unhide HN).belowSz (below_drew' (Below.refl _ _)))
  have Hbb := hide hbb
  have HSK : Hid (∀ w' : World, Below W.heap.size W w' → Blk w' W.heap.size 27 [.int .u16 ty, .int .u64 en, .int .u64 ph, .slice (some ⟨b1, o1, none⟩) ns cs] → (w'.cell? ⟨W.heap.size, 3, none⟩ = some (.slice (some ⟨b1, o1, none⟩) ns cs) ∧ w'.cell? ⟨b1, o1 + k * 6, none⟩ = some (.int .u32 (s.kind : Nat)) ∧ w'.cell? ⟨b1, o1 + k * 6 + 1, none⟩ = some (.int .u8 (s.flags : Nat)) ∧ w'.cell? ⟨b1, o1 + k * 6 + 2, none⟩ = some (.int .u64 (s.off : Nat)) ∧ w'.cell? ⟨b1, o1 + k * 6 + 3, none⟩ = some (.int .u64 (s.addr : Nat)) ∧ w'.cell? ⟨b1, o1 + k * 6 + 4, none⟩ = some (.int .u64 (s.fsz : Nat)) ∧ w'.cell? ⟨b1, o1 + k * 6 + 5, none⟩ = some (.int .u64 (s.msz : Nat)))) := hide (by
    intro w' h1 h2
    obtain ⟨b2, o2, hA2, -, r0, r1, r2, r3, r4, r5⟩ := seg_at ((unhide Hs).below h1) hsk
    injection hA2 with hA2
    injection hA2 with hA2 hA3
    subst hA2 hA3
    exact ⟨h2.cell (i := 3) rfl, r0, r1, r2, r3, r4, r5⟩)
  have g3 := (unhide HN).gb.cell (i := 3) rfl
  have hgl : g < wr.heap.size := (unhide HN).gb.lt
  have hmk := (unhide HN).m
  clear hsk hk2
  go_wp2_with fail

  refine wp_region_noPanic ?_
  refine wp_region_held_drew (S := fun w' => w'.cell? ⟨W.heap.size, 3, none⟩ = some (.slice (some ⟨b1, o1, none⟩) ns cs) ∧ w'.cell? ⟨b1, o1 + k * 6, none⟩ = some (.int .u32 (s.kind : Nat)) ∧ w'.cell? ⟨b1, o1 + k * 6 + 1, none⟩ = some (.int .u8 (s.flags : Nat)) ∧ w'.cell? ⟨b1, o1 + k * 6 + 2, none⟩ = some (.int .u64 (s.off : Nat)) ∧ w'.cell? ⟨b1, o1 + k * 6 + 3, none⟩ = some (.int .u64 (s.addr : Nat)) ∧ w'.cell? ⟨b1, o1 + k * 6 + 4, none⟩ = some (.int .u64 (s.fsz : Nat)) ∧ w'.cell? ⟨b1, o1 + k * 6 + 5, none⟩ = some (.int .u64 (s.msz : Nat))) (by kernel_rfl) ((unhide HSK) _ (unhide HNd).bel (unhide HNd).hd) (fun HS0 => ?_)
  refine takeD (i := 0) (d := some 36) (v := ?_) rfl rfl (by kernel_rfl) (by kernel_rfl) (by kernel_rfl) (fun _ _ _ h => h) (Or.inl ⟨by rfl, ?y0⟩) HS0 ?_
  case y0 => (intro w' hSw; (try dsimp only at hSw); go_simp; (try with_reducible rfl))
  simp only [Act.put, List.setIfInBounds_toArray, List.set_cons_zero, List.set_cons_succ]
  refine takeD (i := 2) (d := some 38) (v := ?_) rfl rfl (by kernel_rfl) (by kernel_rfl) (by kernel_rfl) (fun _ _ _ h => h) (Or.inl ⟨by rfl, ?y2⟩) HS0 ?_
  case y2 => (intro w' hSw; (try dsimp only at hSw); go_simp; (try with_reducible rfl))
  simp only [Act.put, List.setIfInBounds_toArray, List.set_cons_zero, List.set_cons_succ]
  refine takeD (i := 3) (d := some 39) (v := ?_) rfl rfl (by kernel_rfl) (by kernel_rfl) (by kernel_rfl) (fun _ _ _ h => h) (Or.inl ⟨by rfl, ?y3⟩) HS0 ?_
  case y3 => (intro w' hSw; (try dsimp only at hSw); go_simp; (try with_reducible rfl))
  simp only [Act.put, List.setIfInBounds_toArray, List.set_cons_zero, List.set_cons_succ]
  refine takeD (i := 4) (d := some 40) (v := ?_) rfl rfl (by kernel_rfl) (by kernel_rfl) (by kernel_rfl) (fun _ _ _ h => h) (Or.inl ⟨by rfl, ?y4⟩) HS0 ?_
  case y4 => (intro w' hSw; (try dsimp only at hSw); go_simp; (try with_reducible rfl))
  simp only [Act.put, List.setIfInBounds_toArray, List.set_cons_zero, List.set_cons_succ]
  refine takeD (i := 5) (d := some 41) (v := ?_) rfl rfl (by kernel_rfl) (by kernel_rfl) (by kernel_rfl) (fun _ _ _ h => h) (Or.inl ⟨by rfl, ?y5⟩) HS0 ?_
  case y5 => (intro w' hSw; (try dsimp only at hSw); go_simp; (try with_reducible rfl))
  simp only [Act.put, List.setIfInBounds_toArray, List.set_cons_zero, List.set_cons_succ]
  refine takeD (i := 6) (d := some 42) (v := ?_) rfl rfl (by kernel_rfl) (by kernel_rfl) (by kernel_rfl) (fun _ _ _ h => h) (Or.inl ⟨by rfl, ?y6⟩) HS0 ?_
  case y6 => (intro w' hSw; (try dsimp only at hSw); go_simp; (try with_reducible rfl))
  simp only [Act.put, List.setIfInBounds_toArray, List.set_cons_zero, List.set_cons_succ]
  refine wpAnyH_ready (rs := [1, 7]) (by kernel_rfl) (by simp) ?_
  refine AllReadyH.cons (i := 1) rfl (fun K hK => ?way1) (AllReadyH.cons (i := 7) rfl (fun K hK => ?way7) AllReadyH.nil)
  case way1 =>
    rw [if_pos (by rfl)]
    go_simp
    refine hK.out _ _ ((unhide HSK) _ (unhide HNd).bel (unhide HNd).hd) (fun hHeld => ?_)
    clear hK K HS0
    have HS0 := hHeld
    clear hHeld
    (try simp only [Act.put, List.setIfInBounds_toArray, List.set_cons_zero, List.set_cons_succ])
    refine wpAnyH_ready (rs := [7]) (by kernel_rfl) (by simp) ?_
    refine AllReadyH.cons (i := 7) rfl (fun K hK => ?_) AllReadyH.nil
    rw [if_pos (by rfl)]
    go_simp
    refine hK.out _ _ ((unhide HSK) _ ((unhide HNd).belowSz ((Below.refl _ _).alloc (Nat.le_refl _) _)).bel ((unhide HNd).belowSz ((Below.refl _ _).alloc (Nat.le_refl _) _)).hd) (fun hHeld => ?_)
    clear hK K HS0
    have HS0 := hHeld
    clear hHeld
    (try simp only [Act.put, List.setIfInBounds_toArray, List.set_cons_zero, List.set_cons_succ])
    refine wpAnyH_ready (rs := [8]) (by kernel_rfl) (by simp) ?_
    refine AllReadyH.cons (i := 8) rfl (fun K hK => ?_) AllReadyH.nil
    rw [if_pos (by rfl)]
    refine wp_app1g segTy _ _ rfl (g + 1) (.slice Ag m cg) m (segCells (Dy.nos segs k)) rfl (unhide HNd).row #[.int .u32 (s.kind : Nat), .int .u8 (s.flags : Nat), .int .u64 (s.off : Nat), .int .u64 (s.addr : Nat), .int .u64 (s.fsz : Nat), .int .u64 (s.msz : Nat)] _ rfl (by simp) rfl (by intro u hu; simp at hu; rcases hu with rfl | rfl | rfl | rfl | rfl | rfl <;> rfl) (by omega) (by simp; omega) ?_
    intro A6 c6 w8 ho6 hg6
    have HQ := hide ((unhide HP) _ _ _ _ (unhide HNd) ho6 hg6)
    have HG := hide ((unhide HNd).grown hgW hg6)
    have u0 := (unhide HG).2.2.cell (i := 3) rfl
    have u1 := (unhide HG).2.2.free 3
    clear ho6 hg6
    refine hK.out _ _ ((unhide HSK) _ (unhide HG).1 (unhide HG).2.1) (fun hHeld => ?_)
    clear hK K HS0
    have HS0 := hHeld
    clear hHeld
    (try simp only [Act.put, List.setIfInBounds_toArray, List.set_cons_zero, List.set_cons_succ])
    refine takeD (i := 9) (d := some 45) (v := ?_) rfl rfl (by kernel_rfl) (by kernel_rfl) (by kernel_rfl) (fun _ _ _ h => h) (Or.inl ⟨by rfl, ?y9⟩) HS0 ?_
    case y9 => (intro w' hSw; (try dsimp only at hSw); go_simp; (try with_reducible rfl))
    simp only [Act.put, List.setIfInBounds_toArray, List.set_cons_zero, List.set_cons_succ]
    refine wpAnyH_ready (rs := [10]) (by kernel_rfl) (by simp) ?_
    refine AllReadyH.cons (i := 10) rfl (fun K hK => ?_) AllReadyH.nil
    rw [if_pos (by rfl)]
    go_simp
    refine hK.out _ _ ((unhide HSK) _ (unhide HQ).bel (unhide HQ).hd) (fun hHeld => ?_)
    clear hK K HS0
    have HS0 := hHeld
    clear hHeld
    (try simp only [Act.put, List.setIfInBounds_toArray, List.set_cons_zero, List.set_cons_succ])
    refine wpAnyH_done (by kernel_rfl) ?_ _
    refine NoPanic.normal ?_
    clear u0 u1
    go_wp2_with fail
    go_roundg (ns - (k + 1))
    case measure => omega
    case rel => exact ⟨k + 1, A6, m + 1, c6, rfl, by omega, by go_num, unhide HQ⟩
  case way7 =>
    rw [if_pos (by rfl)]
    go_simp
    refine hK.out _ _ ((unhide HSK) _ ((unhide HNd).belowSz ((Below.refl _ _).alloc (Nat.le_refl _) _)).bel ((unhide HNd).belowSz ((Below.refl _ _).alloc (Nat.le_refl _) _)).hd) (fun hHeld => ?_)
    clear hK K HS0
    have HS0 := hHeld
    clear hHeld
    (try simp only [Act.put, List.setIfInBounds_toArray, List.set_cons_zero, List.set_cons_succ])
    have y5 := ((unhide HN).gb.alloc (.cells #[.int .u32 (s.kind : Nat), .int .u8 (s.flags : Nat), .int .u64 (s.off : Nat), .int .u64 (s.addr : Nat), .int .u64 (s.fsz : Nat), .int .u64 (s.msz : Nat)] 52)).cell (i := 3) rfl
    refine wpAnyH_ready (rs := [1]) (by kernel_rfl) (by simp) ?_
    refine AllReadyH.cons (i := 1) rfl (fun K hK => ?_) AllReadyH.nil
    rw [if_pos (by rfl)]
    go_simp
    refine hK.out _ _ ((unhide HSK) _ ((unhide HNd).belowSz ((Below.refl _ _).alloc (Nat.le_refl _) _)).bel ((unhide HNd).belowSz ((Below.refl _ _).alloc (Nat.le_refl _) _)).hd) (fun hHeld => ?_)
    clear hK K HS0
    have HS0 := hHeld
    clear hHeld
    (try simp only [Act.put, List.setIfInBounds_toArray, List.set_cons_zero, List.set_cons_succ])
    refine wpAnyH_ready (rs := [8]) (by kernel_rfl) (by simp) ?_
    refine AllReadyH.cons (i := 8) rfl (fun K hK => ?_) AllReadyH.nil
    rw [if_pos (by rfl)]
    refine wp_app1g segTy _ _ rfl (g + 1) (.slice Ag m cg) m (segCells (Dy.nos segs k)) rfl (unhide HNd).row #[.int .u32 (s.kind : Nat), .int .u8 (s.flags : Nat), .int .u64 (s.off : Nat), .int .u64 (s.addr : Nat), .int .u64 (s.fsz : Nat), .int .u64 (s.msz : Nat)] _ rfl (by simp) rfl (by intro u hu; simp at hu; rcases hu with rfl | rfl | rfl | rfl | rfl | rfl <;> rfl) (by omega) (by simp; omega) ?_
    intro A6 c6 w8 ho6 hg6
    have HQ := hide ((unhide HP) _ _ _ _ (unhide HNd) ho6 hg6)
    have HG := hide ((unhide HNd).grown hgW hg6)
    have u0 := (unhide HG).2.2.cell (i := 3) rfl
    have u1 := (unhide HG).2.2.free 3
    clear ho6 hg6
    refine hK.out _ _ ((unhide HSK) _ (unhide HG).1 (unhide HG).2.1) (fun hHeld => ?_)
    clear hK K HS0
    have HS0 := hHeld
    clear hHeld
    (try simp only [Act.put, List.setIfInBounds_toArray, List.set_cons_zero, List.set_cons_succ])
    refine takeD (i := 9) (d := some 45) (v := ?_) rfl rfl (by kernel_rfl) (by kernel_rfl) (by kernel_rfl) (fun _ _ _ h => h) (Or.inl ⟨by rfl, ?y9⟩) HS0 ?_
    case y9 => (intro w' hSw; (try dsimp only at hSw); go_simp; (try with_reducible rfl))
    simp only [Act.put, List.setIfInBounds_toArray, List.set_cons_zero, List.set_cons_succ]
    refine wpAnyH_ready (rs := [10]) (by kernel_rfl) (by simp) ?_
    refine AllReadyH.cons (i := 10) rfl (fun K hK => ?_) AllReadyH.nil
    rw [if_pos (by rfl)]
    go_simp
    refine hK.out _ _ ((unhide HSK) _ (unhide HQ).bel (unhide HQ).hd) (fun hHeld => ?_)
    clear hK K HS0
    have HS0 := hHeld
    clear hHeld
    (try simp only [Act.put, List.setIfInBounds_toArray, List.set_cons_zero, List.set_cons_succ])
    refine wpAnyH_done (by kernel_rfl) ?_ _
    refine NoPanic.normal ?_
    clear u0 u1
    go_wp2_with fail
    go_roundg (ns - (k + 1))
    case measure => omega
    case rel => exact ⟨k + 1, A6, m + 1, c6, rfl, by omega, by go_num, unhide HQ⟩
end Go.Proofs.Ytdminnhfgdoibaa
namespace Go.Proofs.Ytdminnhfgdoibaa
set_option linter.unusedVariables false
set_option linter.unusedSimpArgs false
open Go.RowKit Go.ChangeShapes Go.WideShapes

theorem cell_lt {w : World} {a : Addr} {v : Value} (h : w.cell? a = some v) : a.block < w.heap.size := by
  unfold World.cell? at h
  split at h
  · rename_i hb
    exact (Array.getElem?_eq_some_iff.1 hb).1
  · cases h

section
variable {H : Type} {enc : TypeId × Value → H} {P : Program} {w : World} {base : Nat} {held : Bool} {t e : TypeId} {A : Option Addr} {n c : Nat} {d : DataW H} {p : List MemPlace}

theorem open_nums_rd {k : IntKind} (ht : P.underlying t = some (.slice e)) (he : P.underlying e = some (.int k)) (hc : P.cellsOf e = 1)
    (h : DataW.Trod enc P w base (fun _ => true) held t (.slice A n c) d p) :
    ∃ zs : List Int, Rd w w.heap.size 1 A n (zs.map (Value.int k)) ∧ n ≤ c ∧ c ≤ maxLen ∧ ∀ z ∈ zs, (Lit.int k z).wf = true := by
  obtain ⟨fuel, hf⟩ := h
  rcases open_ints ht he hc hf with ⟨h1, h2⟩ | ⟨a, len, cap, zs, h1, hb, hl, hm, hz, hx, hcell, hwz⟩
  · simp [Value.cells] at h1
    obtain ⟨rfl, rfl, rfl⟩ := h1
    exact ⟨[], Rd.none_ _ _ _ _, Nat.le_refl _, by unfold maxLen; omega, by simp⟩
  · simp [Value.cells] at h1
    obtain ⟨rfl, rfl, rfl⟩ := h1
    simp only [if_true] at hz
    refine ⟨zs.take n, ⟨by simp [hz]; omega, ?_⟩, hl, hm, fun z hz => hwz z (List.mem_of_mem_take hz)⟩
    by_cases h0 : n = 0
    · subst h0; exact .inl rfl
    · obtain ⟨b, off, rfl, hc2⟩ := ints_at hcell (by omega)
      have hblk := cell_lt (hc2 0 (by omega))
      refine .inr ⟨b, off, rfl, hblk, fun j u hu => ?_⟩
      simp only [List.getElem?_map, Option.map_eq_some_iff] at hu
      obtain ⟨z, hz1, rfl⟩ := hu
      have hj : j < n := by
        have := (List.getElem?_eq_some_iff.1 hz1).1
        simp at this
        omega
      rw [List.getElem?_take_of_lt hj] at hz1
      rw [hc2 j (by omega), List.getD_eq_getElem?_getD, hz1]
      rfl

theorem u8_of {z : Int} (h : (Lit.int .u8 z).wf = true) : ((UInt8.ofNat z.toNat).toNat : Int) = z := by
  have hb : 0 ≤ z ∧ z ≤ 255 := by
    simpa [Lit.wf, IntKind.min, IntKind.max, IntKind.signed, IntKind.bits] using h
  simp
  omega

theorem open_bytes_rd (ht : P.underlying t = some (.slice e)) (he : P.underlying e = some (.int .u8)) (hc : P.cellsOf e = 1)
    (h : DataW.Trod enc P w base (fun _ => true) held t (.slice A n c) d p) :
    ∃ b : List UInt8, Rd w w.heap.size 1 A n (b.map fun c => .int .u8 c.toNat) ∧ n ≤ c ∧ c ≤ maxLen := by
  obtain ⟨zs, h1, h2, h3, h4⟩ := open_nums_rd ht he hc h
  refine ⟨zs.map fun z => UInt8.ofNat z.toNat, ?_, h2, h3⟩
  have e1 : (zs.map fun z => UInt8.ofNat z.toNat).map (fun c : UInt8 => Value.int .u8 c.toNat) = zs.map (Value.int .u8) := by
    rw [List.map_map]
    refine List.map_congr_left fun z hz => ?_
    show Value.int .u8 ((UInt8.ofNat z.toNat).toNat : Int) = _
    rw [u8_of (h4 z hz)]
  rw [e1]
  exact h1

theorem open_ints_rd (ht : P.underlying t = some (.slice e)) (he : P.underlying e = some (.int .i64)) (hc : P.cellsOf e = 1)
    (h : DataW.Trod enc P w base (fun _ => true) held t (.slice A n c) d p) :
    ∃ zs : List Int, Rd w w.heap.size 1 A n (zs.map (Value.int .i64)) ∧ n ≤ c ∧ c ≤ maxLen ∧ ∀ z ∈ zs, -9223372036854775808 ≤ z ∧ z ≤ 9223372036854775807 := by
  obtain ⟨zs, h1, h2, h3, h4⟩ := open_nums_rd ht he hc h
  refine ⟨zs, h1, h2, h3, fun z hz => ?_⟩
  have := h4 z hz
  simpa [Lit.wf, IntKind.min, IntKind.max, IntKind.signed, IntKind.bits] using this

theorem open_strs_rd (ht : P.underlying t = some (.slice e)) (he : P.underlying e = some .string) (hc : P.cellsOf e = 1)
    (h : DataW.Trod enc P w base (fun _ => true) held t (.slice A n c) d p) :
    ∃ ss : List ByteArray, Rd w w.heap.size 1 A n (ss.map Value.string) ∧ n ≤ c ∧ c ≤ maxLen ∧ ∀ s ∈ ss, s.size ≤ maxLen := by
  obtain ⟨fuel, hf⟩ := h
  rcases open_strings ht he hc hf with ⟨h1, h2⟩ | ⟨a, len, cap, zs, h1, hb, hl, hm, hz, hx, hcell, hwz⟩
  · simp [Value.cells] at h1
    obtain ⟨rfl, rfl, rfl⟩ := h1
    exact ⟨[], Rd.none_ _ _ _ _, Nat.le_refl _, by unfold maxLen; omega, by simp⟩
  · simp [Value.cells] at h1
    obtain ⟨rfl, rfl, rfl⟩ := h1
    simp only [if_true] at hz
    refine ⟨zs.take n, ⟨by simp [hz]; omega, ?_⟩, hl, hm, fun z hz => hwz z (List.mem_of_mem_take hz)⟩
    by_cases h0 : n = 0
    · subst h0; exact .inl rfl
    · obtain ⟨b, off, spot⟩ := a
      have hs : spot = none := by simpa [Addr.add] using World.cell?_spot (hcell 0 (by omega))
      subst hs
      have hc2 : ∀ i, i < zs.length → w.cell? ⟨b, off + i, none⟩ = some (.string (zs.getD i ByteArray.empty)) := fun j hj => by
        rw [← Go.WideShapes.add_plain]; exact hcell j hj
      have hblk := cell_lt (hc2 0 (by omega))
      refine .inr ⟨b, off, rfl, hblk, fun j u hu => ?_⟩
      simp only [List.getElem?_map, Option.map_eq_some_iff] at hu
      obtain ⟨z, hz1, rfl⟩ := hu
      have hj : j < n := by
        have := (List.getElem?_eq_some_iff.1 hz1).1
        simp at this
        omega
      rw [List.getElem?_take_of_lt hj] at hz1
      rw [hc2 j (by omega), List.getD_eq_getElem?_getD, hz1]
      rfl
end
end Go.Proofs.Ytdminnhfgdoibaa
namespace Go.Proofs.Ytdminnhfgdoibaa
set_option linter.unusedVariables false
set_option linter.unusedSimpArgs false
open Go.RowKit Go.ChangeShapes Go.WideShapes Go.Joins Go.Deep

section
variable {H : Type} {enc : TypeId × Value → H} {P : Program} {w : World} {base : Nat} {spare : Nat → Bool} {held : Bool}

theorem cells_at {a : Addr} {k : Nat} {cs : List Value} (h : w.cells? base a k = some cs) : cs.length = k ∧ ∀ j, j < k → w.cell? (a.add j) = cs[j]? := by
  unfold World.cells? at h
  split at h
  · have hl := mapM_some_length h
    refine ⟨by simpa using hl, fun j hj => ?_⟩
    exact mapM_some_get h j j (by simp [hj])
  · cases h
theorem fields_one {t : TypeId} {fs : Array Field} {fuel : Nat} {cs : List Value} {x : DataW H × List MemPlace} (ht : P.underlying t = some (.struct fs)) (hone : oneCellFields P fs = true) (hC : P.cellsOf t = fs.size)
    (h : DataW.trod enc P w base spare held fuel t cs = some x) : cs.length = fs.size ∧ ∃ n, ∀ (i : Nat) (f : Field) (v : Value), fs[i]? = some f → cs[i]? = some v → ∃ y, DataW.trod enc P w base spare held n f.type [v] = some y := by
  obtain ⟨xs, n, _, rfl, hl, hlen, hf⟩ := DataW.trod_struct ht h
  refine ⟨hl.trans hC, n, fun i f v hi hv => ?_⟩
  obtain ⟨o, k⟩ := hone_of hone i f hi
  have hi2 : i < fs.size := (Array.getElem?_eq_some_iff.1 hi).1
  have h1 := hf i f hi
  have e : ((cs.drop f.offset).take (P.cellsOf f.type)) = [v] := by
    rw [o, k]
    have hlt : i < cs.length := (List.getElem?_eq_some_iff.1 hv).1
    rw [List.drop_eq_getElem_cons hlt, (List.getElem?_eq_some_iff.1 hv).2]
    rfl
  rw [e] at h1
  exact ⟨_, h1.trans (List.getElem?_eq_getElem (by omega))⟩
end

theorem segFields : ∃ fs, Try.prog.underlying 52 = some (.struct fs) ∧ oneCellFields Try.prog fs = true ∧ Try.prog.cellsOf 52 = fs.size ∧ fs.size = 6 ∧ fs.map (·.type) = #[33, 5, 24, 24, 24, 24] :=
  ⟨_, Try.underlying52, by kernel_rfl, by kernel_rfl, by kernel_rfl, by kernel_rfl⟩

theorem nat_of {k : IntKind} {z : Int} {y : Nat} (h : 0 ≤ z ∧ z ≤ (y : Int)) : ∃ n : Nat, z = n ∧ n < y + 1 := ⟨z.toNat, by omega, by omega⟩

section
variable {H : Type} {enc : TypeId × Value → H} {w : World} {base : Nat} {spare : Nat → Bool} {held : Bool}
theorem seg_vals {fuel : Nat} {cs : List Value} {x : DataW H × List MemPlace} (h : DataW.trod enc Try.prog w base spare held fuel 52 cs = some x) : ∃ s : El.Sg, cs = sgVals s ∧ SgFit s := by
  obtain ⟨fs, ht, hone, hC, h6, hty⟩ := segFields
  obtain ⟨hl, n, hf⟩ := fields_one ht hone hC h
  rw [h6] at hl
  have hfi : ∀ (i : Nat) (t : TypeId), (fs.map (·.type))[i]? = some t → ∃ f : Field, fs[i]? = some f ∧ f.type = t := by
    intro i t hi
    rw [Array.getElem?_map] at hi
    cases hq : fs[i]? with
    | none => rw [hq] at hi; cases hi
    | some f => rw [hq] at hi; exact ⟨f, rfl, by simpa using hi⟩
  match cs, hl with
  | [c0, c1, c2, c3, c4, c5], _ =>
    obtain ⟨f0, g0, e0⟩ := hfi 0 33 (by rw [hty]; rfl)
    obtain ⟨f1, g1, e1⟩ := hfi 1 5 (by rw [hty]; rfl)
    obtain ⟨f2, g2, e2⟩ := hfi 2 24 (by rw [hty]; rfl)
    obtain ⟨f3, g3, e3⟩ := hfi 3 24 (by rw [hty]; rfl)
    obtain ⟨f4, g4, e4⟩ := hfi 4 24 (by rw [hty]; rfl)
    obtain ⟨f5, g5, e5⟩ := hfi 5 24 (by rw [hty]; rfl)
    obtain ⟨y0, h0⟩ := hf 0 f0 c0 g0 rfl
    obtain ⟨y1, h1⟩ := hf 1 f1 c1 g1 rfl
    obtain ⟨y2, h2⟩ := hf 2 f2 c2 g2 rfl
    obtain ⟨y3, h3⟩ := hf 3 f3 c3 g3 rfl
    obtain ⟨y4, h4⟩ := hf 4 f4 c4 g4 rfl
    obtain ⟨y5, h5⟩ := hf 5 f5 c5 g5 rfl
    rw [e0] at h0
    rw [e1] at h1
    rw [e2] at h2
    rw [e3] at h3
    rw [e4] at h4
    rw [e5] at h5
    obtain ⟨z0, q0, -, w0⟩ := DataW.trod_int Try.underlying33 h0
    obtain ⟨z1, q1, -, w1⟩ := DataW.trod_int Try.underlying5 h1
    obtain ⟨z2, q2, -, w2⟩ := DataW.trod_int Try.underlying24 h2
    obtain ⟨z3, q3, -, w3⟩ := DataW.trod_int Try.underlying24 h3
    obtain ⟨z4, q4, -, w4⟩ := DataW.trod_int Try.underlying24 h4
    obtain ⟨z5, q5, -, w5⟩ := DataW.trod_int Try.underlying24 h5
    simp only [List.cons.injEq, and_true] at q0 q1 q2 q3 q4 q5
    subst q0 q1 q2 q3 q4 q5
    have b0 : 0 ≤ z0 ∧ z0 ≤ 4294967295 := by simpa [Lit.wf, IntKind.min, IntKind.max, IntKind.signed, IntKind.bits] using w0
    have b1 : 0 ≤ z1 ∧ z1 ≤ 255 := by simpa [Lit.wf, IntKind.min, IntKind.max, IntKind.signed, IntKind.bits] using w1
    have b2 : 0 ≤ z2 ∧ z2 ≤ 18446744073709551615 := by simpa [Lit.wf, IntKind.min, IntKind.max, IntKind.signed, IntKind.bits] using w2
    have b3 : 0 ≤ z3 ∧ z3 ≤ 18446744073709551615 := by simpa [Lit.wf, IntKind.min, IntKind.max, IntKind.signed, IntKind.bits] using w3
    have b4 : 0 ≤ z4 ∧ z4 ≤ 18446744073709551615 := by simpa [Lit.wf, IntKind.min, IntKind.max, IntKind.signed, IntKind.bits] using w4
    have b5 : 0 ≤ z5 ∧ z5 ≤ 18446744073709551615 := by simpa [Lit.wf, IntKind.min, IntKind.max, IntKind.signed, IntKind.bits] using w5
    refine ⟨⟨z0.toNat, z1.toNat, z2.toNat, z3.toNat, z4.toNat, z5.toNat⟩, ?_, ?_⟩
    · simp only [sgVals]
      rw [Int.toNat_of_nonneg b0.1, Int.toNat_of_nonneg b1.1, Int.toNat_of_nonneg b2.1, Int.toNat_of_nonneg b3.1, Int.toNat_of_nonneg b4.1, Int.toNat_of_nonneg b5.1]
    · exact ⟨by show z0.toNat < _; omega, by show z1.toNat < _; omega, by show z2.toNat < _; omega, by show z3.toNat < _; omega, by show z4.toNat < _; omega, by show z5.toNat < _; omega⟩

set_option maxRecDepth 20000 in
theorem open_segs_rd {A : Option Addr} {n c fuel : Nat} {x : DataW H × List MemPlace} (h : DataW.trod enc Try.prog w base (fun _ => true) held fuel 25 [.slice A n c] = some x) :
    ∃ l : List El.Sg, Rd w w.heap.size 6 A n (segCells l) ∧ n ≤ c ∧ c ≤ maxLen ∧ ∀ s ∈ l, SgFit s := by
  have h6 : Try.prog.cellsOf 52 = 6 := by kernel_rfl
  rcases Go.Deep.open_slice Try.underlying25 h with ⟨h1, h2⟩ | ⟨a, len, cap, m, k, D, Pl, h1, hb, hl, hm, hmm, hx, hel⟩
  · simp at h1
    obtain ⟨rfl, rfl, rfl⟩ := h1
    exact ⟨[], Rd.none_ _ _ _ _, Nat.le_refl _, by unfold maxLen; omega, by simp⟩
  · simp at h1
    obtain ⟨rfl, rfl, rfl⟩ := h1
    simp only [if_true] at hmm
    have each : ∀ i, i < n → ∃ s : El.Sg, SgFit s ∧ ∀ j, j < 6 → w.cell? (a.add (i * 6 + j)) = (sgVals s)[j]? := by
      intro i hi
      obtain ⟨cs, hc, ht⟩ := hel i (by omega)
      rw [h6] at hc
      obtain ⟨s, rfl, hs⟩ := seg_vals ht
      obtain ⟨_, hcell⟩ := cells_at hc
      refine ⟨s, hs, fun j hj => ?_⟩
      have := hcell j hj
      rw [← this]
      congr 1
      by_cases g1 : i * 6 = 0 <;> by_cases g2 : j = 0 <;> simp [Addr.add, g1, g2, Nat.add_assoc]
    have hne : Inhabited El.Sg := ⟨⟨0, 0, 0, 0, 0, 0⟩⟩
    obtain ⟨S, hS⟩ := Go.Deep.choose_lt each
    refine ⟨(List.range n).map S, ⟨by rw [segCells_len]; simp, ?_⟩, hl, hm, ?_⟩
    · by_cases h0 : n = 0
      · subst h0; exact .inl rfl
      · obtain ⟨b, off, spot⟩ := a
        have hs0 := (hS 0 (by omega)).2 0 (by omega)
        have hs : spot = none := by simpa [Addr.add] using World.cell?_spot (hs0.trans rfl)
        subst hs
        have hc2 : ∀ i, i < n → ∀ j, j < 6 → w.cell? ⟨b, off + (i * 6 + j), none⟩ = (sgVals (S i))[j]? := fun i hi j hj => by
          rw [← Go.WideShapes.add_plain]; exact (hS i hi).2 j hj
        have hblk : b < w.heap.size := cell_lt (a := ⟨b, off + (0 * 6 + 0), none⟩) ((hc2 0 (by omega) 0 (by omega)).trans rfl)
        refine .inr ⟨b, off, rfl, hblk, fun j u hu => ?_⟩
        have hj : j < n * 6 := by
          have := (List.getElem?_eq_some_iff.1 hu).1
          rw [segCells_len] at this
          simpa using this
        have hq : j / 6 < n := by omega
        have hat := segCells_at ((List.range n).map S) (j / 6) (S (j / 6)) (by simp [hq]) (j % 6) (by omega)
        rw [show j / 6 * 6 + j % 6 = j from by omega] at hat
        have := hc2 (j / 6) hq (j % 6) (by omega)
        rw [show j / 6 * 6 + j % 6 = j from by omega] at this
        rw [this, ← hat, hu]
    · intro s hs
      simp only [List.mem_map, List.mem_range] at hs
      obtain ⟨i, hi, rfl⟩ := hs
      exact (hS i hi).1
end
end Go.Proofs.Ytdminnhfgdoibaa
namespace Go.Proofs.Ytdminnhfgdoibaa
theorem dy_all : True := trivial
end Go.Proofs.Ytdminnhfgdoibaa
