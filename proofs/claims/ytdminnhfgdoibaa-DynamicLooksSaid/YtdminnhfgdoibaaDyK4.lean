/- The walk of Look. Conditions: as each says. The walk of Right. Conditions: as each says. The walk of hostelref00.CopyBytes (as Elf8, for any chapter). Conditions: there are fewer than 2^32 bytes. The plain mathematics of calls: which calls may be, their bytes, what bytes say. No program in sight. No conditions. The plain mathematics of calls' bytes: writing, reading, and that each undoes the other. No program in sight. No conditions. The walks of slices.Clone and bytes.Clone of bytes, of words.Set and of its reference where the bytes are there. Conditions: there are fewer than 2^32 bytes. The walks of the law's own helpers: plain, large. No conditions. The walk of the law's anchor. No conditions. The reference of dynamic sections: a file's entries in memory; the walks of value, both, once. Conditions: as each says. The reference's Loads and Filled, and where a stretch is laid. Conditions: as each says. The reference's laid and table. Conditions: as each says. The reference's table. Conditions: as each says. The reference's text. Conditions: as each says. The reference's once. No conditions. The reference's names. Conditions: as each says. The reference's relas. Conditions: as each says. -/
import Derived.Test.YtdminnhfgdoibaaDyK3
import Derived.Test.YtdminnhfgdoibaaDyK1
import Derived.Lib.AppendStr
import Derived.Lib.SliceRun
import Derived.Test.YtdminnhfgdoibaaDyK2
namespace Go.Proofs.Ytdminnhfgdoibaa
set_option linter.unusedVariables false
set_option linter.unusedSimpArgs false
open Go.RowKit
namespace Dy
theorem linksFrom_mem {b : List UInt8} {n : Names} : ∀ (k i : Nat), ∀ x ∈ (linksFrom b n k i).1, 0 < x ∧ x < n.chain
  | 0, i, x, h => by cases h
  | k + 1, i, x, h => by
    by_cases hi : i = 0
    · rw [linksFrom, if_pos hi] at h; cases h
    · by_cases hc : n.chain ≤ i
      · rw [linksFrom, if_neg hi, if_pos hc] at h; cases h
      · rw [linksFrom, if_neg hi, if_neg hc] at h
        rcases List.mem_cons.1 h with rfl | h
        · omega
        · exact linksFrom_mem _ _ x h
theorem linksFrom_len {b : List UInt8} {n : Names} : ∀ (k i : Nat), (linksFrom b n k i).1.length ≤ k
  | 0, i => Nat.le_refl _
  | k + 1, i => by
    by_cases hi : i = 0
    · rw [linksFrom, if_pos hi]; exact Nat.zero_le _
    · by_cases hc : n.chain ≤ i
      · rw [linksFrom, if_neg hi, if_pos hc]; exact Nat.zero_le _
      · rw [linksFrom, if_neg hi, if_neg hc]
        have := linksFrom_len (b := b) (n := n) k (Wd.num b (n.hash + 8 + 4 * n.buckets + 4 * i) 4)
        simpa using this
theorem links_mem {b : List UInt8} {n : Names} {name : List UInt8} : ∀ x ∈ (links b n name).1, 0 < x ∧ x < n.chain := by
  intro x h
  unfold links at h
  split at h
  · cases h
  · exact linksFrom_mem _ _ x h
theorem links_len {b : List UInt8} {n : Names} {name : List UInt8} : (links b n name).1.length ≤ n.chain := by
  unfold links
  split
  · exact Nat.zero_le _
  · exact linksFrom_len _ _
theorem text_le {t : List UInt8} {q : Nat} {s : ByteArray} (h : text t q = some s) : s.size ≤ t.length := by
  unfold text at h
  split at h
  · cases h
  · split at h
    · injection h with h
      subst h
      show (((t.drop q).takeWhile fun c => c != 0).toArray).size ≤ _
      have h1 : ((t.drop q).takeWhile fun c => c != 0).length ≤ (t.drop q).length := (List.takeWhile_sublist _).length_le
      rw [List.length_drop] at h1
      simp only [List.size_toArray]
      omega
    · cases h
theorem symsFrom_name {t b : List UInt8} : ∀ {n p : Nat} {l : List Sym}, symsFrom t b n p = some l → ∀ x ∈ l, x.name.size ≤ t.length
  | 0, _, _, h => by unfold symsFrom at h; injection h with h; subst h; intro x hx; cases hx
  | n + 1, p, l, h => by
    unfold symsFrom at h
    cases hs : symAt t b p with
    | none => rw [hs] at h; cases h
    | some s =>
      rw [hs] at h
      cases hr : symsFrom t b n (p + 24) with
      | none => rw [hr] at h; cases h
      | some r =>
        rw [hr] at h
        injection h with h
        subst h
        intro x hx
        rcases List.mem_cons.1 hx with rfl | hx
        · unfold symAt at hs
          cases ht : text t (Wd.num b p 4) with
          | none => rw [ht] at hs; cases hs
          | some y =>
            rw [ht] at hs
            dsimp only at hs
            split at hs
            · cases hs
            · injection hs with hs
              subst hs
              exact text_le ht
        · exact symsFrom_name hr x hx
/-- What a good answer is made of. -/
theorem parse_parts {b : List UInt8} {segs : List El.Sg} {L : List (Nat × Nat)} (h : open_ b segs = (0, some L)) (h2 : (parse b segs).2 = 0) :
    ∃ t d ss rs, table b.length (El.loads segs) L 5 10 = some t ∧ (names b (El.loads segs) L).1 = 0 ∧ (relaB b (El.loads segs) L).1 = 0 ∧ texts (cut b t.1 t.2) (val L 29).isSome L zero = some d ∧ symsFrom (cut b t.1 t.2) b ((names b (El.loads segs) L).2.chain - 1) ((names b (El.loads segs) L).2.syms + 24) = some ss ∧
      relsFrom ss.length (relaB b (El.loads segs) L).2 ((relaB b (El.loads segs) L).2.length / 24) 0 = some rs ∧ parse b segs = ({ d with syms := ss, relas := rs }, 0) := by
  rw [parse_some h] at h2 ⊢
  cases ht : table b.length (El.loads segs) L 5 10 with
  | none => rw [ht, pBody_1] at h2; exact absurd h2 (by decide)
  | some t =>
    rw [ht] at h2
    by_cases h3 : (names b (El.loads segs) L).1 = 0
    · by_cases h4 : (relaB b (El.loads segs) L).1 = 0
      · cases hd : texts (cut b t.1 t.2) (val L 29).isSome L zero with
        | none => rw [pBody_4 h3 h4 hd] at h2; exact absurd h2 (by decide)
        | some d =>
          cases hs : symsFrom (cut b t.1 t.2) b ((names b (El.loads segs) L).2.chain - 1) ((names b (El.loads segs) L).2.syms + 24) with
          | none => rw [pBody_5 h3 h4 hd hs] at h2; exact absurd h2 (by decide)
          | some ss =>
            cases hr : relsFrom ss.length (relaB b (El.loads segs) L).2 ((relaB b (El.loads segs) L).2.length / 24) 0 with
            | none => rw [pBody_6 h3 h4 hd hs hr] at h2; exact absurd h2 (by decide)
            | some rs => exact ⟨t, d, ss, rs, rfl, h3, h4, hd, hs, hr, pBody_7 h3 h4 hd hs hr⟩
      · rw [pBody_3 h3 h4] at h2
        exact absurd h2 h4
    · rw [pBody_2 h3] at h2
      exact absurd h2 h3
theorem parse_syms {b : List UInt8} {segs : List El.Sg} {L : List (Nat × Nat)} (h : open_ b segs = (0, some L)) (h2 : (parse b segs).2 = 0) : (parse b segs).1.syms.length = (names b (El.loads segs) L).2.chain - 1 ∧ ∀ x ∈ (parse b segs).1.syms, x.name.size ≤ b.length := by
  obtain ⟨t, d, ss, rs, -, -, -, -, hs, -, hp⟩ := parse_parts h h2
  rw [hp]
  refine ⟨symsFrom_len hs, fun x hx => ?_⟩
  have := symsFrom_name hs x hx
  unfold cut at this
  rw [List.length_take, List.length_drop] at this
  omega
theorem lookIn_cons {D : Dyn} {name : ByteArray} {i : Nat} {r : List Nat} {s : Sym} (hs : D.syms[i - 1]? = some s) : lookIn D name (i :: r) = if s.name = name then (i - 1, true) else lookIn D name r := by
  rw [lookIn, hs]
  by_cases h : s.name = name
  · rw [if_pos h, if_pos (by rw [← h]; rfl)]
  · rw [if_neg h]
    exact if_neg (fun e => h (Option.some.inj e))
theorem has_look {b : List UInt8} {segs : List El.Sg} {N : Names} {q : Bool} (h : has b segs N q) (name : ByteArray) : look b segs name = if q = true then lookIn (parse b segs).1 name (links b N name.data.toList).1 else (0, false) := by
  unfold look
  rcases h with ⟨rfl, -, h | h⟩ | ⟨rfl, h, L, ho, rfl⟩
  · rw [if_pos h]; rfl
  · rw [h]
    split <;> rfl
  · rw [if_neg (by simpa using h), ho]
    rfl
theorem has_right {b : List UInt8} {segs : List El.Sg} {N : Names} {q : Bool} (h : has b segs N q) : right b segs = if q = true then rightFrom b N (parse b segs).1.syms 0 else decide ((parse b segs).2 = 0) := by
  unfold right
  rcases h with ⟨rfl, -, h | h⟩ | ⟨rfl, h, L, ho, rfl⟩
  · rw [if_pos h, if_neg (by decide), decide_eq_false h]
  · rw [h]
    by_cases h2 : (parse b segs).2 = 0
    · rw [if_neg (by simpa using h2), if_neg (by decide), decide_eq_true h2]
    · rw [if_pos h2, if_neg (by decide), decide_eq_false h2]
  · rw [if_neg (by simpa using h), ho, if_pos rfl]
theorem has_syms {b : List UInt8} {segs : List El.Sg} {N : Names} (h : has b segs N true) : (parse b segs).1.syms.length = N.chain - 1 ∧ ∀ x ∈ (parse b segs).1.syms, x.name.size ≤ b.length := by
  rcases h with ⟨h, -⟩ | ⟨-, h, L, ho, rfl⟩
  · cases h
  · exact parse_syms ho h
end Dy
theorem symC_len (l : List Dy.Sym) : (symC l).length = l.length * 5 := by
  induction l with
  | nil => rfl
  | cons a r ih =>
    unfold symC at ih ⊢
    rw [List.flatMap_cons, List.length_append, ih]
    simp [symV]
    omega
theorem symC_at (l : List Dy.Sym) : ∀ (k : Nat) (x : Dy.Sym), l[k]? = some x → ∀ j v, (symV x)[j]? = some v → (symC l)[k * 5 + j]? = some v := by
  induction l with
  | nil => intro k x h; simp at h
  | cons a r ih =>
    intro k x h j v hv
    have e0 : symC (a :: r) = symV a ++ symC r := rfl
    have hj : j < 5 := by have := (List.getElem?_eq_some_iff.1 hv).1; simpa [symV] using this
    have h5 : (symV a).length = 5 := rfl
    cases k with
    | zero =>
      simp at h
      subst h
      rw [e0, List.getElem?_append_left (by omega), Nat.zero_mul, Nat.zero_add]
      exact hv
    | succ k =>
      simp at h
      rw [e0, List.getElem?_append_right (by omega), h5, show (k + 1) * 5 + j - 5 = k * 5 + j from by omega]
      exact ih k x h j v hv
theorem sym_at {w : World} {B n : Nat} {A : Option Addr} {l : List Dy.Sym} (h : Rd w B 5 A n (symC l)) {k : Nat} {x : Dy.Sym} (hk : l[k]? = some x) :
    ∃ b off, A = some ⟨b, off, none⟩ ∧ b < B ∧ w.cell? ⟨b, off + k * 5, none⟩ = some (.string x.name) ∧ w.cell? ⟨b, off + k * 5 + 1, none⟩ = some (.int .u64 (x.value : Nat)) ∧ w.cell? ⟨b, off + k * 5 + 2, none⟩ = some (.int .u64 (x.size : Nat)) ∧ w.cell? ⟨b, off + k * 5 + 3, none⟩ = some (.int .u8 (x.bind : Nat)) ∧ w.cell? ⟨b, off + k * 5 + 4, none⟩ = some (.bool x.isdef) := by
  have hc := symC_at l k x hk
  obtain ⟨b, off, ea, hb, hx⟩ := h.open_ (by
    intro e0
    have := hc 0 _ rfl
    rw [e0] at this
    simp at this)
  refine ⟨b, off, ea, hb, ?_, ?_, ?_, ?_, ?_⟩
  · exact hx _ _ (hc 0 _ rfl)
  · rw [Nat.add_assoc]; exact hx _ _ (hc 1 _ rfl)
  · rw [Nat.add_assoc]; exact hx _ _ (hc 2 _ rfl)
  · rw [Nat.add_assoc]; exact hx _ _ (hc 3 _ rfl)
  · rw [Nat.add_assoc]; exact hx _ _ (hc 4 _ rfl)

set_option maxRecDepth 100000 in
set_option maxHeartbeats 8000000 in
theorem look_any (A : Option Addr) (n c B : Nat) (b : List UInt8) (ty en ph : Int) (As : Option Addr) (ns cs : Nat) (segs : List El.Sg) (name : ByteArray) (w : World) (hB : B ≤ w.heap.size) (hb : Rd w B 1 A n (bys b)) (hs : Rd w B 6 As ns (segCells segs)) (hn : n ≤ 4294967296) (hns : ns ≤ 4294967296) (hc : n ≤ c) (hfit : ∀ s ∈ segs, SgFit s) (hname : name.size ≤ 4294967296) :
    Calls Try.prog 10 #[.slice A n c, .agg #[.int .u16 ty, .int .u64 en, .int .u64 ph, .slice As ns cs], .string name] w fun e w' => e = .returned (.tuple #[.int .i64 ((Dy.look b segs name).1 : Nat), .bool (Dy.look b segs name).2]) ∧ Below w.heap.size w w' := by
  have hB0 : Below w.heap.size w (w.alloc (.cells #[.int .u16 ty, .int .u64 en, .int .u64 ph, .slice As ns cs] 27)) := (Below.refl _ _).alloc (Nat.le_refl _) _
  have hH0 := Blk.new w 27 [.int .u16 ty, .int .u64 en, .int .u64 ph, .slice As ns cs]
  have KB := hide (both_any A n c B b ty en ph As ns cs segs _ (Nat.le_trans hB hB0.size) (hb.below (hB0.mono hB)) (hs.below (hB0.mono hB)) hn hns hc hfit)
  have z0 := hH0.cell (i := 0) rfl
  have z1 := hH0.cell (i := 1) rfl
  have z2 := hH0.cell (i := 2) rfl
  have z3 := hH0.cell (i := 3) rfl
  have HB0 := hide hB0
  have hsz0 : (w.alloc (.cells #[.int .u16 ty, .int .u64 en, .int .u64 ph, .slice As ns cs] 27)).heap.size = w.heap.size + 1 := by simp
  have Hsz0 := hide hsz0
  obtain ⟨R, hR⟩ : ∃ R, Dy.look b segs name = R := ⟨_, rfl⟩
  rw [hR]
  have HR := hide hR
  clear hb hs hfit hB0 hH0 hsz0 hR
  go_enter Try.func10, Try.ntmps10
  go_wp2_with fail
  refine (unhide KB).mono ?_
  rintro e w1 ⟨hb1, A1, c1, A2, c2, A3, c3, N, Ah, nh, ch, A4, c4, q, rfl, hdy, hnm, hhas⟩
  have hlook := Dy.has_look hhas name
  have hsyms : q = true → (Dy.parse b segs).1.syms.length = N.chain - 1 := fun h => (Dy.has_syms (by rw [← h]; exact hhas)).1
  rw [unhide HR] at hlook
  obtain ⟨⟨D, px⟩, hP⟩ : ∃ x, Dy.parse b segs = x := ⟨_, rfl⟩
  rw [hP] at hdy hlook hsyms ⊢
  dsimp only at hdy hlook hsyms ⊢
  obtain ⟨m2, hm2⟩ : ∃ x, D.syms.length = x := ⟨_, rfl⟩
  obtain ⟨sl, hsl⟩ : ∃ x, 24 * N.chain = x := ⟨_, rfl⟩
  rw [hm2] at hsyms
  rw [hm2, hsl]
  have hfit := hnm.fit
  have hbt := (unhide HB0).trans (hb1.mono (unhide HB0).size)
  have hbs := hbt.size
  have hw1 : w.heap.size < w1.heap.size := by have := hb1.size; rw [unhide Hsz0] at this; exact this
  have e1 : (w1.alloc (.cells #[.slice none 0 0, .string ⟨#[]⟩, .string ⟨#[]⟩, .slice none 0 0, .slice none 0 0] 41)).heap.size = w1.heap.size + 1 := by simp
  have e2 : ((w1.alloc (.cells #[.slice none 0 0, .string ⟨#[]⟩, .string ⟨#[]⟩, .slice none 0 0, .slice none 0 0] 41)).alloc (.cells #[.int .u64 0, .int .u64 0, .slice none 0 0, .slice none 0 0] 57)).heap.size = w1.heap.size + 1 + 1 := by simp
  have bb : Below w1.heap.size w1 ((w1.alloc (.cells #[.slice none 0 0, .string ⟨#[]⟩, .string ⟨#[]⟩, .slice none 0 0, .slice none 0 0] 41)).alloc (.cells #[.int .u64 0, .int .u64 0, .slice none 0 0, .slice none 0 0] 57)) := ((Below.refl _ _).alloc (Nat.le_refl _) _).alloc (by rw [e1]; omega) _
  have HK1 : Hid (Blk ((w1.alloc (.cells #[.slice none 0 0, .string ⟨#[]⟩, .string ⟨#[]⟩, .slice none 0 0, .slice none 0 0] 41)).alloc (.cells #[.int .u64 0, .int .u64 0, .slice none 0 0, .slice none 0 0] 57)) w1.heap.size 41 [.slice none 0 0, .string ⟨#[]⟩, .string ⟨#[]⟩, .slice none 0 0, .slice none 0 0]) := hide ((Blk.new w1 41 [.slice none 0 0, .string ⟨#[]⟩, .string ⟨#[]⟩, .slice none 0 0, .slice none 0 0]).alloc _)
  have HN1 : Hid (Blk ((w1.alloc (.cells #[.slice none 0 0, .string ⟨#[]⟩, .string ⟨#[]⟩, .slice none 0 0, .slice none 0 0] 41)).alloc (.cells #[.int .u64 0, .int .u64 0, .slice none 0 0, .slice none 0 0] 57)) (w1.heap.size + 1) 57 [.int .u64 0, .int .u64 0, .slice none 0 0, .slice none 0 0]) := hide (by have := Blk.new (w1.alloc (.cells #[.slice none 0 0, .string ⟨#[]⟩, .string ⟨#[]⟩, .slice none 0 0, .slice none 0 0] 41)) 57 [.int .u64 0, .int .u64 0, .slice none 0 0, .slice none 0 0]; rw [e1] at this; exact this)
  have hdv : (#[.slice A1 D.needed.length c1, .string D.soname, .string D.run, .slice A2 m2 c2, .slice A3 D.relas.length c3] : Array Value).all (·.oneCell') = true := dyOne _ _ _ _ _ _ _ _ _ _ _
  have HS : Hid (∀ W, W = (((w1.alloc (.cells #[.slice none 0 0, .string ⟨#[]⟩, .string ⟨#[]⟩, .slice none 0 0, .slice none 0 0] 41)).alloc (.cells #[.int .u64 0, .int .u64 0, .slice none 0 0, .slice none 0 0] 57)).setRow w1.heap.size #[.slice A1 D.needed.length c1, .string D.soname, .string D.run, .slice A2 m2 c2, .slice A3 D.relas.length c3]).setRow (w1.heap.size + 1) #[.int .u64 (N.buckets : Nat), .int .u64 (N.chain : Nat), .slice Ah nh ch, .slice A4 sl c4] → Blk W w1.heap.size 41 [.slice A1 D.needed.length c1, .string D.soname, .string D.run, .slice A2 m2 c2, .slice A3 D.relas.length c3] ∧ Blk W (w1.heap.size + 1) 57 [.int .u64 (N.buckets : Nat), .int .u64 (N.chain : Nat), .slice Ah nh ch, .slice A4 sl c4] ∧ Below w.heap.size w W ∧ NmM W W.heap.size b N Ah nh ch A4 c4 ∧ W.ownsRow (w.heap.size + 1) 46 5 (.slice A2 m2 c2) m2 (symC D.syms)) := hide (by
    intro W hW
    subst hW
    have hbw : Below w1.heap.size w1 ((((w1.alloc (.cells #[.slice none 0 0, .string ⟨#[]⟩, .string ⟨#[]⟩, .slice none 0 0, .slice none 0 0] 41)).alloc (.cells #[.int .u64 0, .int .u64 0, .slice none 0 0, .slice none 0 0] 57)).setRow w1.heap.size #[.slice A1 D.needed.length c1, .string D.soname, .string D.run, .slice A2 m2 c2, .slice A3 D.relas.length c3]).setRow (w1.heap.size + 1) #[.int .u64 (N.buckets : Nat), .int .u64 (N.chain : Nat), .slice Ah nh ch, .slice A4 sl c4]) := below_setRow (below_setRow bb (Nat.le_refl _) _) (by omega) _
    refine ⟨(setRow_other _ _ _ _ (by omega)).trans (setRow_heap _ _ _ _ _ _ (unhide HK1)), setRow_heap _ _ _ _ _ _ ((setRow_other _ _ _ _ (by omega)).trans (unhide HN1)), hbt.trans (hbw.mono hbs), hnm.belowSz hbw, ?_⟩
    have := own_below hdy.syms hbw
    rw [unhide Hsz0, hm2] at this
    exact this)
  have HP := hide hP
  have Hm2 := hide hm2
  have Hlook := hide hlook
  have Hsyms := hide hsyms
  have Hsl := hide hsl
  clear hb1 hdy hnm hhas hP hm2 hlook hsyms hbt bb e1 e2 hsl HB0 KB z0 z1 z2 z3
  cases q
  · have HE : Hid (R = (0, false)) := hide (by rw [unhide Hlook]; rfl)
    clear Hlook Hsyms HP Hm2
    go_wp2_with (first
      | ((with_reducible refine (@id (wpList _ _ _ (Oper.mk none (Op.store 41 (.tmp 8) (.tmp 20)) _ _ _ none :: _) _ _) ?_)); refine wpList_store_row rfl 41 (.tmp 8) (.tmp 20) rfl w1.heap.size #[.slice A1 D.needed.length c1, .string D.soname, .string D.run, .slice A2 m2 c2, .slice A3 D.relas.length c3] rfl rfl 41 _ (unhide HK1) dyInfo rfl hdv ?_)
      | ((with_reducible refine (@id (wpList _ _ _ (Oper.mk none (Op.store 57 (.tmp 9) (.tmp 21)) _ _ _ none :: _) _ _) ?_)); refine wpList_store_row rfl 57 (.tmp 9) (.tmp 21) rfl (w1.heap.size + 1) #[.int .u64 (N.buckets : Nat), .int .u64 (N.chain : Nat), .slice Ah nh ch, .slice A4 sl c4] rfl rfl 57 _ ((setRow_other _ _ _ _ (by omega)).trans (unhide HN1)) nmInfo rfl (nmOne _ _ _ _ _ _ _ _) ?_; obtain ⟨W, hW⟩ : ∃ W, (((w1.alloc (.cells #[.slice none 0 0, .string ⟨#[]⟩, .string ⟨#[]⟩, .slice none 0 0, .slice none 0 0] 41)).alloc (.cells #[.int .u64 0, .int .u64 0, .slice none 0 0, .slice none 0 0] 57)).setRow w1.heap.size #[.slice A1 D.needed.length c1, .string D.soname, .string D.run, .slice A2 m2 c2, .slice A3 D.relas.length c3]).setRow (w1.heap.size + 1) #[.int .u64 (N.buckets : Nat), .int .u64 (N.chain : Nat), .slice Ah nh ch, .slice A4 sl c4] = W := ⟨_, rfl⟩; have hws := (unhide HS) W hW.symm; rw [hW]; have HWs := hide hws; clear hws hW)
      | ((with_reducible refine (@id (wpList _ _ _ (Oper.mk _ (Op.load 57 (.tmp 9)) _ _ _ none :: _) _ _) ?_)); refine wpList_load_row rfl 57 (.tmp 9) rfl (w1.heap.size + 1) rfl 57 #[.int .u64 (N.buckets : Nat), .int .u64 (N.chain : Nat), .slice Ah nh ch, .slice A4 sl c4] (0, 0) _ (unhide HWs).2.1 Try.underlying57 rfl nmInfo ?_))
    go_ret2
    rw [unhide HE]
    exact ⟨rfl, (unhide HWs).2.2.1⟩
  go_wp2_with (first
    | ((with_reducible refine (@id (wpList _ _ _ (Oper.mk none (Op.store 41 (.tmp 8) (.tmp 20)) _ _ _ none :: _) _ _) ?_)); refine wpList_store_row rfl 41 (.tmp 8) (.tmp 20) rfl w1.heap.size #[.slice A1 D.needed.length c1, .string D.soname, .string D.run, .slice A2 m2 c2, .slice A3 D.relas.length c3] rfl rfl 41 _ (unhide HK1) dyInfo rfl hdv ?_)
    | ((with_reducible refine (@id (wpList _ _ _ (Oper.mk none (Op.store 57 (.tmp 9) (.tmp 21)) _ _ _ none :: _) _ _) ?_)); refine wpList_store_row rfl 57 (.tmp 9) (.tmp 21) rfl (w1.heap.size + 1) #[.int .u64 (N.buckets : Nat), .int .u64 (N.chain : Nat), .slice Ah nh ch, .slice A4 sl c4] rfl rfl 57 _ ((setRow_other _ _ _ _ (by omega)).trans (unhide HN1)) nmInfo rfl (nmOne _ _ _ _ _ _ _ _) ?_; obtain ⟨W, hW⟩ : ∃ W, (((w1.alloc (.cells #[.slice none 0 0, .string ⟨#[]⟩, .string ⟨#[]⟩, .slice none 0 0, .slice none 0 0] 41)).alloc (.cells #[.int .u64 0, .int .u64 0, .slice none 0 0, .slice none 0 0] 57)).setRow w1.heap.size #[.slice A1 D.needed.length c1, .string D.soname, .string D.run, .slice A2 m2 c2, .slice A3 D.relas.length c3]).setRow (w1.heap.size + 1) #[.int .u64 (N.buckets : Nat), .int .u64 (N.chain : Nat), .slice Ah nh ch, .slice A4 sl c4] = W := ⟨_, rfl⟩; have hws := (unhide HS) W hW.symm; rw [hW]; have HWs := hide hws; clear hws hW)
    | ((with_reducible refine (@id (wpList _ _ _ (Oper.mk _ (Op.load 57 (.tmp 9)) _ _ _ none :: _) _ _) ?_)); refine wpList_load_row rfl 57 (.tmp 9) rfl (w1.heap.size + 1) rfl 57 #[.int .u64 (N.buckets : Nat), .int .u64 (N.chain : Nat), .slice Ah nh ch, .slice A4 sl c4] (0, 0) _ (unhide HWs).2.1 Try.underlying57 rfl nmInfo ?_))
  have hlook := unhide Hlook
  rw [if_pos trivial] at hlook
  have hm2c : m2 = N.chain - 1 := by have := unhide Hsyms; simpa using this
  have KL := links_any W.heap.size b N Ah nh ch A4 c4 name W (Nat.le_refl _) (unhide HWs).2.2.2.1 hname
  have hmem := Dy.links_mem (b := b) (n := N) (name := name.data.toList)
  have hlen := Dy.links_len (b := b) (n := N) (name := name.data.toList)
  rw [unhide Hsl] at KL
  obtain ⟨⟨ls, en2⟩, hls⟩ : ∃ x, Dy.links b N name.data.toList = x := ⟨_, rfl⟩
  rw [hls] at hlook KL hmem hlen
  dsimp only at hlook hmem hlen
  have HKL := hide KL
  have Hlk := hide hlook
  have Hmem := hide hmem
  have hll : ls.length ≤ 65 := by omega
  clear KL hlook hmem hls Hlook Hsyms hlen
  refine (unhide HKL).mono ?_
  rintro e w4 ⟨A5, c5, rfl, ho5, hb5⟩
  dsimp only at ho5 ⊢
  obtain ⟨gD, gN, gB, -, gS⟩ := unhide HWs
  have HB4 := hide (gB.trans (hb5.mono gB.size))
  have x3 := (gD.belowSz hb5).cell (i := 3) rfl
  have HSy := hide (Rd.of_own (own_below gS hb5))
  have HO5 := hide (Rd.of_own ho5)
  obtain ⟨k5, hk5⟩ : ∃ k, ls.length = k := ⟨_, rfl⟩
  rw [hk5] at hll ⊢
  have hO := unhide HO5
  rw [hk5] at hO
  have HO6 := hide hO
  have Hk5 := hide hk5
  clear hb5 ho5 gD gN gB gS hO hk5 HO5 HKL
  go_wp2_with fail
  go_loopg [34] k5 (fun gk iv wr => ∃ j : Nat, gk = k5 - j ∧ j ≤ k5 ∧ iv = .int .i64 j ∧ w4 = wr ∧ R = Dy.lookIn D name (ls.drop j))
  case atStart => exact ⟨0, by omega, Nat.zero_le _, rfl, rfl, by simpa using unhide Hlk⟩
  case round =>
  obtain ⟨j, hgk, hj, rfl, rfl, hr⟩ := hrel
  have HR3 := hide hr
  clear hr Hlk
  by_cases hlt : j < k5
  case neg =>
    have HE : Hid (R = (0, false)) := hide (by rw [unhide HR3, List.drop_of_length_le (by rw [unhide Hk5]; omega)]; rfl)
    have ige : ¬ (j : Int) < (k5 : Int) := by omega
    clear HR3
    go_wp2_with fail
    go_ret2
    rw [unhide HE]
    exact ⟨rfl, unhide HB4⟩
  have ilt : (j : Int) < (k5 : Int) := by omega
  obtain ⟨i, hi⟩ : ∃ i, ls[j]? = some i := ⟨_, List.getElem?_eq_getElem (by rw [unhide Hk5]; exact hlt)⟩
  obtain ⟨hi0, hic⟩ := (unhide Hmem) i (List.mem_of_getElem? hi)
  obtain ⟨b5, o5, hA5, -, hc5⟩ := (unhide HO6).at_ (k := j) (u := .int .u64 (i : Nat)) (by unfold lkV; rw [List.getElem?_map, hi]; rfl)
  subst hA5
  obtain ⟨k, hk⟩ : ∃ k, i - 1 = k := ⟨_, rfl⟩
  have hkm : k < m2 := by omega
  obtain ⟨s, hs⟩ : ∃ s, D.syms[k]? = some s := ⟨_, List.getElem?_eq_getElem (by rw [unhide Hm2]; exact hkm)⟩
  obtain ⟨b6, o6, hA6, -, y0, -⟩ := sym_at (unhide HSy) hs
  subst hA6
  have hd := unhide HR3
  rw [List.drop_eq_getElem_cons (by rw [unhide Hk5]; exact hlt), show ls[j]'(by rw [unhide Hk5]; exact hlt) = i from (List.getElem?_eq_some_iff.1 hi).2, Dy.lookIn_cons (by rw [hk]; exact hs), hk] at hd
  obtain ⟨nm, hnm⟩ : ∃ x, s.name = x := ⟨_, rfl⟩
  rw [hnm] at y0
  have hik : (i : Int) - 1 = (k : Int) := by omega
  have hiw : IntKind.i64.wrap (i : Int) = (i : Int) := by rw [IntKind.wrap_i64]; omega
  have hkI : (k : Int) < (m2 : Int) := by omega
  rw [hnm] at hd
  by_cases he : nm = name
  case pos =>
    have HE : Hid (R = (k, true)) := hide (by rw [hd, he, if_pos rfl])
    subst he
    clear hd HR3 hi hs hnm hk hi0
    go_wp2_with fail
    go_ret2
    rw [unhide HE]
    exact ⟨rfl, unhide HB4⟩
  have HE : Hid (R = Dy.lookIn D name (ls.drop (j + 1))) := hide (by rw [hd, if_neg he])
  have he3 : (nm.toList == name.toList) = false := by rw [beq_toList]; exact decide_eq_false he
  clear hd HR3 hi hs hnm hk hi0
  go_wp2_with fail
  go_roundg (k5 - (j + 1))
  case measure => omega
  case rel => exact ⟨j + 1, rfl, by omega, by go_num, rfl, unhide HE⟩
end Go.Proofs.Ytdminnhfgdoibaa
namespace Go.Proofs.Ytdminnhfgdoibaa
set_option linter.unusedVariables false
set_option linter.unusedSimpArgs false
open Go.RowKit

/-- What Right goes by. -/
def LkM (w W : World) (g : Nat) (dv nv : List Value) (b : List UInt8) (N : Dy.Names) (Ah : Option Addr) (nh ch : Nat) (A4 : Option Addr) (c4 : Nat) (A2 : Option Addr) (m2 c2 : Nat) (S : List Dy.Sym) : Prop :=
  Blk W g 41 dv ∧ Blk W (g + 1) 57 nv ∧ Below w.heap.size w W ∧ NmM W W.heap.size b N Ah nh ch A4 c4 ∧ W.ownsRow (w.heap.size + 1) 46 5 (.slice A2 m2 c2) m2 (symC S)
theorem LkM.belowSz {w W W' : World} {g : Nat} {dv nv : List Value} {b : List UInt8} {N : Dy.Names} {Ah : Option Addr} {nh ch : Nat} {A4 : Option Addr} {c4 : Nat} {A2 : Option Addr} {m2 c2 : Nat} {S : List Dy.Sym} (h : LkM w W g dv nv b N Ah nh ch A4 c4 A2 m2 c2 S) (hb : Below W.heap.size W W') : LkM w W' g dv nv b N Ah nh ch A4 c4 A2 m2 c2 S :=
  ⟨h.1.belowSz hb, h.2.1.belowSz hb, h.2.2.1.trans (hb.mono h.2.2.1.size), h.2.2.2.1.belowSz hb, own_below h.2.2.2.2 hb⟩
theorem contains_take {l : List Nat} {t x y : Nat} (h : l[t]? = some x) : (l.take (t + 1)).contains y = ((l.take t).contains y || decide (x = y)) := by
  rw [List.take_add_one, h, Bool.eq_iff_iff, Bool.or_eq_true, decide_eq_true_eq, List.contains_iff_mem, List.contains_iff_mem, List.mem_append]
  constructor
  · rintro (h2 | h2)
    · exact .inl h2
    · simp at h2
      exact .inr h2.symm
  · rintro (h2 | h2)
    · exact .inl h2
    · exact .inr (by simp [h2])
theorem empty_of {nm : ByteArray} (h : nm.size = 0) : nm = ⟨#[]⟩ := by
  apply ByteArray.ext
  exact Array.eq_empty_of_size_eq_zero h

set_option maxRecDepth 100000 in
set_option maxHeartbeats 8000000 in
theorem right_any (A : Option Addr) (n c B : Nat) (b : List UInt8) (ty en ph : Int) (As : Option Addr) (ns cs : Nat) (segs : List El.Sg) (w : World) (hB : B ≤ w.heap.size) (hb : Rd w B 1 A n (bys b)) (hs : Rd w B 6 As ns (segCells segs)) (hn : n ≤ 4294967296) (hns : ns ≤ 4294967296) (hc : n ≤ c) (hfit : ∀ s ∈ segs, SgFit s) :
    Calls Try.prog 14 #[.slice A n c, .agg #[.int .u16 ty, .int .u64 en, .int .u64 ph, .slice As ns cs]] w fun e w' => e = .returned (.bool (Dy.right b segs)) ∧ Below w.heap.size w w' := by
  have hB0 : Below w.heap.size w (w.alloc (.cells #[.int .u16 ty, .int .u64 en, .int .u64 ph, .slice As ns cs] 27)) := (Below.refl _ _).alloc (Nat.le_refl _) _
  have hH0 := Blk.new w 27 [.int .u16 ty, .int .u64 en, .int .u64 ph, .slice As ns cs]
  have KB := hide (both_any A n c B b ty en ph As ns cs segs _ (Nat.le_trans hB hB0.size) (hb.below (hB0.mono hB)) (hs.below (hB0.mono hB)) hn hns hc hfit)
  have z0 := hH0.cell (i := 0) rfl
  have z1 := hH0.cell (i := 1) rfl
  have z2 := hH0.cell (i := 2) rfl
  have z3 := hH0.cell (i := 3) rfl
  have HB0 := hide hB0
  have Hbl : Hid (b.length = n) := hide (by have := hb.1; simp [bys] at this; omega)
  have hsz0 : (w.alloc (.cells #[.int .u16 ty, .int .u64 en, .int .u64 ph, .slice As ns cs] 27)).heap.size = w.heap.size + 1 := by simp
  have Hsz0 := hide hsz0
  obtain ⟨R, hR⟩ : ∃ R, Dy.right b segs = R := ⟨_, rfl⟩
  rw [hR]
  have HR := hide hR
  clear hb hs hfit hB0 hH0 hsz0 hR
  go_enter Try.func14, Try.ntmps14
  go_wp2_with fail
  refine (unhide KB).mono ?_
  rintro e w1 ⟨hb1, A1, c1, A2, c2, A3, c3, N, Ah, nh, ch, A4, c4, q, rfl, hdy, hnm, hhas⟩
  have hlook := Dy.has_right hhas
  have hnms : q = true → ∀ x ∈ (Dy.parse b segs).1.syms, x.name.size ≤ b.length := fun h => (Dy.has_syms (by rw [← h]; exact hhas)).2
  have hsyms : q = true → (Dy.parse b segs).1.syms.length = N.chain - 1 := fun h => (Dy.has_syms (by rw [← h]; exact hhas)).1
  rw [unhide HR] at hlook
  obtain ⟨⟨D, px⟩, hP⟩ : ∃ x, Dy.parse b segs = x := ⟨_, rfl⟩
  rw [hP] at hdy hlook hsyms hnms ⊢
  dsimp only at hdy hlook hsyms hnms ⊢
  obtain ⟨m2, hm2⟩ : ∃ x, D.syms.length = x := ⟨_, rfl⟩
  obtain ⟨sl, hsl⟩ : ∃ x, 24 * N.chain = x := ⟨_, rfl⟩
  rw [hm2] at hsyms
  rw [hm2, hsl]
  have hfit := hnm.fit
  have hbt := (unhide HB0).trans (hb1.mono (unhide HB0).size)
  have hbs := hbt.size
  have hw1 : w.heap.size < w1.heap.size := by have := hb1.size; rw [unhide Hsz0] at this; exact this
  have e1 : (w1.alloc (.cells #[.slice none 0 0, .string ⟨#[]⟩, .string ⟨#[]⟩, .slice none 0 0, .slice none 0 0] 41)).heap.size = w1.heap.size + 1 := by simp
  have e2 : ((w1.alloc (.cells #[.slice none 0 0, .string ⟨#[]⟩, .string ⟨#[]⟩, .slice none 0 0, .slice none 0 0] 41)).alloc (.cells #[.int .u64 0, .int .u64 0, .slice none 0 0, .slice none 0 0] 57)).heap.size = w1.heap.size + 1 + 1 := by simp
  have bb : Below w1.heap.size w1 ((w1.alloc (.cells #[.slice none 0 0, .string ⟨#[]⟩, .string ⟨#[]⟩, .slice none 0 0, .slice none 0 0] 41)).alloc (.cells #[.int .u64 0, .int .u64 0, .slice none 0 0, .slice none 0 0] 57)) := ((Below.refl _ _).alloc (Nat.le_refl _) _).alloc (by rw [e1]; omega) _
  have HK1 : Hid (Blk ((w1.alloc (.cells #[.slice none 0 0, .string ⟨#[]⟩, .string ⟨#[]⟩, .slice none 0 0, .slice none 0 0] 41)).alloc (.cells #[.int .u64 0, .int .u64 0, .slice none 0 0, .slice none 0 0] 57)) w1.heap.size 41 [.slice none 0 0, .string ⟨#[]⟩, .string ⟨#[]⟩, .slice none 0 0, .slice none 0 0]) := hide ((Blk.new w1 41 [.slice none 0 0, .string ⟨#[]⟩, .string ⟨#[]⟩, .slice none 0 0, .slice none 0 0]).alloc _)
  have HN1 : Hid (Blk ((w1.alloc (.cells #[.slice none 0 0, .string ⟨#[]⟩, .string ⟨#[]⟩, .slice none 0 0, .slice none 0 0] 41)).alloc (.cells #[.int .u64 0, .int .u64 0, .slice none 0 0, .slice none 0 0] 57)) (w1.heap.size + 1) 57 [.int .u64 0, .int .u64 0, .slice none 0 0, .slice none 0 0]) := hide (by have := Blk.new (w1.alloc (.cells #[.slice none 0 0, .string ⟨#[]⟩, .string ⟨#[]⟩, .slice none 0 0, .slice none 0 0] 41)) 57 [.int .u64 0, .int .u64 0, .slice none 0 0, .slice none 0 0]; rw [e1] at this; exact this)
  have hdv : (#[.slice A1 D.needed.length c1, .string D.soname, .string D.run, .slice A2 m2 c2, .slice A3 D.relas.length c3] : Array Value).all (·.oneCell') = true := dyOne _ _ _ _ _ _ _ _ _ _ _
  have HS : Hid (∀ W, W = (((w1.alloc (.cells #[.slice none 0 0, .string ⟨#[]⟩, .string ⟨#[]⟩, .slice none 0 0, .slice none 0 0] 41)).alloc (.cells #[.int .u64 0, .int .u64 0, .slice none 0 0, .slice none 0 0] 57)).setRow w1.heap.size #[.slice A1 D.needed.length c1, .string D.soname, .string D.run, .slice A2 m2 c2, .slice A3 D.relas.length c3]).setRow (w1.heap.size + 1) #[.int .u64 (N.buckets : Nat), .int .u64 (N.chain : Nat), .slice Ah nh ch, .slice A4 sl c4] → LkM w W w1.heap.size [.slice A1 D.needed.length c1, .string D.soname, .string D.run, .slice A2 m2 c2, .slice A3 D.relas.length c3] [.int .u64 (N.buckets : Nat), .int .u64 (N.chain : Nat), .slice Ah nh ch, .slice A4 sl c4] b N Ah nh ch A4 c4 A2 m2 c2 D.syms) := hide (by
    intro W hW
    subst hW
    have hbw : Below w1.heap.size w1 ((((w1.alloc (.cells #[.slice none 0 0, .string ⟨#[]⟩, .string ⟨#[]⟩, .slice none 0 0, .slice none 0 0] 41)).alloc (.cells #[.int .u64 0, .int .u64 0, .slice none 0 0, .slice none 0 0] 57)).setRow w1.heap.size #[.slice A1 D.needed.length c1, .string D.soname, .string D.run, .slice A2 m2 c2, .slice A3 D.relas.length c3]).setRow (w1.heap.size + 1) #[.int .u64 (N.buckets : Nat), .int .u64 (N.chain : Nat), .slice Ah nh ch, .slice A4 sl c4]) := below_setRow (below_setRow bb (Nat.le_refl _) _) (by omega) _
    refine ⟨(setRow_other _ _ _ _ (by omega)).trans (setRow_heap _ _ _ _ _ _ (unhide HK1)), setRow_heap _ _ _ _ _ _ ((setRow_other _ _ _ _ (by omega)).trans (unhide HN1)), hbt.trans (hbw.mono hbs), hnm.belowSz hbw, ?_⟩
    have := own_below hdy.syms hbw
    rw [unhide Hsz0, hm2] at this
    exact this)
  have HP := hide hP
  have Hnms := hide hnms
  have Hm2 := hide hm2
  have Hlook := hide hlook
  have Hsyms := hide hsyms
  have Hsl := hide hsl
  clear hnms hb1 hdy hnm hhas hP hm2 hlook hsyms hbt bb e1 e2 hsl HB0 KB z0 z1 z2 z3
  cases q
  · have HE : Hid (R = decide (px = 0)) := hide (by rw [unhide Hlook]; rfl)
    clear Hlook Hsyms HP Hm2 Hnms
    by_cases hp0 : px = 0
    · have HE2 : Hid (R = true) := hide (by rw [unhide HE]; exact decide_eq_true hp0)
      subst hp0
      clear HE
      go_wp2_with (first
        | ((with_reducible refine (@id (wpList _ _ _ (Oper.mk none (Op.store 41 (.tmp 5) (.tmp 20)) _ _ _ none :: _) _ _) ?_)); refine wpList_store_row rfl 41 (.tmp 5) (.tmp 20) rfl w1.heap.size #[.slice A1 D.needed.length c1, .string D.soname, .string D.run, .slice A2 m2 c2, .slice A3 D.relas.length c3] rfl rfl 41 _ (unhide HK1) dyInfo rfl hdv ?_)
        | ((with_reducible refine (@id (wpList _ _ _ (Oper.mk none (Op.store 57 (.tmp 6) (.tmp 21)) _ _ _ none :: _) _ _) ?_)); refine wpList_store_row rfl 57 (.tmp 6) (.tmp 21) rfl (w1.heap.size + 1) #[.int .u64 (N.buckets : Nat), .int .u64 (N.chain : Nat), .slice Ah nh ch, .slice A4 sl c4] rfl rfl 57 _ ((setRow_other _ _ _ _ (by omega)).trans (unhide HN1)) nmInfo rfl (nmOne _ _ _ _ _ _ _ _) ?_; obtain ⟨W, hW⟩ : ∃ W, (((w1.alloc (.cells #[.slice none 0 0, .string ⟨#[]⟩, .string ⟨#[]⟩, .slice none 0 0, .slice none 0 0] 41)).alloc (.cells #[.int .u64 0, .int .u64 0, .slice none 0 0, .slice none 0 0] 57)).setRow w1.heap.size #[.slice A1 D.needed.length c1, .string D.soname, .string D.run, .slice A2 m2 c2, .slice A3 D.relas.length c3]).setRow (w1.heap.size + 1) #[.int .u64 (N.buckets : Nat), .int .u64 (N.chain : Nat), .slice Ah nh ch, .slice A4 sl c4] = W := ⟨_, rfl⟩; have hws := (unhide HS) W hW.symm; rw [hW]; have HWs := hide hws; have x3 := hws.1.cell (i := 3) rfl; clear hws hW))
      go_ret
      rw [unhide HE2]
      exact ⟨rfl, (unhide HWs).2.2.1⟩
    · have HE2 : Hid (R = false) := hide (by rw [unhide HE]; exact decide_eq_false hp0)
      clear HE
      go_wp2_with (first
        | ((with_reducible refine (@id (wpList _ _ _ (Oper.mk none (Op.store 41 (.tmp 5) (.tmp 20)) _ _ _ none :: _) _ _) ?_)); refine wpList_store_row rfl 41 (.tmp 5) (.tmp 20) rfl w1.heap.size #[.slice A1 D.needed.length c1, .string D.soname, .string D.run, .slice A2 m2 c2, .slice A3 D.relas.length c3] rfl rfl 41 _ (unhide HK1) dyInfo rfl hdv ?_)
        | ((with_reducible refine (@id (wpList _ _ _ (Oper.mk none (Op.store 57 (.tmp 6) (.tmp 21)) _ _ _ none :: _) _ _) ?_)); refine wpList_store_row rfl 57 (.tmp 6) (.tmp 21) rfl (w1.heap.size + 1) #[.int .u64 (N.buckets : Nat), .int .u64 (N.chain : Nat), .slice Ah nh ch, .slice A4 sl c4] rfl rfl 57 _ ((setRow_other _ _ _ _ (by omega)).trans (unhide HN1)) nmInfo rfl (nmOne _ _ _ _ _ _ _ _) ?_; obtain ⟨W, hW⟩ : ∃ W, (((w1.alloc (.cells #[.slice none 0 0, .string ⟨#[]⟩, .string ⟨#[]⟩, .slice none 0 0, .slice none 0 0] 41)).alloc (.cells #[.int .u64 0, .int .u64 0, .slice none 0 0, .slice none 0 0] 57)).setRow w1.heap.size #[.slice A1 D.needed.length c1, .string D.soname, .string D.run, .slice A2 m2 c2, .slice A3 D.relas.length c3]).setRow (w1.heap.size + 1) #[.int .u64 (N.buckets : Nat), .int .u64 (N.chain : Nat), .slice Ah nh ch, .slice A4 sl c4] = W := ⟨_, rfl⟩; have hws := (unhide HS) W hW.symm; rw [hW]; have HWs := hide hws; have x3 := hws.1.cell (i := 3) rfl; clear hws hW))
      go_ret
      rw [unhide HE2]
      exact ⟨by first | rfl | simp [hp0], (unhide HWs).2.2.1⟩
  have hlook := unhide Hlook
  rw [if_pos rfl] at hlook
  have hm2c : m2 = N.chain - 1 := by have := unhide Hsyms; simpa using this
  have hnm9 : ∀ x ∈ D.syms, x.name.size ≤ 4294967296 := fun x hx => Nat.le_trans (by have := unhide Hnms; simp only [forall_const] at this; exact this x hx) (by rw [unhide Hbl]; exact hn)
  have Hnm9 := hide hnm9
  have Hlk := hide hlook
  have hm64 : m2 ≤ 65 := by omega
  clear hlook Hlook Hsyms Hnms hnm9 hm2c
  have x3 := ((unhide HS) _ rfl).1.cell (i := 3) rfl
  go_wp2_with (first
    | ((with_reducible refine (@id (wpList _ _ _ (Oper.mk none (Op.store 41 (.tmp 5) (.tmp 20)) _ _ _ none :: _) _ _) ?_)); refine wpList_store_row rfl 41 (.tmp 5) (.tmp 20) rfl w1.heap.size #[.slice A1 D.needed.length c1, .string D.soname, .string D.run, .slice A2 m2 c2, .slice A3 D.relas.length c3] rfl rfl 41 _ (unhide HK1) dyInfo rfl hdv ?_)
    | ((with_reducible refine (@id (wpList _ _ _ (Oper.mk none (Op.store 57 (.tmp 6) (.tmp 21)) _ _ _ none :: _) _ _) ?_)); refine wpList_store_row rfl 57 (.tmp 6) (.tmp 21) rfl (w1.heap.size + 1) #[.int .u64 (N.buckets : Nat), .int .u64 (N.chain : Nat), .slice Ah nh ch, .slice A4 sl c4] rfl rfl 57 _ ((setRow_other _ _ _ _ (by omega)).trans (unhide HN1)) nmInfo rfl (nmOne _ _ _ _ _ _ _ _) ?_))
  clear x3
  go_loopg [31] m2 (fun gk iv wr => ∃ j : Nat, gk = m2 - j ∧ j ≤ m2 ∧ iv = .int .i64 j ∧ LkM w wr w1.heap.size [.slice A1 D.needed.length c1, .string D.soname, .string D.run, .slice A2 m2 c2, .slice A3 D.relas.length c3] [.int .u64 (N.buckets : Nat), .int .u64 (N.chain : Nat), .slice Ah nh ch, .slice A4 sl c4] b N Ah nh ch A4 c4 A2 m2 c2 D.syms ∧ R = Dy.rightFrom b N (D.syms.drop j) j)
  case atStart => exact ⟨0, by omega, Nat.zero_le _, rfl, (unhide HS) _ rfl, by simpa using unhide Hlk⟩
  case round =>
  obtain ⟨j, hgk, hj, rfl, hlm, hr⟩ := hrel
  have HM := hide hlm
  have HR3 := hide hr
  clear hr Hlk hlm HS HK1 HN1
  by_cases hlt : j < m2
  case neg =>
    have HE : Hid (R = true) := hide (by rw [unhide HR3, List.drop_of_length_le (by rw [unhide Hm2]; omega)]; rfl)
    have ige : ¬ (j : Int) < (m2 : Int) := by omega
    clear HR3
    go_wp2_with fail
    go_ret
    rw [unhide HE]
    exact ⟨rfl, (unhide HM).2.2.1⟩
  have ilt : (j : Int) < (m2 : Int) := by omega
  obtain ⟨s, hs⟩ : ∃ s, D.syms[j]? = some s := ⟨_, List.getElem?_eq_getElem (by rw [unhide Hm2]; exact hlt)⟩
  obtain ⟨b6, o6, hA6, -, y0, y1, y2, y3, y4⟩ := sym_at (Rd.of_own (unhide HM).2.2.2.2) hs
  subst hA6
  have hd := unhide HR3
  rw [List.drop_eq_getElem_cons (by rw [unhide Hm2]; exact hlt), show D.syms[j]'(by rw [unhide Hm2]; exact hlt) = s from (List.getElem?_eq_some_iff.1 hs).2, Dy.rightFrom] at hd
  have hns2 : s.name.size ≤ 4294967296 := (unhide Hnm9) s (List.mem_of_getElem? hs)
  obtain ⟨nm, s1, s2, s3, s4⟩ := s
  dsimp only at y0 y1 y2 y3 y4 hd hns2
  have HM1 := hide ((unhide HM).belowSz ((Below.refl _ _).alloc (Nat.le_refl _) (.cells #[.string nm, .int .u64 (s1 : Nat), .int .u64 (s2 : Nat), .int .u8 (s3 : Nat), .bool s4] 46)))
  have hE1 := Blk.new wr 46 [.string nm, .int .u64 (s1 : Nat), .int .u64 (s2 : Nat), .int .u8 (s3 : Nat), .bool s4]
  have v0 := hE1.cell (i := 0) rfl
  have hd9 := hide hd
  clear hd HR3 hs hE1
  by_cases hz : nm.size = 0
  case pos =>
    have hnil := empty_of hz
    subst hnil
    have HE : Hid (R = Dy.rightFrom b N (D.syms.drop (j + 1)) (j + 1)) := hide (by have := unhide hd9; rw [decide_eq_true (show (⟨#[]⟩ : ByteArray).size = 0 from rfl), Bool.true_or, Bool.true_and] at this; exact this)
    clear hd9 hz
    go_wp2_with fail
    go_roundg (m2 - (j + 1))
    case measure => omega
    case rel => exact ⟨j + 1, rfl, by omega, by go_num, unhide HM1, unhide HE⟩
  have hq0 : nm.toList.isEmpty = false := by
    rw [Lib.toList_data, List.isEmpty_eq_false_iff]
    intro h
    exact hz (by show nm.data.size = 0; rw [← Array.length_toList, h]; rfl)
  have hd := unhide hd9
  rw [decide_eq_false hz, Bool.false_or] at hd
  have KL := links_any _ b N Ah nh ch A4 c4 nm (wr.alloc (.cells #[.string nm, .int .u64 (s1 : Nat), .int .u64 (s2 : Nat), .int .u8 (s3 : Nat), .bool s4] 46)) (Nat.le_refl _) (unhide HM1).2.2.2.1 hns2
  have hlen := Dy.links_len (b := b) (n := N) (name := nm.data.toList)
  rw [unhide Hsl] at KL
  obtain ⟨⟨ls, en2⟩, hls⟩ : ∃ x, Dy.links b N nm.data.toList = x := ⟨_, rfl⟩
  rw [hls] at KL hlen hd
  dsimp only at hlen hd
  have HKL := hide KL
  have Hd := hide hd
  have hll : ls.length ≤ 65 := by omega
  clear KL hls hlen hd hd9
  go_wp2_with ((with_reducible refine (@id (wpList _ _ _ (Oper.mk _ (Op.load 57 (.tmp 6)) _ _ _ none :: _) _ _) ?_)); refine wpList_load_row rfl 57 (.tmp 6) rfl (w1.heap.size + 1) rfl 57 #[.int .u64 (N.buckets : Nat), .int .u64 (N.chain : Nat), .slice Ah nh ch, .slice A4 sl c4] (0, 0) _ (unhide HM1).2.1 Try.underlying57 rfl nmInfo ?_)
  refine (unhide HKL).mono ?_
  rintro e w5 ⟨A5, c5, rfl, ho5, hb5⟩
  dsimp only at ho5 ⊢
  have HM5 := hide ((unhide HM1).belowSz hb5)
  have HO5 := hide (Rd.of_own ho5)
  obtain ⟨k5, hk5⟩ : ∃ k, ls.length = k := ⟨_, rfl⟩
  rw [hk5] at hll ⊢
  have hO := unhide HO5
  rw [hk5] at hO
  have HO6 := hide hO
  have Hk5 := hide hk5
  clear hb5 ho5 hO hk5 HO5 HKL HM1 HM y0 y1 y2 y3 y4 v0 hq0
  go_wp2_with fail
  go_loopg [13, 48] k5 (fun gk2 fv iv2 wr2 => ∃ t : Nat, gk2 = k5 - t ∧ t ≤ k5 ∧ iv2 = .int .i64 t ∧ fv = .bool ((ls.take t).contains (j + 1)) ∧ w5 = wr2)
  case atStart => exact ⟨0, by omega, Nat.zero_le _, rfl, rfl, rfl⟩
  case round =>
  obtain ⟨t, hgk2, ht, rfl, rfl, rfl⟩ := hrel
  by_cases hlt2 : t < k5
  case neg =>
    have htk : ls.take t = ls := List.take_of_length_le (by rw [unhide Hk5]; omega)
    have ige : ¬ (t : Int) < (k5 : Int) := by omega
    have hd := unhide Hd
    rw [htk]
    obtain ⟨fb, hfb⟩ : ∃ x, ls.contains (j + 1) = x := ⟨_, rfl⟩
    rw [hfb] at hd ⊢
    have Hd2 := hide hd
    clear hd htk hfb Hd
    cases en2
    · have HE : Hid (R = false) := hide (by rw [unhide Hd2]; rfl)
      clear Hd2
      go_wp2_with fail
      go_ret
      rw [unhide HE]
      exact ⟨rfl, (unhide HM5).2.2.1⟩
    · cases fb
      · have HE : Hid (R = false) := hide (by rw [unhide Hd2]; rfl)
        clear Hd2
        go_wp2_with fail
        go_ret
        rw [unhide HE]
        exact ⟨rfl, (unhide HM5).2.2.1⟩
      · have HE : Hid (R = Dy.rightFrom b N (D.syms.drop (j + 1)) (j + 1)) := hide (by rw [unhide Hd2]; rfl)
        clear Hd2
        go_wp2_with fail
        go_roundg (m2 - (j + 1))
        case measure => omega
        case rel => exact ⟨j + 1, rfl, by omega, by go_num, unhide HM5, unhide HE⟩
  have ilt2 : (t : Int) < (k5 : Int) := by omega
  obtain ⟨x, hx⟩ : ∃ i, ls[t]? = some i := ⟨_, List.getElem?_eq_getElem (by rw [unhide Hk5]; exact hlt2)⟩
  obtain ⟨b5, o5, hA5, -, hc5⟩ := (unhide HO6).at_ (k := t) (u := .int .u64 (x : Nat)) (by unfold lkV; rw [List.getElem?_map, hx]; rfl)
  subst hA5
  have hct := contains_take (y := j + 1) hx
  obtain ⟨fb, hfb⟩ : ∃ y, (ls.take t).contains (j + 1) = y := ⟨_, rfl⟩
  rw [hfb] at hct ⊢
  have Hct := hide hct
  have hw1 : IntKind.u64.wrap ((j : Int) + 1) = (j : Int) + 1 := by rw [IntKind.wrap_u64]; omega
  clear hct hx hfb Hd
  cases fb
  · by_cases hxe : x = j + 1
    · have hxI : (x : Int) = (j : Int) + 1 := by omega
      have HE : Hid ((ls.take (t + 1)).contains (j + 1) = true) := hide (by rw [unhide Hct, decide_eq_true hxe]; rfl)
      clear Hct hxe
      go_wp2_with fail
      go_roundg (k5 - (t + 1))
      case measure => omega
      case rel => exact ⟨t + 1, rfl, by omega, by go_num, by first | (rw [unhide HE]; done) | (rw [unhide HE]; first | rfl | (simp; omega)), rfl⟩
    · have hxI : ¬ (x : Int) = (j : Int) + 1 := by omega
      have HE : Hid ((ls.take (t + 1)).contains (j + 1) = false) := hide (by rw [unhide Hct, decide_eq_false hxe]; rfl)
      clear Hct hxe
      go_wp2_with fail
      go_roundg (k5 - (t + 1))
      case measure => omega
      case rel => exact ⟨t + 1, rfl, by omega, by go_num, by first | (rw [unhide HE]; done) | (rw [unhide HE]; first | rfl | (simp; omega)), rfl⟩
  · have HE : Hid ((ls.take (t + 1)).contains (j + 1) = true) := hide (by rw [unhide Hct]; rfl)
    clear Hct
    go_wp2_with fail
    go_roundg (k5 - (t + 1))
    case measure => omega
    case rel => exact ⟨t + 1, rfl, by omega, by go_num, by rw [unhide HE], rfl⟩
end Go.Proofs.Ytdminnhfgdoibaa
namespace Go.Proofs.Ytdminnhfgdoibaa
set_option linter.unusedVariables false
set_option linter.unusedSimpArgs false
open Go.RowKit

theorem bys_at' {b : List UInt8} {i : Nat} {x : UInt8} (h : b[i]? = some x) : (bys b)[i]? = some (.int .u8 x.toNat) := by simp [bys, h]

/-- What has been copied from k on. -/
def backTo (b : List UInt8) (k : Nat) : List Value := List.replicate k (.int .u8 0) ++ bys (b.drop k)
theorem backTo_set {b : List UInt8} {k : Nat} {x : UInt8} (h : b[k]? = some x) : (backTo b (k + 1)).set k (.int .u8 x.toNat) = backTo b k := by
  unfold backTo
  rw [List.drop_eq_getElem_cons (i := k) (by have := (List.getElem?_eq_some_iff.1 h).1; exact this)]
  have hx : b[k]'((List.getElem?_eq_some_iff.1 h).1) = x := (List.getElem?_eq_some_iff.1 h).2
  rw [hx, List.replicate_succ', List.append_assoc]
  rw [List.set_append]
  simp [bys]

set_option maxRecDepth 20000 in
set_option maxHeartbeats 1000000 in
theorem copyBytes_any (A : Option Addr) (m c B : Nat) (b : List UInt8) (w : World) (hB : B ≤ w.heap.size) (hb : Rd w B 1 A m (bys b)) (hm : m ≤ 4294967296) :
    Calls Try.prog 63 #[.slice A m c] w fun e w' => ∃ A' c', e = .returned (.slice A' m c') ∧ w'.ownsRow w.heap.size 5 1 (.slice A' m c') m (bys b) ∧ Below w.heap.size w w' := by
  have hbl : b.length = m := by simpa [bys] using hb.len1
  rcases Nat.eq_zero_or_pos m with rfl | hpos
  · have hb0 : b = [] := List.eq_nil_of_length_eq_zero hbl
    subst hb0
    clear hb hbl
    go_enter Try.func63, Try.ntmps63
    go_wp2
    go_ret
    exact ⟨none, 0, rfl, World.ownsRow_nil _ _ _ _, Below.refl _ _⟩
  have hne : decide (m = 0) = false := by simp; omega
  obtain ⟨i, hi, hz0, hz1, hz2⟩ := info_parts byteInfo
  have Hb := hide hb
  have Hbl := hide hbl
  have Hi := hide hi
  have Hz0 := hide hz0
  have Hz1 := hide hz1
  have Hz2 := hide hz2
  clear hb hbl hi hz0 hz1 hz2
  go_enter Try.func63, Try.ntmps63
  go_wp2_with (at_make; refine wpList_make_full _ rfl _ _ 22 rfl w.heap.size 5 i (.int .u8 0) 1 Try.underlying22 (unhide Hi) (unhide Hz0) (unhide Hz1) _ _ _ _ m rfl rfl rfl rfl (by rw [unhide Hz2]; omega) (by unfold maxLen; omega) (Nat.le_refl _) ?_; intro w1 hown hgrow; have hb1 := (Below.refl w.heap.size w).grown hgrow (Nat.le_refl _) (fun k hk => by cases hk); have Hown := hide hown; have Hb1 := hide hb1; clear hown hgrow hb1)
  go_loopw [4] (fun at_ wr => ∃ k : Nat, k ≤ m ∧ at_ = .int .i64 ((k : Int) - 1) ∧ wr.ownsRow w.heap.size 5 1 (.slice (some ⟨w.heap.size, 0, none⟩) m m) m (backTo b k) ∧ Below w.heap.size w wr) (fun at_ _ => (intOf at_ + 1).toNat)
  case atStart =>
    refine ⟨m, Nat.le_refl _, rfl, ?_, unhide Hb1⟩
    have := unhide Hown
    have e : (madeCells (Value.int .u8 0).cells (m * 1)).toList = backTo b m := by
      unfold backTo
      rw [List.drop_eq_nil_of_le (by rw [unhide Hbl]; exact Nat.le_refl _)]
      simp [bys, Value.cells, toList_madeCells_one]
    rwa [e] at this
  case round =>
  clear Hown Hb1
  obtain ⟨k, hk, rfl, hown, hb2⟩ := hrel
  have Hown := hide hown
  have Hb2 := hide hb2
  clear hown hb2
  by_cases hk0 : k = 0
  · subst hk0
    go_wp2
    go_ret
    refine ⟨_, _, rfl, ?_, unhide Hb2⟩
    have := unhide Hown
    simpa [backTo] using this
  · obtain ⟨j, rfl⟩ : ∃ j, k = j + 1 := ⟨k - 1, by omega⟩
    obtain ⟨x, hx⟩ : ∃ x, b[j]? = some x := ⟨_, List.getElem?_eq_getElem (by rw [unhide Hbl]; omega)⟩
    obtain ⟨ab, ao, rfl, hlt, hc⟩ := ((unhide Hb).below ((unhide Hb2).mono hB)).at_ (bys_at' hx)
    have hset := own_set (i := j) (unhide Hown) (.int .u8 x.toNat)
    rw [backTo_set hx] at hset
    have hcl : (backTo b (j + 1))[j]? = some (.int .u8 0) := by simp [backTo, List.getElem?_append]
    have hc2 := own_cell (unhide Hown) hcl
    have hf2 := own_free (unhide Hown) j
    have hge := own_at (unhide Hown)
    have e1 : ((j + 1 : Nat) : Int) - 1 = (j : Int) := by omega
    rw [e1]
    have Hset := hide hset
    clear hset hcl hx
    go_wp2
    go_roundw
    case rel => exact ⟨j, by omega, rfl, unhide Hset, (unhide Hb2).setCell (Nat.le_refl _) _⟩
    case measure => simp [intOf]

end Go.Proofs.Ytdminnhfgdoibaa
namespace Go.Proofs.Ytdminnhfgdoibaa.Cl
set_option linter.unusedVariables false
set_option linter.unusedSimpArgs false
open Go.Proofs.Ytdminnhfgdoibaa

structure C where
  kind : Nat
  a : Nat
  b : Nat
  c : Nat
  d : Nat
  e : Nat
  path : ByteArray
  argv : List ByteArray
  env : List ByteArray
  bytes : List UInt8

/-- The fields of a kind, by their numbers. -/
def fsN : Nat → List Nat
  | 1 => [5, 6, 7]
  | 3 => [0]
  | 5 => [0, 1, 2, 3, 4]
  | 6 => [0, 1]
  | 7 => [0, 1, 2]
  | 8 => [0, 1]
  | 9 => [0, 8]
  | 10 => [5, 0]
  | 11 => [0]
  | 12 => [0, 1]
  | _ => []
def num (c : C) : Nat → Nat
  | 0 => c.a
  | 1 => c.b
  | 2 => c.c
  | 3 => c.d
  | _ => c.e
/-- is nothing said by a field? -/
def emptyB (c : C) : Nat → Bool
  | 5 => decide (c.path.size = 0)
  | 6 => decide (c.argv.length = 0)
  | 7 => decide (c.env.length = 0)
  | 8 => decide (c.bytes.length = 0)
  | f => num c f == 0
def fieldB (c : C) (f : Nat) : Bool := (fsN c.kind).contains f || emptyB c f
def onlyB (c : C) : Bool := (List.range 9).all (fieldB c)
def bigT (s : ByteArray) : Bool := decide (256 < s.size)
def zeroT (s : ByteArray) : Bool := s.data.toList.contains 0
def envCk (l : List ByteArray) : Int := if 32 < l.length then 12 else if l.any bigT then 12 else if l.any zeroT then 1 else 0
def fst2 (a b : Int) : Int := if a = 0 then b else a
def check (c : C) : Int :=
  if c.kind = 0 ∨ 12 < c.kind then 23 else if onlyB c = false then 1
  else if c.kind = 1 then fst2 (Pth.chk c.path) (fst2 (envCk c.argv) (envCk c.env))
  else if c.kind = 8 ∨ c.kind = 12 then (if 4096 < c.b then 12 else 0)
  else if c.kind = 9 then (if 4096 < c.bytes.length then 12 else 0)
  else if c.kind = 10 then fst2 (Pth.chk c.path) (if 1 < c.a then 1 else 0)
  else 0

end Go.Proofs.Ytdminnhfgdoibaa.Cl
namespace Go.Proofs.Ytdminnhfgdoibaa.Cl
set_option linter.unusedVariables false
set_option linter.unusedSimpArgs false
open Go.Proofs.Ytdminnhfgdoibaa

/-- n bytes of a number, the lowest first. -/
def lb : Nat → Nat → List UInt8
  | _, 0 => []
  | x, n + 1 => UInt8.ofNat (x % 256) :: lb (x / 256) n
theorem lb_len (n x : Nat) : (lb x n).length = n := by
  induction n generalizing x with
  | zero => rfl
  | succ n ih => simp [lb, ih]
theorem le_lb (n x : Nat) (h : x < 256 ^ n) : Wd.le (lb x n) = x := by
  induction n generalizing x with
  | zero => simp at h; subst h; rfl
  | succ n ih =>
    rw [Nat.pow_succ] at h
    simp only [lb, Wd.le]
    rw [ih (x / 256) (by omega)]
    have e : (UInt8.ofNat (x % 256)).toNat = x % 256 := by simp
    omega
theorem lb_le (l : List UInt8) : lb (Wd.le l) l.length = l := by
  induction l with
  | nil => rfl
  | cons c r ih =>
    have h := c.toNat_lt
    have e1 : (c.toNat + 256 * Wd.le r) % 256 = c.toNat := by omega
    have e2 : (c.toNat + 256 * Wd.le r) / 256 = Wd.le r := by omega
    simp only [Wd.le, List.length_cons, lb]
    rw [e1, e2, ih]
    simp

def bl (s : ByteArray) : List UInt8 := s.data.toList
def ba (l : List UInt8) : ByteArray := ⟨l.toArray⟩
theorem bl_ba (l : List UInt8) : bl (ba l) = l := rfl
theorem ba_bl (s : ByteArray) : ba (bl s) = s := by cases s; simp [ba, bl]
theorem bl_len (s : ByteArray) : (bl s).length = s.size := rfl
theorem ba_size (l : List UInt8) : (ba l).size = l.length := by show l.toArray.size = l.length; simp
/-- A text with its length ahead. -/
def txt (s : List UInt8) : List UInt8 := lb s.length 2 ++ s
def txts : List ByteArray → List UInt8
  | [] => []
  | s :: r => txt (bl s) ++ txts r
def lst (l : List ByteArray) : List UInt8 := lb l.length 1 ++ txts l
theorem txts_app (a b : List ByteArray) : txts (a ++ b) = txts a ++ txts b := by
  induction a with
  | nil => rfl
  | cons s r ih => simp [txts, ih]
def fld (q : C) : Nat → List UInt8
  | 5 => txt (bl q.path)
  | 6 => lst q.argv
  | 7 => lst q.env
  | 8 => txt q.bytes
  | f => lb (num q f) 8
def flds (q : C) : List Nat → List UInt8
  | [] => []
  | f :: r => fld q f ++ flds q r
theorem flds_app (q : C) (a b : List Nat) : flds q (a ++ b) = flds q a ++ flds q b := by
  induction a with
  | nil => rfl
  | cons s r ih => simp [flds, ih]
def form (q : C) : List UInt8 := UInt8.ofNat q.kind :: flds q (fsN q.kind)

/-- A reader: what is left, and whether some was lacking. -/
structure R where
  b : List UInt8
  gone : Bool
def take (r : R) (n : Nat) : List UInt8 × R := if r.gone = true ∨ r.b.length < n then ([], ⟨r.b, true⟩) else (r.b.take n, ⟨r.b.drop n, false⟩)
def rnum (r : R) (s : Nat) : Nat × R := (Wd.le (take r s).1, (take r s).2)
def rtxt (r : R) : List UInt8 × R := take (rnum r 2).2 (rnum r 2).1
def rtxts : Nat → R → List ByteArray × R
  | 0, r => ([], r)
  | n + 1, r => if r.gone = true then ([], r) else (ba (rtxt r).1 :: (rtxts n (rtxt r).2).1, (rtxts n (rtxt r).2).2)
def rlst (r : R) : List ByteArray × R := rtxts (rnum r 1).1 (rnum r 1).2
def rfld (s : C × R) : Nat → C × R
  | 5 => ({ s.1 with path := ba (rtxt s.2).1 }, (rtxt s.2).2)
  | 6 => ({ s.1 with argv := (rlst s.2).1 }, (rlst s.2).2)
  | 7 => ({ s.1 with env := (rlst s.2).1 }, (rlst s.2).2)
  | 8 => ({ s.1 with bytes := (rtxt s.2).1 }, (rtxt s.2).2)
  | 0 => ({ s.1 with a := (rnum s.2 8).1 }, (rnum s.2 8).2)
  | 1 => ({ s.1 with b := (rnum s.2 8).1 }, (rnum s.2 8).2)
  | 2 => ({ s.1 with c := (rnum s.2 8).1 }, (rnum s.2 8).2)
  | 3 => ({ s.1 with d := (rnum s.2 8).1 }, (rnum s.2 8).2)
  | _ => ({ s.1 with e := (rnum s.2 8).1 }, (rnum s.2 8).2)
def rflds : List Nat → C × R → C × R
  | [], s => s
  | f :: r, s => rflds r (rfld s f)
theorem rflds_app (a b : List Nat) (s : C × R) : rflds (a ++ b) s = rflds b (rflds a s) := by
  induction a generalizing s with
  | nil => rfl
  | cons f r ih => simp [rflds, ih]
def zeroC : C := ⟨0, 0, 0, 0, 0, 0, ba [], [], [], []⟩
def kindC (k : Nat) : C := ⟨k, 0, 0, 0, 0, 0, ba [], [], [], []⟩
def rall (k : Nat) (b : List UInt8) : C × R := rflds (fsN k) (kindC k, ⟨b, false⟩)
def read : List UInt8 → C × Nat × Int
  | [] => (zeroC, 0, 24)
  | k :: r => if k.toNat = 0 ∨ 12 < k.toNat then (zeroC, 0, 23)
      else if (rall k.toNat r).2.gone = true then (zeroC, 0, 24)
      else if check (rall k.toNat r).1 = 0 then ((rall k.toNat r).1, r.length + 1 - (rall k.toNat r).2.b.length, 0)
      else (zeroC, 0, check (rall k.toNat r).1)

/-- What was read: so many bytes ahead of what is left. -/
def Went (r r' : R) (x : List UInt8) : Prop := r.gone = false ∧ r'.gone = false ∧ r.b = x ++ r'.b
theorem Went.trans {a b c : R} {x y : List UInt8} (h : Went a b x) (k : Went b c y) : Went a c (x ++ y) :=
  ⟨h.1, k.2.1, by rw [h.2.2, k.2.2, List.append_assoc]⟩
theorem take_went {r : R} {n : Nat} (h : (take r n).2.gone = false) : Went r (take r n).2 (take r n).1 ∧ (take r n).1.length = n := by
  unfold take at h ⊢
  split at h
  · cases h
  · rename_i hn
    rw [if_neg hn]
    have h1 : r.gone = false := by
      cases hg : r.gone
      · rfl
      · exact absurd (.inl hg) hn
    have h2 : n ≤ r.b.length := by
      rcases Nat.lt_or_ge r.b.length n with h | h
      · exact absurd (.inr h) hn
      · exact h
    exact ⟨⟨h1, rfl, (List.take_append_drop n r.b).symm⟩, by simp; omega⟩
theorem rnum_went {r : R} {n : Nat} (h : (rnum r n).2.gone = false) : Went r (rnum r n).2 (lb (rnum r n).1 n) ∧ (rnum r n).1 < 256 ^ n := by
  obtain ⟨h1, h2⟩ := take_went h
  have e := lb_le (take r n).1
  have h3 := Wd.le_lt (take r n).1
  rw [h2] at e h3
  unfold rnum
  simp only
  rw [e]
  exact ⟨h1, h3⟩
theorem take_gone {r : R} {n : Nat} (h : r.gone = true) : take r n = ([], ⟨r.b, true⟩) := if_pos (.inl h)
theorem gone_back {r : R} {n : Nat} (h : (take r n).2.gone = false) : r.gone = false := (take_went h).1.1
theorem rtxt_went {r : R} (h : (rtxt r).2.gone = false) : Went r (rtxt r).2 (txt (rtxt r).1) ∧ (rtxt r).1.length < 65536 := by
  have h0 : (rnum r 2).2.gone = false := gone_back h
  obtain ⟨h1, h2⟩ := rnum_went h0
  obtain ⟨h3, h4⟩ := take_went h
  have h5 : (rtxt r).1.length = (rnum r 2).1 := h4
  unfold txt
  rw [h5]
  exact ⟨h1.trans h3, h2⟩
theorem rtxts_gone (n : Nat) {r : R} (h : r.gone = true) : (rtxts n r).2.gone = true := by
  cases n with
  | zero => exact h
  | succ n => unfold rtxts; rw [if_pos h]; exact h
theorem rtxts_went (n : Nat) {r : R} (h : (rtxts n r).2.gone = false) : r.gone = false ∧ Went r (rtxts n r).2 (txts (rtxts n r).1) ∧ (rtxts n r).1.length = n := by
  induction n generalizing r with
  | zero => exact ⟨h, ⟨h, h, rfl⟩, rfl⟩
  | succ n ih =>
    cases hg : r.gone
    · have e : rtxts (n + 1) r = (ba (rtxt r).1 :: (rtxts n (rtxt r).2).1, (rtxts n (rtxt r).2).2) := by
        conv => lhs; unfold rtxts
        rw [if_neg (by rw [hg]; simp)]
      rw [e] at h ⊢
      obtain ⟨h1, h2, h3⟩ := ih h
      obtain ⟨h4, _⟩ := rtxt_went h1
      refine ⟨rfl, h4.trans h2, by simp [h3]⟩
    · rw [rtxts_gone _ hg] at h
      cases h
theorem rlst_went {r : R} (h : (rlst r).2.gone = false) : Went r (rlst r).2 (lst (rlst r).1) ∧ (rlst r).1.length < 256 := by
  obtain ⟨h1, h2, h3⟩ := rtxts_went _ h
  obtain ⟨h4, h5⟩ := rnum_went h1
  have h6 : (rlst r).1.length = (rnum r 1).1 := h3
  unfold lst
  rw [h6]
  exact ⟨h4.trans h2, by omega⟩

/-- Reading goes on alike, whatever stands behind. -/
def more (t : List UInt8) (r : R) : R := ⟨r.b ++ t, r.gone⟩
theorem take_more (t : List UInt8) {r : R} {n : Nat} (h : (take r n).2.gone = false) : take (more t r) n = ((take r n).1, more t (take r n).2) := by
  obtain ⟨⟨h1, h2, h3⟩, h4⟩ := take_went h
  have hn : n ≤ r.b.length := by
    rw [h3, List.length_append]
    omega
  have e : take r n = (r.b.take n, ⟨r.b.drop n, false⟩) := if_neg (by rw [h1]; simp; omega)
  have e2 : take (more t r) n = ((r.b ++ t).take n, ⟨(r.b ++ t).drop n, false⟩) := if_neg (by unfold more; simp [h1]; omega)
  rw [e2, e]
  rw [List.take_append_of_le_length hn, List.drop_append_of_le_length hn]
  rfl
theorem rnum_more (t : List UInt8) {r : R} {n : Nat} (h : (rnum r n).2.gone = false) : rnum (more t r) n = ((rnum r n).1, more t (rnum r n).2) := by
  unfold rnum
  rw [take_more t h]
theorem rtxt_more (t : List UInt8) {r : R} (h : (rtxt r).2.gone = false) : rtxt (more t r) = ((rtxt r).1, more t (rtxt r).2) := by
  have h0 : (rnum r 2).2.gone = false := gone_back h
  unfold rtxt
  rw [rnum_more t h0]
  exact take_more t h
theorem rtxts_more (t : List UInt8) (n : Nat) {r : R} (h : (rtxts n r).2.gone = false) : rtxts n (more t r) = ((rtxts n r).1, more t (rtxts n r).2) := by
  induction n generalizing r with
  | zero => rfl
  | succ n ih =>
    have hg := (rtxts_went _ h).1
    have e : rtxts (n + 1) r = (ba (rtxt r).1 :: (rtxts n (rtxt r).2).1, (rtxts n (rtxt r).2).2) := by
      conv => lhs; unfold rtxts
      rw [if_neg (by rw [hg]; simp)]
    have e2 : rtxts (n + 1) (more t r) = (ba (rtxt (more t r)).1 :: (rtxts n (rtxt (more t r)).2).1, (rtxts n (rtxt (more t r)).2).2) := by
      conv => lhs; unfold rtxts
      rw [if_neg (by unfold more; rw [hg]; simp)]
    rw [e] at h ⊢
    rw [e2, rtxt_more t (rtxts_went _ h).1, ih h]
theorem rlst_more (t : List UInt8) {r : R} (h : (rlst r).2.gone = false) : rlst (more t r) = ((rlst r).1, more t (rlst r).2) := by
  have h0 : (rnum r 1).2.gone = false := (rtxts_went _ h).1
  unfold rlst
  rw [rnum_more t h0]
  exact rtxts_more t _ h

/-- one field -/
theorem rfld_back {s : C × R} {f : Nat} (h : (rfld s f).2.gone = false) : s.2.gone = false := by
  unfold rfld at h
  split at h
  · exact (rtxt_went h).1.1
  · exact (rlst_went h).1.1
  · exact (rlst_went h).1.1
  · exact (rtxt_went h).1.1
  · exact (rnum_went h).1.1
  · exact (rnum_went h).1.1
  · exact (rnum_went h).1.1
  · exact (rnum_went h).1.1
  · exact (rnum_went h).1.1
theorem rfld_went {s : C × R} {f : Nat} (hf : f < 9) (h : (rfld s f).2.gone = false) : Went s.2 (rfld s f).2 (fld (rfld s f).1 f) := by
  obtain rfl | rfl | rfl | rfl | rfl | rfl | rfl | rfl | rfl : f = 0 ∨ f = 1 ∨ f = 2 ∨ f = 3 ∨ f = 4 ∨ f = 5 ∨ f = 6 ∨ f = 7 ∨ f = 8 := by omega
  · exact (rnum_went h).1
  · exact (rnum_went h).1
  · exact (rnum_went h).1
  · exact (rnum_went h).1
  · exact (rnum_went h).1
  · exact (rtxt_went h).1
  · exact (rlst_went h).1
  · exact (rlst_went h).1
  · exact (rtxt_went h).1
theorem rfld_more (t : List UInt8) {s : C × R} {f : Nat} (hf : f < 9) (h : (rfld s f).2.gone = false) : rfld (s.1, more t s.2) f = ((rfld s f).1, more t (rfld s f).2) := by
  obtain rfl | rfl | rfl | rfl | rfl | rfl | rfl | rfl | rfl : f = 0 ∨ f = 1 ∨ f = 2 ∨ f = 3 ∨ f = 4 ∨ f = 5 ∨ f = 6 ∨ f = 7 ∨ f = 8 := by omega
  · simp only [rfld]; rw [rnum_more t h]
  · simp only [rfld]; rw [rnum_more t h]
  · simp only [rfld]; rw [rnum_more t h]
  · simp only [rfld]; rw [rnum_more t h]
  · simp only [rfld]; rw [rnum_more t h]
  · simp only [rfld]; rw [rtxt_more t h]
  · simp only [rfld]; rw [rlst_more t h]
  · simp only [rfld]; rw [rlst_more t h]
  · simp only [rfld]; rw [rtxt_more t h]
/-- a field is read, another one stays -/
theorem rfld_other {s : C × R} {f g : Nat} (hf : f < 9) (hg : g < 9) (hne : f ≠ g) : fld (rfld s f).1 g = fld s.1 g := by
  obtain rfl | rfl | rfl | rfl | rfl | rfl | rfl | rfl | rfl : f = 0 ∨ f = 1 ∨ f = 2 ∨ f = 3 ∨ f = 4 ∨ f = 5 ∨ f = 6 ∨ f = 7 ∨ f = 8 := by omega
  all_goals
    obtain rfl | rfl | rfl | rfl | rfl | rfl | rfl | rfl | rfl : g = 0 ∨ g = 1 ∨ g = 2 ∨ g = 3 ∨ g = 4 ∨ g = 5 ∨ g = 6 ∨ g = 7 ∨ g = 8 := by omega
    all_goals first | rfl | exact absurd rfl hne
theorem rflds_kept (l : List Nat) {s : C × R} {g : Nat} (hl : ∀ f ∈ l, f < 9) (hg : g < 9) (hne : g ∉ l) : fld (rflds l s).1 g = fld s.1 g := by
  induction l generalizing s with
  | nil => rfl
  | cons f r ih =>
    simp only [rflds]
    rw [ih (fun x hx => hl x (.tail _ hx)) (fun h => hne (.tail _ h))]
    exact rfld_other (hl f (.head _)) hg (fun e => hne (by rw [e]; exact .head _))
theorem rflds_went (l : List Nat) {s : C × R} (hl : ∀ f ∈ l, f < 9) (hd : l.Nodup) (h : (rflds l s).2.gone = false) : s.2.gone = false ∧ Went s.2 (rflds l s).2 (flds (rflds l s).1 l) := by
  induction l generalizing s with
  | nil => exact ⟨h, h, h, rfl⟩
  | cons f r ih =>
    simp only [rflds] at h ⊢
    have hd' := List.nodup_cons.1 hd
    obtain ⟨h1, h2⟩ := ih (fun x hx => hl x (.tail _ hx)) hd'.2 h
    have h3 := rfld_went (hl f (.head _)) h1
    refine ⟨h3.1, ?_⟩
    have e : fld (rflds r (rfld s f)).1 f = fld (rfld s f).1 f := rflds_kept r (fun x hx => hl x (.tail _ hx)) (hl f (.head _)) hd'.1
    unfold flds
    rw [e]
    exact h3.trans h2
theorem rflds_more (t : List UInt8) (l : List Nat) {s : C × R} (hl : ∀ f ∈ l, f < 9) (hd : l.Nodup) (h : (rflds l s).2.gone = false) : rflds l (s.1, more t s.2) = ((rflds l s).1, more t (rflds l s).2) := by
  induction l generalizing s with
  | nil => rfl
  | cons f r ih =>
    simp only [rflds] at h ⊢
    have hd' := List.nodup_cons.1 hd
    rw [rfld_more t (hl f (.head _)) (rflds_went r (fun x hx => hl x (.tail _ hx)) hd'.2 h).1]
    exact ih (fun x hx => hl x (.tail _ hx)) hd'.2 h
theorem fsN_ok (k : Nat) : (∀ f ∈ fsN k, f < 9) ∧ (fsN k).Nodup := by
  unfold fsN
  split <;> decide
end Go.Proofs.Ytdminnhfgdoibaa.Cl
namespace Go.Proofs.Ytdminnhfgdoibaa
set_option linter.unusedVariables false
set_option linter.unusedSimpArgs false
open Go.RowKit

/-- Is a slice of bytes nil? -/
theorem nilq (w : World) (a : Option Addr) (n c n' c' : Nat) : (binOp .eql 22 (.slice a n c) (.slice none n' c')).run Try.prog w = .ok (.bool a.isNone) w := Lib.run_eql_slice_nil w _ _ a n c n' c' Try.underlying22
/-- A row of nothing, in a block of its own. -/
theorem own_empty (w : World) (e : TypeId) (base : Nat) (hb : base ≤ w.heap.size) : (w.alloc (.cells #[] e)).ownsRow base e 1 (.slice (some ⟨w.heap.size, 0, none⟩) 0 0) 0 [] :=
  ⟨rfl, .inr ⟨w.heap.size, 0, #[], rfl, hb, heap_alloc_new _ _, Nat.le_refl _, by decide, rfl, rfl⟩⟩
theorem grown_below {w w1 w2 : World} {row : Option Nat} (hb : Below w.heap.size w w1) (hg : w1.grownBy w2 row) (hr : ∀ k, row = some k → w.heap.size ≤ k) : Below w.heap.size w w2 := hb.grown hg hb.size hr

set_option maxRecDepth 100000 in
set_option maxHeartbeats 1000000 in
theorem bclone_some (ad : Addr) (m c B : Nat) (b : List UInt8) (w : World) (hB : B ≤ w.heap.size) (hb : Rd w B 1 (some ad) m (bys b)) (hm : m ≤ 4294967296) :
    Calls Try.prog 55 #[.slice (some ad) m c] w fun e w' => ∃ A' c', e = .returned (.slice A' m c') ∧ w'.ownsRow w.heap.size 5 1 (.slice A' m c') m (bys b) ∧ Below w.heap.size w w' := by
  have Hb := hide hb
  clear hb
  have q22 := nilq
  go_enter Try.func55, Try.ntmps55
  go_wp2_with (first
    | (at_builtin; refine wpList_app byteTy rfl _ _ rfl w.heap.size (.slice (some ⟨w.heap.size, 0, none⟩) 0 0) 0 [] rfl (own_empty w _ _ (Nat.le_refl _)) B (some ad) m c (bys b) rfl ((unhide Hb).alloc hB _) (bys_one b) (by omega) (by simp) ?_; intro A2 c2 w1 hown hgrow hat; have Hb1 := hide (grown_below ((Below.refl w.heap.size w).alloc (Nat.le_refl _) _) hgrow (fun k hk => (by simp [Value.ownBlock] at hk; omega))); have Hown := hide hown; clear hgrow hat hown))
  go_ret
  have h := unhide Hown
  simp only [Nat.zero_add, List.nil_append] at h
  exact ⟨A2, c2, by simp, h, unhide Hb1⟩
set_option maxRecDepth 100000 in
theorem bclone_none (w : World) :
    Calls Try.prog 55 #[.slice none 0 0] w fun e w' => e = .returned (.slice none 0 0) ∧ w = w' := by
  have q22 := nilq
  go_enter Try.func55, Try.ntmps55
  go_wp2
  go_ret
  exact ⟨rfl, rfl⟩

theorem refInside_yes (a b c : Nat) (w : World) (hc : c < 18446744073709551616) (h : a + b ≤ c) : Calls Try.prog 46 #[.int .u64 a, .int .u64 b, .int .u64 c] w fun e w' => e = .returned (.bool true) ∧ w = w' := by
  have h1 : decide (((b : Nat) : Int) ≤ ((c : Nat) : Int)) = true := by simp; omega
  have h2 : decide (((a : Nat) : Int) ≤ ((c : Nat) : Int) - ((b : Nat) : Int)) = true := by simp; omega
  go_enter Try.func46, Try.ntmps46
  go_wp2
  go_ret
  exact ⟨rfl, rfl⟩
theorem place_yes (A : Option Addr) (m c p s : Nat) (w : World) (hm : m ≤ 4294967296) (hs : s = 1 ∨ s = 2 ∨ s = 4 ∨ s = 8) (h : p + s ≤ m) : Calls Try.prog 62 #[.slice A m c, .int .u64 p, .int .i64 s] w fun e w' => e = .returned (.int .i64 0) ∧ w = w' := by
  rcases hs with rfl | rfl | rfl | rfl
  all_goals
    go_enter Try.func62, Try.ntmps62
    go_wp2_with (go_at_call 46; refine (refInside_yes p _ m w (by omega) h).mono ?_; rintro e w1 ⟨rfl, rfl⟩)
    go_ret
    exact ⟨rfl, rfl⟩

/-- i bytes of x written from p on. -/
def setK (b : List UInt8) (p x : Nat) : Nat → List UInt8
  | 0 => b
  | i + 1 => (setK b p x i).set (p + i) (UInt8.ofNat (x / 256 ^ i % 256))
theorem setK_len (b : List UInt8) (p x i : Nat) : (setK b p x i).length = b.length := by
  induction i with
  | zero => rfl
  | succ i ih => simp [setK, ih]
theorem lb_snoc (n x : Nat) : Cl.lb x (n + 1) = Cl.lb x n ++ [UInt8.ofNat (x / 256 ^ n % 256)] := by
  induction n generalizing x with
  | zero => simp [Cl.lb]
  | succ n ih =>
    have e : Cl.lb x (n + 1 + 1) = UInt8.ofNat (x % 256) :: Cl.lb (x / 256) (n + 1) := rfl
    rw [e, ih (x / 256), Nat.div_div_eq_div_mul, Nat.pow_succ, Nat.mul_comm 256]
    rfl
theorem setK_zero (s x i : Nat) (h : i ≤ s) : setK (List.replicate s 0) 0 x i = Cl.lb x i ++ List.replicate (s - i) 0 := by
  induction i with
  | zero => simp [setK, Cl.lb]
  | succ i ih =>
    have e : s - i = (s - (i + 1)) + 1 := by omega
    rw [setK, ih (by omega), lb_snoc, e, List.replicate_succ, Nat.zero_add, List.set_append_right _ _ (by rw [Cl.lb_len]; exact Nat.le_refl _), Cl.lb_len, Nat.sub_self, List.set_cons_zero, List.append_assoc]
    rfl
theorem setK_all (s x : Nat) : setK (List.replicate s 0) 0 x s = Cl.lb x s := by
  rw [setK_zero s x s (Nat.le_refl _), Nat.sub_self]
  simp

set_option maxRecDepth 100000 in
set_option maxHeartbeats 1000000 in
theorem refSet_yes (A : Option Addr) (m c B : Nat) (b : List UInt8) (p s x : Nat) (w : World) (hB : B ≤ w.heap.size) (hb : Rd w B 1 A m (bys b)) (hm : m ≤ 4294967296) (hs : s = 1 ∨ s = 2 ∨ s = 4 ∨ s = 8) (h : p + s ≤ m) (hx : x < 18446744073709551616) :
    Calls Try.prog 40 #[.slice A m c, .int .u64 p, .int .i64 s, .int .u64 x] w fun e w' => ∃ A' c', e = .returned (.tuple #[.slice A' m c', .int .i64 0]) ∧ w'.ownsRow w.heap.size 5 1 (.slice A' m c') m (bys (setK b p x s)) ∧ Below w.heap.size w w' := by
  have hbl : b.length = m := by simpa [bys] using hb.len1
  have hs8 : s ≤ 8 := by omega
  have hs0 : 0 < s := by omega
  have hpl := place_yes A m c p s w hm hs h
  have hcp := copyBytes_any A m c B b w hB hb hm
  have Hpl := hide hpl
  have Hcp := hide hcp
  have Hbl := hide hbl
  clear hpl hcp hbl hb hs
  go_enter Try.func40, Try.ntmps40
  go_wp2_with (first
    | (go_at_call 62; refine (unhide Hpl).mono ?_; rintro e w1 ⟨rfl, rfl⟩)
    | (go_at_call 63; refine (unhide Hcp).mono ?_; rintro e w1 ⟨A', c', rfl, hown, hb1⟩; obtain ⟨g, rfl, hg1, hg2⟩ := own_some hown (by omega); have Hown := hide hown; have Hb1 := hide hb1; clear hown hb1))
  go_loopw [12, 3] (fun i y wr => ∃ k : Nat, k ≤ s ∧ i = .int .i64 k ∧ y = .int .u64 (x / 256 ^ k : Nat) ∧ wr.ownsRow w.heap.size 5 1 (.slice (some ⟨g, 0, none⟩) m c') m (bys (setK b p x k)) ∧ Below w.heap.size w wr) (fun i _ _ => s - (intOf i).toNat)
  case atStart => exact ⟨0, by omega, rfl, by simp, unhide Hown, unhide Hb1⟩
  case round =>
  clear Hown Hb1
  obtain ⟨k, hk, rfl, rfl, hown, hb2⟩ := hrel
  have Hown := hide hown
  have Hb2 := hide hb2
  clear hown hb2
  rcases Nat.lt_or_ge k s with hlt | hge
  case inr =>
    obtain rfl : k = s := by omega
    go_wp2
    go_ret2
    exact ⟨_, _, rfl, unhide Hown, unhide Hb2⟩
  obtain ⟨z, hz⟩ : ∃ z, (setK b p x k)[p + k]? = some z := ⟨_, List.getElem?_eq_getElem (by rw [setK_len, unhide Hbl]; omega)⟩
  have hset := own_set (i := p + k) (unhide Hown) (.int .u8 (UInt8.ofNat (x / 256 ^ k % 256)).toNat)
  rw [bys_set] at hset
  have hc2 := own_cell (unhide Hown) (bys_at hz)
  have hf2 := own_free (unhide Hown) (p + k)
  obtain ⟨hg3, hg4, hg5⟩ := own_at (unhide Hown)
  have hy : x / 256 ^ k < 18446744073709551616 := Nat.lt_of_le_of_lt (Nat.div_le_self _ _) hx
  have hy2 : x / 256 ^ k / 256 = x / 256 ^ (k + 1) := by rw [Nat.div_div_eq_div_mul, Nat.pow_succ]
  have hy3 : (UInt8.ofNat (x / 256 ^ k % 256)).toNat = x / 256 ^ k % 256 := by simp
  have Hy2 := hide hy2
  rw [show (setK b p x k).set (p + k) (UInt8.ofNat (x / 256 ^ k % 256)) = setK b p x (k + 1) from rfl, hy3] at hset
  have Hset := hide hset
  clear hset hy2 hy3 hz
  generalize x / 256 ^ k = y at *
  go_wp2
  go_roundw
  case rel =>
    refine ⟨k + 1, by omega, by go_num, ?_, ?_, (unhide Hb2).setCell hg1 _⟩
    · rw [← unhide Hy2]
      congr 1
    · exact unhide Hset
  case measure => simp [intOf]; omega
end Go.Proofs.Ytdminnhfgdoibaa
namespace Go.Proofs.Ytdminnhfgdoibaa
set_option linter.unusedVariables false
set_option linter.unusedSimpArgs false
open Go.RowKit

/-- What large answers. -/
def Large13E (n ns : Nat) (w : World) (e : Ending) (w' : World) : Prop := ∃ r, e = .returned (.bool r) ∧ Below w.heap.size w w' ∧ (r = false → n ≤ 131072 ∧ ns ≤ 256)
theorem large13_any (A : Option Addr) (n c : Nat) (ty en ph : Int) (As : Option Addr) (ns cs : Nat) (w : World) (hn : n ≤ maxLen) (hns : ns ≤ maxLen) :
    Calls Try.prog 7 #[.slice A n c, .agg #[.int .u16 ty, .int .u64 en, .int .u64 ph, .slice As ns cs]] w (Large13E n ns w) := by
  have hH := Blk.new w 27 [.int .u16 ty, .int .u64 en, .int .u64 ph, .slice As ns cs]
  have z3 := hH.cell (i := 3) rfl
  have Hb : Hid (Below w.heap.size w (w.alloc (.cells #[.int .u16 ty, .int .u64 en, .int .u64 ph, .slice As ns cs] 27))) := hide ((Below.refl _ _).alloc (Nat.le_refl _) _)
  unfold maxLen at hn hns
  clear hH
  by_cases h1 : 131072 < n
  · have hI : (131072 : Int) < (n : Int) := by omega
    go_enter Try.func7, Try.ntmps7
    go_wp2_with fail
    go_ret
    exact ⟨true, rfl, unhide Hb, fun h => by cases h⟩
  have hI : ¬ (131072 : Int) < (n : Int) := by omega
  by_cases h2 : 256 < ns
  · have hJ : (256 : Int) < (ns : Int) := by omega
    go_enter Try.func7, Try.ntmps7
    go_wp2_with fail
    go_ret
    exact ⟨true, by first | rfl | (simp; omega), unhide Hb, fun h => by cases h⟩
  have hJ : ¬ (256 : Int) < (ns : Int) := by omega
  go_enter Try.func7, Try.ntmps7
  go_wp2_with fail
  go_ret
  exact ⟨false, by first | rfl | (simp; omega), unhide Hb, fun _ => ⟨by omega, by omega⟩⟩
theorem results_tmp_cell {P : Program} {fn : Func} {p q : Tmp} {ty : TypeId} (h : fn.results = #[.tmp q, .cell p ty]) (tmps : Array Value) (w : World) (g : Nat) (t : TypeId) (cs : Array Value) (fr : Nat × Nat) (d : TypeDesc)
    (hp : tmps.getD p undef = .pointer (some ⟨g, 0, none⟩)) (hg : w.heap[g]? = some (.cells cs t fr))
    (hu : P.underlying ty = some d) (hd : (match d with | .struct _ | .array _ _ => true | _ => false) = true) (hi : (P.info? ty).map (·.size) = some cs.size) :
    (results fn tmps).run P w = .ok (.tuple #[tmps.getD q undef, .agg cs]) w := by
  have hp' : tmps[p]?.getD undef = .pointer (some ⟨g, 0, none⟩) := by simpa using hp
  simp [results, h, hp', asAddr, run_loadVar_row w g t ty cs fr d hg hu hd hi]
namespace Dy
/-- The numbers of the law's own object. -/
def plL : List Nat := [1, 3, 14, 1, 4, 4272, 5, 4368, 10, 8, 6, 4296, 11, 24, 7, 4344, 8, 24, 9, 24, 0, 0, 8589934593, 1, 0, 0, 0, 0, 281543696187393, 77, 5, 4104, 4294967297, 18446744073709551615, 1644192000]
def plB : Nat → List UInt8
  | 0 => List.replicate 280 0
  | k + 1 => setK (plB k) (8 * k) (plL.getD k 0) 8
theorem plB_len (k : Nat) : (plB k).length = 280 := by
  induction k with
  | zero => exact List.length_replicate
  | succ k ih => rw [plB, setK_len, ih]
def plSegs : List El.Sg := [⟨1, 4, 0, 4096, 280, 280⟩, ⟨2, 4, 0, 4096, 176, 176⟩]
end Dy
theorem hdInfo : (Try.prog.info? 27).map (·.size) = some 4 := by kernel_rfl
theorem hdOne (a b c : Int) (A : Option Addr) (n k : Nat) : (#[.int .u16 a, .int .u64 b, .int .u64 c, .slice A n k] : Array Value).all (·.oneCell') = true := by simp [Value.oneCell']
/-- What plain answers. -/
def PlainE (w : World) (e : Ending) (w' : World) : Prop := ∃ A c g, e = .returned (.tuple #[.slice A 280 c, .agg #[.int .u16 3, .int .u64 0, .int .u64 0, .slice (some ⟨g, 0, none⟩) 2 2]]) ∧ Rd w' w'.heap.size 1 A 280 (bys (Dy.plB 35)) ∧ Rd w' w'.heap.size 6 (some ⟨g, 0, none⟩) 2 (segCells Dy.plSegs) ∧ 280 ≤ c ∧ Below w.heap.size w w'
set_option maxRecDepth 100000 in
set_option maxHeartbeats 4000000 in
theorem plain13_any (w : World) : Calls Try.prog 20 #[] w (PlainE w) := by
  obtain ⟨i, hi, hz0, hz1, hz2⟩ := info_parts byteInfo
  have Hi := hide hi
  have Hz0 := hide hz0
  have Hz1 := hide hz1
  have Hz2 := hide hz2
  have HK0 : Hid (Blk (w.alloc (.cells #[.int .u16 0, .int .u64 0, .int .u64 0, .slice none 0 0] 27)) w.heap.size 27 [.int .u16 0, .int .u64 0, .int .u64 0, .slice none 0 0]) := hide (Blk.new w 27 [.int .u16 0, .int .u64 0, .int .u64 0, .slice none 0 0])
  clear hi hz0 hz1 hz2
  go_enter Try.func20, Try.ntmps20
  go_wp2_with (at_make; refine wpList_make_full _ rfl _ _ 22 rfl (w.heap.size + 1) 5 i (.int .u8 0) 1 Try.underlying22 (unhide Hi) (unhide Hz0) (unhide Hz1) _ _ _ _ 280 rfl rfl rfl rfl (by rw [unhide Hz2]; omega) (by unfold maxLen; omega) (by simp) ?_; intro w1 hown hgrow; have Hown := hide hown; have Hgrow := hide hgrow; clear hown hgrow)
  have e1 : (w.alloc (.cells #[.int .u16 0, .int .u64 0, .int .u64 0, .slice none 0 0] 27)).heap.size = w.heap.size + 1 := by simp
  have hb1 : Below w.heap.size w w1 := (((Below.refl _ _).alloc (Nat.le_refl _) _).alloc (by rw [e1]; omega) _).grown (unhide Hgrow) (by simp; omega) (fun k hk => by cases hk)
  have hk1 : Blk w1 w.heap.size 27 [.int .u16 0, .int .u64 0, .int .u64 0, .slice none 0 0] := ((unhide Hgrow).block w.heap.size (by simp; omega) (by intro h; cases h)).trans ((unhide HK0).alloc _)
  have hcs : ∀ j v, Dy.plL[j]? = some v → w1.cell? ⟨w.heap.size + 1, j, none⟩ = some (.int .u64 (v : Nat)) := by
    intro j v hv
    have h1 := (unhide Hgrow).block (w.heap.size + 1) (by simp) (by intro h; cases h)
    have h2 := Blk.new (w.alloc (.cells #[.int .u16 0, .int .u64 0, .int .u64 0, .slice none 0 0] 27)) 24 (Dy.plL.map fun n => Value.int .u64 ((n : Nat) : Int))
    rw [e1] at h2
    have h3 : Blk w1 (w.heap.size + 1) 24 (Dy.plL.map fun n => Value.int .u64 ((n : Nat) : Int)) := h1.trans h2
    exact h3.cell (by rw [List.getElem?_map, hv]; rfl)
  have hz : (madeCells (Value.int .u8 0).cells (280 * 1)).toList = bys (Dy.plB 0) := by
    simp only [Value.cells, toList_madeCells_one]
    unfold Dy.plB bys
    rw [List.map_replicate]
    rfl
  have hown := unhide Hown
  rw [hz] at hown
  simp only [World.size_alloc] at hown
  have HOw := hide hown
  have HB1 := hide hb1
  have HK1 := hide hk1
  have HCs := hide hcs
  have hl1 : w.heap.size + 1 < w1.heap.size := by have := (unhide Hgrow).size; simp at this; omega
  clear hown hb1 hk1 hcs hz Hown Hgrow HK0 Hi Hz0 Hz1 Hz2 e1
  go_loopg [4, 5] 35 (fun gk bv iv wr => ∃ (k : Nat) (A' : Option Addr) (c' : Nat), gk = 35 - k ∧ k ≤ 35 ∧ iv = .int .i64 k ∧ bv = .slice A' 280 c' ∧ wr.ownsRow (w.heap.size + 1) 5 1 (.slice A' 280 c') 280 (bys (Dy.plB k)) ∧ Below w.heap.size w wr ∧ Blk wr w.heap.size 27 [.int .u16 0, .int .u64 0, .int .u64 0, .slice none 0 0] ∧ (∀ j v, Dy.plL[j]? = some v → wr.cell? ⟨w.heap.size + 1, j, none⟩ = some (.int .u64 (v : Nat))) ∧ w.heap.size + 1 < wr.heap.size)
  case atStart => exact ⟨0, _, _, rfl, by omega, rfl, rfl, unhide HOw, unhide HB1, unhide HK1, unhide HCs, hl1⟩
  case round =>
  obtain ⟨k, A', c', hgk, hk, rfl, rfl, hown, hb2, hk2, hcells, hsz⟩ := hrel
  clear HOw HB1 HK1 HCs hl1
  by_cases hlt : k < 35
  case neg =>
    obtain rfl : k = 35 := by omega
    have HOw := hide hown
    have HB2 := hide hb2
    have HK2 := hide hk2
    have bw : Below wr.heap.size wr (wr.alloc (.cells #[.int .u32 1, .int .u8 4, .int .u64 0, .int .u64 4096, .int .u64 280, .int .u64 280, .int .u32 2, .int .u8 4, .int .u64 0, .int .u64 4096, .int .u64 176, .int .u64 176] 52)) := (Below.refl _ _).alloc (Nat.le_refl _) _
    have HK3 := hide (hk2.belowSz bw)
    have HOw3 := hide (own_below hown bw)
    have HB3 := hide (hb2.trans (bw.mono hb2.size))
    have HSg : Hid (Blk (wr.alloc (.cells #[.int .u32 1, .int .u8 4, .int .u64 0, .int .u64 4096, .int .u64 280, .int .u64 280, .int .u32 2, .int .u8 4, .int .u64 0, .int .u64 4096, .int .u64 176, .int .u64 176] 52)) wr.heap.size 52 [.int .u32 1, .int .u8 4, .int .u64 0, .int .u64 4096, .int .u64 280, .int .u64 280, .int .u32 2, .int .u8 4, .int .u64 0, .int .u64 4096, .int .u64 176, .int .u64 176]) := hide (Blk.new wr 52 [.int .u32 1, .int .u8 4, .int .u64 0, .int .u64 4096, .int .u64 280, .int .u64 280, .int .u32 2, .int .u8 4, .int .u64 0, .int .u64 4096, .int .u64 176, .int .u64 176])
    clear hown hb2 hk2 hcells bw
    go_wp2_with ((with_reducible refine (@id (wpList _ _ _ (Oper.mk none (Op.store 27 (.tmp 1) (.tmp 51)) _ _ _ none :: _) _ _) ?_)); refine wpList_store_row rfl 27 (.tmp 1) (.tmp 51) rfl w.heap.size #[.int .u16 3, .int .u64 0, .int .u64 0, .slice (some ⟨wr.heap.size, 0, none⟩) 2 2] rfl rfl 27 _ (unhide HK3) hdInfo rfl (hdOne _ _ _ _ _ _) ?_)
    refine bodyPost_ret (results_tmp_cell (P := Try.prog) rfl _ _ w.heap.size 27 #[.int .u16 3, .int .u64 0, .int .u64 0, .slice (some ⟨wr.heap.size, 0, none⟩) 2 2] (0, 0) _ rfl (setRow_heap _ _ _ _ _ _ (unhide HK3)) Try.underlying27 rfl hdInfo) rfl ?_
    have hO := own_setRowB (unhide HOw3) (Nat.lt_succ_self _) #[.int .u16 3, .int .u64 0, .int .u64 0, .slice (some ⟨wr.heap.size, 0, none⟩) 2 2]
    refine ⟨A', c', wr.heap.size, rfl, Rd.of_own hO, ?_, own_len (unhide HOw3), below_setRow (unhide HB3) (Nat.le_refl _) _⟩
    refine ⟨rfl, .inr ⟨wr.heap.size, 0, rfl, by simp, fun j u hj => ?_⟩⟩
    rw [cell_setRow_other _ _ _ _ (by dsimp only; omega)]
    exact (unhide HSg).cell (by rw [Nat.zero_add]; exact hj)
  have ilt : (k : Int) < 35 := by omega
  obtain ⟨x, hx⟩ : ∃ x, Dy.plL[k]? = some x := ⟨_, List.getElem?_eq_getElem hlt⟩
  have hxl : x < 18446744073709551616 := by
    have : ∀ y ∈ Dy.plL, y < 18446744073709551616 := by decide
    exact this x (List.mem_of_getElem? hx)
  have hnext : Dy.plB (k + 1) = setK (Dy.plB k) (8 * k) x 8 := by
    show setK (Dy.plB k) (8 * k) (Dy.plL.getD k 0) 8 = _
    rw [List.getD, hx]
    rfl
  have hset := refSet_yes A' 280 c' wr.heap.size (Dy.plB k) (8 * k) 8 x wr (Nat.le_refl _) (Rd.of_own hown) (by omega) (by omega) (by omega) hxl
  rw [← hnext] at hset
  have c0 := hcells _ _ hx
  have hI : ((8 * k : Nat) : Int) = 8 * (k : Int) := by omega
  rw [hI] at hset
  have w1e : IntKind.i64.wrap (8 * (k : Int)) = 8 * (k : Int) := by rw [IntKind.wrap_i64]; omega
  have w2e : IntKind.u64.wrap (8 * (k : Int)) = 8 * (k : Int) := by rw [IntKind.wrap_u64]; omega
  have Hset := hide hset
  have HB2 := hide hb2
  have HK2 := hide hk2
  have Hcells := hide hcells
  clear hset hown hb2 hk2 hcells hx hnext hI
  go_wp2_with fail
  refine (unhide Hset).mono ?_
  rintro e w3 ⟨A2, c2, rfl, hown, hbx⟩
  have HO3 := hide (own_base (base' := w.heap.size + 1) hown (Nat.le_of_lt hsz))
  have HB3 := hide ((unhide HB2).trans (hbx.mono (unhide HB2).size))
  have HK3 := hide ((unhide HK2).belowSz hbx)
  have HC3 : Hid (∀ j v, Dy.plL[j]? = some v → w3.cell? ⟨w.heap.size + 1, j, none⟩ = some (.int .u64 (v : Nat))) := hide (fun j v hv => (hbx.cell (p := ⟨w.heap.size + 1, j, none⟩) hsz).trans ((unhide Hcells) j v hv))
  have hsz3 : w.heap.size + 1 < w3.heap.size := Nat.lt_of_lt_of_le hsz hbx.size
  clear hown hbx c0 w1e w2e Hset HB2 HK2 Hcells
  go_wp2_with fail
  go_roundg (35 - (k + 1))
  case measure => omega
  case rel => exact ⟨k + 1, A2, c2, rfl, by omega, by go_num, rfl, unhide HO3, unhide HB3, unhide HK3, unhide HC3, hsz3⟩
end Go.Proofs.Ytdminnhfgdoibaa
namespace Go.Proofs.Ytdminnhfgdoibaa
set_option linter.unusedVariables false
set_option linter.unusedSimpArgs false
open Go.RowKit
namespace Dy
def plLit : List UInt8 := [1, 0, 0, 0, 0, 0, 0, 0, 3, 0, 0, 0, 0, 0, 0, 0, 14, 0, 0, 0, 0, 0, 0, 0, 1, 0, 0, 0, 0, 0, 0, 0, 4, 0, 0, 0, 0, 0, 0, 0, 176, 16, 0, 0, 0, 0, 0, 0, 5, 0, 0, 0, 0, 0, 0, 0, 16, 17, 0, 0, 0, 0, 0, 0, 10, 0, 0, 0, 0, 0, 0, 0, 8, 0, 0, 0, 0, 0, 0, 0, 6, 0, 0, 0, 0, 0, 0, 0, 200, 16, 0, 0, 0, 0, 0, 0, 11, 0, 0, 0, 0, 0, 0, 0, 24, 0, 0, 0, 0, 0, 0, 0, 7, 0, 0, 0, 0, 0, 0, 0, 248, 16, 0, 0, 0, 0, 0, 0, 8, 0, 0, 0, 0, 0, 0, 0, 24, 0, 0, 0, 0, 0, 0, 0, 9, 0, 0, 0, 0, 0, 0, 0, 24, 0, 0, 0, 0, 0, 0, 0, 0, 0, 0, 0, 0, 0, 0, 0, 0, 0, 0, 0, 0, 0, 0, 0, 1, 0, 0, 0, 2, 0, 0, 0, 1, 0, 0, 0, 0, 0, 0, 0, 0, 0, 0, 0, 0, 0, 0, 0, 0, 0, 0, 0, 0, 0, 0, 0, 0, 0, 0, 0, 0, 0, 0, 0, 0, 0, 0, 0, 0, 0, 0, 0, 1, 0, 0, 0, 16, 0, 1, 0, 77, 0, 0, 0, 0, 0, 0, 0, 5, 0, 0, 0, 0, 0, 0, 0, 8, 16, 0, 0, 0, 0, 0, 0, 1, 0, 0, 0, 1, 0, 0, 0, 255, 255, 255, 255, 255, 255, 255, 255, 0, 97, 0, 98, 0, 0, 0, 0]
set_option maxRecDepth 1000000 in
theorem plB_eq : plB 35 = plLit := by kernel_rfl
set_option maxRecDepth 1000000 in
theorem pl_parse : parse plLit plSegs = (⟨[⟨#[98]⟩], ⟨#[97]⟩, ⟨#[]⟩, [⟨⟨#[97]⟩, 77, 5, 1, true⟩], [⟨4104, 1, 1, 18446744073709551615⟩]⟩, 0) := by kernel_rfl
set_option maxRecDepth 1000000 in
theorem pl_look : look plLit plSegs ⟨#[97]⟩ = (0, true) := by kernel_rfl
set_option maxRecDepth 1000000 in
theorem pl_right : right plLit plSegs = true := by kernel_rfl
theorem pl_hash : hash [97] = 97 := by kernel_rfl
theorem pl_fit : ∀ s ∈ plSegs, SgFit s := by
  intro s hs
  unfold plSegs at hs
  simp only [List.mem_cons, List.not_mem_nil, or_false] at hs
  rcases hs with rfl | rfl <;> exact ⟨by decide, by decide, by decide, by decide, by decide, by decide⟩
end Dy
theorem own_cellI {w : World} {base g n c size i : Nat} {e : TypeId} {xs : List Value} {u : Value} (h : w.ownsRow base e size (.slice (some ⟨g, 0, none⟩) n c) n xs) (hi : xs[i]? = some u) : w.cell? ⟨g, i, none⟩ = some u := by
  obtain ⟨b, off, ea, -, hx⟩ := (Rd.of_own h).open_ (by intro e0; rw [e0] at hi; simp at hi)
  injection ea with ea
  injection ea with e1 e2
  subst e1 e2
  have := hx i u hi
  rwa [Nat.zero_add] at this
set_option maxRecDepth 100000 in
set_option maxHeartbeats 4000000 in
theorem works13_any (w : World) : Calls Try.prog 8 #[] w fun e w' => e = .returned (.bool true) ∧ Below w.heap.size w w' := by
  have KP := hide (plain13_any w)
  have ad1 : IntKind.i64.wrap ((18446744073709551615 : Nat) : Int) = -1 := by rw [IntKind.wrap_i64]; rfl
  have Had := hide ad1
  clear ad1
  go_enter Try.func8, Try.ntmps8
  go_wp2_with fail
  refine (unhide KP).mono ?_
  rintro e w1 ⟨A, c, g, rfl, hrb, hrs, hc, hb1⟩
  rw [Dy.plB_eq] at hrb
  have bH : Below w1.heap.size w1 (w1.alloc (.cells #[.int .u16 3, .int .u64 0, .int .u64 0, .slice (some ⟨g, 0, none⟩) 2 2] 27)) := (Below.refl _ _).alloc (Nat.le_refl _) _
  have HB1 : Hid (Below w.heap.size w (w1.alloc (.cells #[.int .u16 3, .int .u64 0, .int .u64 0, .slice (some ⟨g, 0, none⟩) 2 2] 27))) := hide (hb1.trans (bH.mono hb1.size))
  have HH1 : Hid (Blk (w1.alloc (.cells #[.int .u16 3, .int .u64 0, .int .u64 0, .slice (some ⟨g, 0, none⟩) 2 2] 27)) w1.heap.size 27 [.int .u16 3, .int .u64 0, .int .u64 0, .slice (some ⟨g, 0, none⟩) 2 2]) := hide (Blk.new w1 27 [.int .u16 3, .int .u64 0, .int .u64 0, .slice (some ⟨g, 0, none⟩) 2 2])
  have z0 := (unhide HH1).cell (i := 0) rfl
  have z1 := (unhide HH1).cell (i := 1) rfl
  have z2 := (unhide HH1).cell (i := 2) rfl
  have z3 := (unhide HH1).cell (i := 3) rfl
  have e1 : (w1.alloc (.cells #[.int .u16 3, .int .u64 0, .int .u64 0, .slice (some ⟨g, 0, none⟩) 2 2] 27)).heap.size = w1.heap.size + 1 := by simp
  have KQ := dparse_any A 280 c w1.heap.size Dy.plLit 3 0 0 (some ⟨g, 0, none⟩) 2 2 Dy.plSegs (w1.alloc (.cells #[.int .u16 3, .int .u64 0, .int .u64 0, .slice (some ⟨g, 0, none⟩) 2 2] 27)) (by rw [e1]; omega) (hrb.below bH) (hrs.below bH) (by omega) (by omega) hc Dy.pl_fit
  have KL := fun (w' : World) (hb : Below w1.heap.size w1 w') => look_any A 280 c w1.heap.size Dy.plLit 3 0 0 (some ⟨g, 0, none⟩) 2 2 Dy.plSegs ⟨#[97]⟩ w' hb.size (hrb.below hb) (hrs.below hb) (by omega) (by omega) hc Dy.pl_fit (by decide)
  have KR := fun (w' : World) (hb : Below w1.heap.size w1 w') => right_any A 280 c w1.heap.size Dy.plLit 3 0 0 (some ⟨g, 0, none⟩) 2 2 Dy.plSegs w' hb.size (hrb.below hb) (hrs.below hb) (by omega) (by omega) hc Dy.pl_fit
  have KH := fun (w' : World) => hash_any ⟨#[97]⟩ w' (by decide)
  rw [Dy.pl_look] at KL
  rw [Dy.pl_right] at KR
  rw [show Dy.hash (⟨#[97]⟩ : ByteArray).data.toList = 97 from Dy.pl_hash] at KH
  unfold ParseE at KQ
  rw [Dy.pl_parse] at KQ
  have kl : ∀ (w' : World) (hb : Below w1.heap.size w1 w'), Calls Try.prog 10 #[.slice A 280 c, .agg #[.int .u16 3, .int .u64 0, .int .u64 0, .slice (some ⟨g, 0, none⟩) 2 2], .string ⟨#[97]⟩] w' (fun e w2 => e = .returned (.tuple #[.int .i64 0, .bool true]) ∧ Below w'.heap.size w' w2) := KL
  have kh : ∀ (w' : World), Calls Try.prog 12 #[.string ⟨#[97]⟩] w' (fun e w2 => e = .returned (.int .u32 97) ∧ Below w'.heap.size w' w2) := KH
  have HKQ := hide KQ
  have HKL := hide kl
  have HKR := hide KR
  have HKH := hide kh
  have HbH := hide bH
  clear KP KQ KL KR KH kl kh hrb hrs hb1 bH e1
  go_wp2_with fail
  refine (unhide HKQ).mono ?_
  rintro e w2 ⟨hb2, A1, c1, A2, c2, A3, c3, rfl, hdy⟩
  dsimp only [List.length_cons, List.length_nil] at hdy ⊢
  obtain ⟨h1, h2, h3⟩ := hdy
  obtain ⟨g1, rfl, -, -⟩ := own_some h1 (by simp)
  obtain ⟨g2, rfl, -, -⟩ := own_some h2 (by simp)
  obtain ⟨g3, rfl, -, -⟩ := own_some h3 (by simp)
  have bD : Below w2.heap.size w2 (w2.alloc (.cells #[.slice (some ⟨g1, 0, none⟩) 1 c1, .string ⟨#[97]⟩, .string ⟨#[]⟩, .slice (some ⟨g2, 0, none⟩) 1 c2, .slice (some ⟨g3, 0, none⟩) 1 c3] 41)) := (Below.refl _ _).alloc (Nat.le_refl _) _
  have HB2 : Hid (Below w.heap.size w (w2.alloc (.cells #[.slice (some ⟨g1, 0, none⟩) 1 c1, .string ⟨#[97]⟩, .string ⟨#[]⟩, .slice (some ⟨g2, 0, none⟩) 1 c2, .slice (some ⟨g3, 0, none⟩) 1 c3] 41))) := hide (((unhide HB1).trans (hb2.mono (unhide HB1).size)).alloc ((unhide HB1).trans (hb2.mono (unhide HB1).size)).size _)
  have HbD : Hid (Below w1.heap.size w1 (w2.alloc (.cells #[.slice (some ⟨g1, 0, none⟩) 1 c1, .string ⟨#[97]⟩, .string ⟨#[]⟩, .slice (some ⟨g2, 0, none⟩) 1 c2, .slice (some ⟨g3, 0, none⟩) 1 c3] 41))) := hide (((unhide HbH).trans (hb2.mono (unhide HbH).size)).alloc ((unhide HbH).trans (hb2.mono (unhide HbH).size)).size _)
  have HH2 : Hid (Blk (w2.alloc (.cells #[.slice (some ⟨g1, 0, none⟩) 1 c1, .string ⟨#[97]⟩, .string ⟨#[]⟩, .slice (some ⟨g2, 0, none⟩) 1 c2, .slice (some ⟨g3, 0, none⟩) 1 c3] 41)) w1.heap.size 27 [.int .u16 3, .int .u64 0, .int .u64 0, .slice (some ⟨g, 0, none⟩) 2 2]) := hide (((unhide HH1).belowSz hb2).alloc _)
  have HD2 : Hid (Blk (w2.alloc (.cells #[.slice (some ⟨g1, 0, none⟩) 1 c1, .string ⟨#[97]⟩, .string ⟨#[]⟩, .slice (some ⟨g2, 0, none⟩) 1 c2, .slice (some ⟨g3, 0, none⟩) 1 c3] 41)) w2.heap.size 41 [.slice (some ⟨g1, 0, none⟩) 1 c1, .string ⟨#[97]⟩, .string ⟨#[]⟩, .slice (some ⟨g2, 0, none⟩) 1 c2, .slice (some ⟨g3, 0, none⟩) 1 c3]) := hide (Blk.new w2 41 [.slice (some ⟨g1, 0, none⟩) 1 c1, .string ⟨#[97]⟩, .string ⟨#[]⟩, .slice (some ⟨g2, 0, none⟩) 1 c2, .slice (some ⟨g3, 0, none⟩) 1 c3])
  have HC2 : Hid (∀ W, Below (w2.alloc (.cells #[.slice (some ⟨g1, 0, none⟩) 1 c1, .string ⟨#[97]⟩, .string ⟨#[]⟩, .slice (some ⟨g2, 0, none⟩) 1 c2, .slice (some ⟨g3, 0, none⟩) 1 c3] 41)).heap.size (w2.alloc (.cells #[.slice (some ⟨g1, 0, none⟩) 1 c1, .string ⟨#[97]⟩, .string ⟨#[]⟩, .slice (some ⟨g2, 0, none⟩) 1 c2, .slice (some ⟨g3, 0, none⟩) 1 c3] 41)) W → Blk W w1.heap.size 27 [.int .u16 3, .int .u64 0, .int .u64 0, .slice (some ⟨g, 0, none⟩) 2 2] ∧ Blk W w2.heap.size 41 [.slice (some ⟨g1, 0, none⟩) 1 c1, .string ⟨#[97]⟩, .string ⟨#[]⟩, .slice (some ⟨g2, 0, none⟩) 1 c2, .slice (some ⟨g3, 0, none⟩) 1 c3] ∧ Below w.heap.size w W ∧ Below w1.heap.size w1 W ∧ W.cell? ⟨g1, 0, none⟩ = some (.string ⟨#[98]⟩) ∧ W.cell? ⟨g2, 1, none⟩ = some (.int .u64 77) ∧ W.cell? ⟨g3, 3, none⟩ = some (.int .i64 (-1))) := hide (by
    intro W hW
    refine ⟨(unhide HH2).belowSz hW, (unhide HD2).belowSz hW, (unhide HB2).trans (hW.mono (unhide HB2).size), (unhide HbD).trans (hW.mono (unhide HbD).size), ?_, ?_, ?_⟩
    · exact own_cellI (i := 0) (own_below (own_below h1 bD) hW) rfl
    · exact own_cellI (i := 1) (own_below (own_below h2 bD) hW) rfl
    · have := own_cellI (i := 3) (u := .int .i64 (adI 18446744073709551615)) (own_below (own_below h3 bD) hW) rfl
      unfold adI at this
      rw [unhide Had] at this
      exact this)
  have y0 := (unhide HH2).cell (i := 0) rfl
  have y1 := (unhide HH2).cell (i := 1) rfl
  have y2 := (unhide HH2).cell (i := 2) rfl
  have y3 := (unhide HH2).cell (i := 3) rfl
  clear hb2 h1 h2 h3 bD HB1 HH1 HKQ HbH z0 z1 z2 z3 Had
  go_wp2_with fail
  refine ((unhide HKL) _ (unhide HbD)).mono ?_
  rintro e w3 ⟨rfl, hb3⟩
  obtain ⟨q1, q2, q3, q4, q5, q6, q7⟩ := (unhide HC2) w3 hb3
  have HB3 := hide q3
  have HB4 := hide q4
  have x0 := q1.cell (i := 0) rfl
  have x1 := q1.cell (i := 1) rfl
  have x2 := q1.cell (i := 2) rfl
  have x3 := q1.cell (i := 3) rfl
  have d0 := q2.cell (i := 0) rfl
  have d1 := q2.cell (i := 1) rfl
  have d3 := q2.cell (i := 3) rfl
  have d4 := q2.cell (i := 4) rfl
  clear q1 q2 q3 q4 hb3 HC2 HB2 HbD HH2 HD2 HKL y0 y1 y2 y3
  go_wp2_with fail
  refine ((unhide HKR) _ (unhide HB4)).mono ?_
  rintro e w4 ⟨rfl, hb4⟩
  have HB5 := hide ((unhide HB3).trans (hb4.mono (unhide HB3).size))
  clear hb4 HKR
  go_wp2_with fail
  refine ((unhide HKH) w4).mono ?_
  rintro e w5 ⟨rfl, hb5⟩
  go_wp2_with fail
  go_ret
  exact ⟨rfl, (unhide HB5).trans (hb5.mono (unhide HB5).size)⟩
end Go.Proofs.Ytdminnhfgdoibaa
namespace Go.Proofs.Ytdminnhfgdoibaa
set_option linter.unusedVariables false
set_option linter.unusedSimpArgs false
open Go.RowKit

/-- What a file's block says. -/
structure Fl where
  A : Option Addr
  n : Nat
  c : Nat
  b : List UInt8
  ty : Int
  en : Int
  ph : Int
  As : Option Addr
  ns : Nat
  cs : Nat
  segs : List El.Sg
  At : Option Addr
  k : Nat
  ct : Nat
  Av : Option Addr
  cv : Nat
  L : List (Nat × Nat)
def tgV (L : List (Nat × Nat)) : List Value := L.map fun e => .int .u64 (e.1 : Nat)
def vlV (L : List (Nat × Nat)) : List Value := L.map fun e => .int .u64 (e.2 : Nat)
def flC (f : Fl) : List Value := [.slice f.A f.n f.c, .int .u16 f.ty, .int .u64 f.en, .int .u64 f.ph, .slice f.As f.ns f.cs, .slice f.At f.k f.ct, .slice f.Av f.k f.cv]
structure FlM (w : World) (B g : Nat) (f : Fl) : Prop where
  hB : B ≤ g
  blk : Blk w g 102 (flC f)
  b : Rd w B 1 f.A f.n (bys f.b)
  segs : Rd w B 6 f.As f.ns (segCells f.segs)
  tags : Rd w w.heap.size 1 f.At f.k (tgV f.L)
  vals : Rd w w.heap.size 1 f.Av f.k (vlV f.L)
structure FlOk (f : Fl) : Prop where
  n : f.n ≤ 4294967296
  nc : f.n ≤ f.c
  ns : f.ns ≤ 4294967296
  k : f.k ≤ 4294967296
  fit : ∀ s ∈ f.segs, SgFit s
  ent : ∀ e ∈ f.L, e.1 < 18446744073709551616 ∧ e.2 < 18446744073709551616
section
variable {w w' : World} {B g : Nat} {f : Fl}
theorem FlM.belowSz (h : FlM w B g f) (hb : Below w.heap.size w w') : FlM w' B g f := ⟨h.hB, h.blk.belowSz hb, h.b.below (hb.mono (Nat.le_trans h.hB (Nat.le_of_lt h.blk.lt))), h.segs.below (hb.mono (Nat.le_trans h.hB (Nat.le_of_lt h.blk.lt))), h.tags.belowSz hb, h.vals.belowSz hb⟩
theorem FlM.sz (h : FlM w B g f) : B ≤ w.heap.size := Nat.le_trans h.hB (Nat.le_of_lt h.blk.lt)
theorem FlM.len (h : FlM w B g f) : f.L.length = f.k := by have := h.tags.1; simp [tgV] at this; omega
theorem FlM.at_ (h : FlM w B g f) {j : Nat} {e : Nat × Nat} (hj : f.L[j]? = some e) : ∃ b1 o1 b2 o2, f.At = some ⟨b1, o1, none⟩ ∧ f.Av = some ⟨b2, o2, none⟩ ∧ w.cell? ⟨b1, o1 + j, none⟩ = some (.int .u64 (e.1 : Nat)) ∧ w.cell? ⟨b2, o2 + j, none⟩ = some (.int .u64 (e.2 : Nat)) := by
  obtain ⟨b1, o1, h1, -, h2⟩ := h.tags.at_ (k := j) (u := .int .u64 (e.1 : Nat)) (by unfold tgV; rw [List.getElem?_map, hj]; rfl)
  obtain ⟨b2, o2, h3, -, h4⟩ := h.vals.at_ (k := j) (u := .int .u64 (e.2 : Nat)) (by unfold vlV; rw [List.getElem?_map, hj]; rfl)
  exact ⟨b1, o1, b2, o2, h1, h3, h2, h4⟩
end
namespace Dy
theorem val_drop {L : List (Nat × Nat)} {j : Nat} {e : Nat × Nat} {t : Nat} (h : L[j]? = some e) : val (L.drop j) t = if e.1 = t then some e.2 else val (L.drop (j + 1)) t := by
  have hl : j < L.length := (List.getElem?_eq_some_iff.1 h).1
  rw [List.drop_eq_getElem_cons hl, (List.getElem?_eq_some_iff.1 h).2, val]
end Dy
set_option maxRecDepth 100000 in
theorem rvalue_any (B g : Nat) (f : Fl) (t : Nat) (w : World) (h : FlM w B g f) (hk : f.k ≤ 4294967296) :
    Calls Try.prog 48 #[.pointer (some ⟨g, 0, none⟩), .int .u64 (t : Nat)] w fun e w' => e = .returned (.tuple #[.int .u64 ((Dy.val f.L t).getD 0 : Nat), .bool (Dy.val f.L t).isSome]) ∧ w = w' := by
  have hlen := h.len
  have x5 := h.blk.cell (i := 5) rfl
  have x6 := h.blk.cell (i := 6) rfl
  have hat := fun (j : Nat) (e : Nat × Nat) (hj : f.L[j]? = some e) => h.at_ hj
  obtain ⟨A, n, c, b, ty, en, ph, As, ns, cs, segs, At, k, ct, Av, cv, L⟩ := f
  dsimp only [flC] at *
  obtain ⟨R, hR⟩ : ∃ R, Dy.val L t = R := ⟨_, rfl⟩
  rw [hR]
  have HR : Hid (R = Dy.val (L.drop 0) t) := hide (by rw [← hR]; rfl)
  have Hat := hide hat
  have Hlen := hide hlen
  clear h hat hlen hR
  go_enter Try.func48, Try.ntmps48
  go_wp2_with fail
  go_loopg [6] k (fun gk iv wr => ∃ j : Nat, gk = k - j ∧ j ≤ k ∧ iv = .int .i64 j ∧ w = wr ∧ R = Dy.val (L.drop j) t)
  case atStart => exact ⟨0, rfl, Nat.zero_le _, rfl, rfl, unhide HR⟩
  case round =>
  obtain ⟨j, hgk, hj, rfl, rfl, hr⟩ := hrel
  have HR2 := hide hr
  clear hr HR
  by_cases hlt : j < k
  case neg =>
    have hn : R = none := by rw [unhide HR2, List.drop_of_length_le (by rw [unhide Hlen]; omega)]; rfl
    have ige : ¬ (j : Int) < (k : Int) := by omega
    subst hn
    clear HR2
    go_wp2_with fail
    go_ret2
    exact ⟨rfl, rfl⟩
  have ilt : (j : Int) < (k : Int) := by omega
  obtain ⟨⟨e1, e2⟩, he⟩ : ∃ x, L[j]? = some x := ⟨_, List.getElem?_eq_getElem (by rw [unhide Hlen]; exact hlt)⟩
  obtain ⟨b1, o1, b2, o2, h1, h2, c1, c2⟩ := (unhide Hat) j _ he
  have hr := unhide HR2
  rw [Dy.val_drop he] at hr
  dsimp only at c1 c2 hr
  subst h1 h2
  by_cases ht : e1 = t
  case pos =>
    have hn : R = some e2 := by rw [hr, if_pos ht]
    subst hn
    subst ht
    clear hr HR2 he
    go_wp2_with fail
    go_ret2
    exact ⟨rfl, rfl⟩
  have htI : ¬ (e1 : Int) = (t : Int) := by omega
  have HR3 : Hid (R = Dy.val (L.drop (j + 1)) t) := hide (by rw [hr, if_neg ht])
  clear hr HR2 he ht
  go_wp2_with fail
  go_roundg (k - (j + 1))
  case measure => omega
  case rel => exact ⟨j + 1, rfl, by omega, by go_num, rfl, unhide HR3⟩
theorem rboth_any (B g : Nat) (f : Fl) (s t : Nat) (w : World) (h : FlM w B g f) (hk : f.k ≤ 4294967296) :
    Calls Try.prog 67 #[.pointer (some ⟨g, 0, none⟩), .int .u64 (s : Nat), .int .u64 (t : Nat)] w fun e w' => e = .returned (.bool (Dy.pair f.L s t)) ∧ w = w' := by
  have K1 := hide (rvalue_any B g f s w h hk)
  have K2 := hide (rvalue_any B g f t w h hk)
  unfold Dy.pair
  obtain ⟨p, hp⟩ : ∃ p, (Dy.val f.L s).isSome = p := ⟨_, rfl⟩
  obtain ⟨q, hq⟩ : ∃ p, (Dy.val f.L t).isSome = p := ⟨_, rfl⟩
  have k1 := unhide K1
  have k2 := unhide K2
  rw [hp] at k1 ⊢
  rw [hq] at k2 ⊢
  have J1 := hide k1
  have J2 := hide k2
  clear K1 K2 k1 k2 hp hq h
  go_enter Try.func67, Try.ntmps67
  go_wp2_with fail
  refine (unhide J1).mono ?_
  rintro e w1 ⟨rfl, rfl⟩
  go_wp2_with fail
  refine (unhide J2).mono ?_
  rintro e w2 ⟨rfl, rfl⟩
  cases p <;> cases q
  all_goals (go_wp2_with fail)
  all_goals go_ret
  all_goals exact ⟨rfl, rfl⟩
end Go.Proofs.Ytdminnhfgdoibaa
namespace Go.Proofs.Ytdminnhfgdoibaa
set_option linter.unusedVariables false
set_option linter.unusedSimpArgs false
open Go.RowKit

theorem boxD_facts {w : World} {g : Nat} {a b c d : Value} {t : TypeId} (h : w.heap[g]? = some (.cells #[a, b, c, d] t)) : w.cell? ⟨g, 0, none⟩ = some a ∧ w.cell? ⟨g, 1, none⟩ = some b ∧ w.cell? ⟨g, 2, none⟩ = some c ∧ w.cell? ⟨g, 3, none⟩ = some d :=
  ⟨cell_of_row _ _ 0 _ _ _ h, cell_of_row _ _ 1 _ _ _ h, cell_of_row _ _ 2 _ _ _ h, cell_of_row _ _ 3 _ _ _ h⟩
theorem unflipD {P : Program} {f : FuncId} {args : Array Value} {w : World} {r : Ending} (h : Calls P f args w fun e w' => e = r ∧ w = w') : Calls P f args w fun e w' => e = r ∧ w' = w :=
  h.mono fun _ _ ⟨a, b⟩ => ⟨a, b.symm⟩
set_option maxHeartbeats 2000000 in
theorem rloadsD_any (A : Option Addr) (n c B : Nat) (l : List El.Sg) (ty en ph : Int) (w : World) (hB : B ≤ w.heap.size) (hl : Rd w B 6 A n (segCells l)) (hn : n ≤ 4294967296) :
    Calls Try.prog 74 #[.agg #[.int .u16 ty, .int .u64 en, .int .u64 ph, .slice A n c]] w fun e w' => ∃ A' c', e = .returned (.slice A' (El.loads l).length c') ∧
      w'.ownsRow (w.heap.size + 1) 52 6 (.slice A' (El.loads l).length c') (El.loads l).length (segCells (El.loads l)) ∧ Below w.heap.size w w' := by
  have hln : l.length = n := by have := hl.1; rw [segCells_len] at this; omega
  have Hl := hide hl
  have Hln := hide hln
  clear hl hln
  go_enter Try.func74, Try.ntmps74
  go_wp2
  go_loopg [3, 4] n (fun gk out i wr => ∃ (k : Nat) (A' : Option Addr) (c' : Nat) (o : List El.Sg), gk = n - k ∧ k ≤ n ∧ i = .int .i64 k ∧ out = .slice A' o.length c' ∧ o = El.loads (l.take k) ∧ o.length ≤ k ∧
    wr.ownsRow (w.heap.size + 1) 52 6 (.slice A' o.length c') o.length (segCells o) ∧ Below w.heap.size w wr ∧ wr.heap[w.heap.size]? = some (.cells #[.int .u16 ty, .int .u64 en, .int .u64 ph, .slice A n c] 27 (0, 0)))
  case atStart => exact ⟨0, none, 0, [], by omega, Nat.zero_le _, rfl, rfl, rfl, Nat.le_refl _, World.ownsRow_nil _ _ _ _, (Below.refl _ _).alloc (Nat.le_refl _) _, heap_alloc_new _ _⟩
  case round =>
    obtain ⟨k, A', c', o, hgk, hk, rfl, rfl, ho, hok, hown, hb, hx⟩ := hrel
    have Ho := hide ho
    have Hgk := hide hgk
    have hsz := hb.size
    have hsx := lt_of_block hx
    obtain ⟨x0, x1, x2, x3⟩ := boxD_facts hx
    have Hx := hide hx
    have Hb := hide hb
    have Hown := hide hown
    clear ho hgk hx x0 x1 x2 hb hown
    by_cases hlt : k < n
    · obtain ⟨s, hs⟩ : ∃ s, l[k]? = some s := ⟨_, List.getElem?_eq_getElem (by rw [unhide Hln]; exact hlt)⟩
      obtain ⟨b1, o1, rfl, hbb, c0, c1, c2, c3, c4, c5⟩ := seg_at ((unhide Hl).below ((unhide Hb).mono hB)) hs
      by_cases hc : s.kind = 1
      · have hbq : (((s.kind : Nat) : Int) == 1) = true := by rw [hc]; rfl
        have ho2 : o ++ [s] = El.loads (l.take (k + 1)) := by
          rw [List.take_add_one, hs, unhide Ho]
          simp [El.loads, El.isLoad, hc]
        have Ho2 := hide ho2
        clear ho2 hs hc
        go_wp2_with (at_builtin; go_loud (refine wpList_app1g segTy rfl _ _ rfl (w.heap.size + 1) (.slice A' o.length c') o.length (segCells o) rfl (unhide Hown) #[.int .u32 s.kind, .int .u8 s.flags, .int .u64 s.off, .int .u64 s.addr, .int .u64 s.fsz, .int .u64 s.msz] _ rfl (by simp) rfl (sgVals_one s) (by omega) (by omega) ?_; intro A2 c2 w1 hown' hgrow hat; have Hgrow := hide hgrow; have Hown' := hide hown'; clear hgrow hat hown'))
        have hx1 := ((unhide Hgrow).block w.heap.size (by omega) (by intro e; have := ((unhide Hown).lt _ e.symm).1; omega)).trans (unhide Hx)
        have hb1 := (unhide Hb).grown (unhide Hgrow) hsz (fun k hk => by have := ((unhide Hown).lt k hk).1; omega)
        have Hb1 := hide hb1
        have Hx1 := hide hx1
        clear hb1 hx1
        go_roundg (n - (k + 1))
        case measure => have := unhide Hgk; omega
        case rel =>
          refine ⟨k + 1, A2, c2, o ++ [s], rfl, by omega, by go_num, by simp, unhide Ho2, by simp; omega, ?_, unhide Hb1, unhide Hx1⟩
          rw [segCells_snoc]
          simpa using unhide Hown'
      · have hbq : (((s.kind : Nat) : Int) == 1) = false := beq_eq_false_iff_ne.2 (by omega)
        have ho2 : o = El.loads (l.take (k + 1)) := by
          rw [List.take_add_one, hs, unhide Ho]
          simp [El.loads, El.isLoad, hc]
        have Ho2 := hide ho2
        clear ho2 hs hc
        go_wp2
        go_roundg (n - (k + 1))
        case measure => have := unhide Hgk; omega
        case rel => exact ⟨k + 1, A', c', o, rfl, by omega, by go_num, rfl, unhide Ho2, by omega, unhide Hown, unhide Hb, unhide Hx⟩
    · have ho2 : o = El.loads l := by
        have := unhide Ho
        rwa [List.take_of_length_le (by have := unhide Hln; omega)] at this
      have Ho2 := hide ho2
      clear ho2
      go_wp2
      go_ret
      rw [← unhide Ho2]
      exact ⟨A', c', rfl, unhide Hown, unhide Hb⟩

namespace Dy
/-- Where a stretch is laid, as far as the number fits. -/
def fil (ls : List El.Sg) (addr size : Nat) : Option Nat := match ls.find? (laidP addr size) with
  | none => none
  | some s => if s.off + (addr - s.addr) < 18446744073709551616 then some (s.off + (addr - s.addr)) else none
theorem fil_none {addr size : Nat} : fil [] addr size = none := rfl
theorem fil_cons {s : El.Sg} {r : List El.Sg} {addr size : Nat} : fil (s :: r) addr size = if laidP addr size s = true then (if s.off + (addr - s.addr) < 18446744073709551616 then some (s.off + (addr - s.addr)) else none) else fil r addr size := by
  unfold fil
  rw [List.find?_cons]
  cases laidP addr size s <;> rfl
theorem laid_fil {n : Nat} {ls : List El.Sg} {addr size : Nat} : laid n ls addr size = match fil ls addr size with
    | none => none
    | some o => if o + size ≤ n then some o else none := by
  rw [laid_eq]
  unfold fil
  cases ls.find? (laidP addr size) with
  | none => rfl
  | some s =>
    dsimp only
    unfold laidAt
    by_cases h : s.off + (addr - s.addr) < 18446744073709551616
    · by_cases h2 : s.off + (addr - s.addr) + size ≤ n
      · rw [if_pos ⟨h, h2⟩, if_pos h]
        dsimp only
        rw [if_pos h2]
      · rw [if_neg (fun x => h2 x.2), if_pos h]
        dsimp only
        rw [if_neg h2]
    · rw [if_neg (fun x => h x.1), if_neg h]
end Dy
/-- What Filled answers. -/
def FillE (o : Option Nat) (w : World) (e : Ending) (w' : World) : Prop := Below w.heap.size w w' ∧ match o with
  | none => e = .returned (.tuple #[.int .u64 0, .bool false])
  | some v => e = .returned (.tuple #[.int .u64 (v : Nat), .bool true])
set_option maxRecDepth 100000 in
set_option maxHeartbeats 4000000 in
theorem filled_any (ty en ph : Int) (As : Option Addr) (ns cs B : Nat) (segs : List El.Sg) (addr size : Nat) (w : World) (hB : B ≤ w.heap.size) (hs : Rd w B 6 As ns (segCells segs)) (hns : ns ≤ 4294967296) (hfit : ∀ s ∈ segs, SgFit s) (ha : addr < 18446744073709551616) (hsz : size < 18446744073709551616) :
    Calls Try.prog 68 #[.agg #[.int .u16 ty, .int .u64 en, .int .u64 ph, .slice As ns cs], .int .u64 (addr : Nat), .int .u64 (size : Nat)] w (FillE (Dy.fil (El.loads segs) addr size) w) := by
  have hB0 : Below w.heap.size w (w.alloc (.cells #[.int .u16 ty, .int .u64 en, .int .u64 ph, .slice As ns cs] 27)) := (Below.refl _ _).alloc (Nat.le_refl _) _
  have hH0 := Blk.new w 27 [.int .u16 ty, .int .u64 en, .int .u64 ph, .slice As ns cs]
  have KLo := hide (rloadsD_any As ns cs B segs ty en ph _ (Nat.le_trans hB hB0.size) (hs.below (hB0.mono hB)) hns)
  have z0 := hH0.cell (i := 0) rfl
  have z1 := hH0.cell (i := 1) rfl
  have z2 := hH0.cell (i := 2) rfl
  have z3 := hH0.cell (i := 3) rfl
  have hln : (El.loads segs).length ≤ 4294967296 := by
    have h1 : (El.loads segs).length ≤ segs.length := List.length_filter_le _ _
    have h2 := hs.1
    rw [segCells_len] at h2
    omega
  have hf2 : ∀ s ∈ El.loads segs, SgFit s := fun s h => hfit s (List.mem_filter.1 h).1
  obtain ⟨ls, hls⟩ : ∃ x, El.loads segs = x := ⟨_, rfl⟩
  rw [hls] at hln hf2 ⊢
  have Hls := hide hls
  obtain ⟨R, hR⟩ : ∃ R, Dy.fil ls addr size = R := ⟨_, rfl⟩
  rw [hR]
  have HR : Hid (R = Dy.fil (ls.drop 0) addr size) := hide (by rw [← hR]; rfl)
  have HB0 := hide hB0
  have Hfit := hide hf2
  clear hs hfit hB0 hH0 hls hR hf2
  go_enter Try.func68, Try.ntmps68
  go_wp2_with fail
  refine (unhide KLo).mono ?_
  rintro e w1 ⟨A1, c1, rfl, hrow, hb1⟩
  rw [unhide Hls] at hrow ⊢
  have HB1 := hide ((unhide HB0).trans (hb1.mono (unhide HB0).size))
  have HRd := hide (Rd.of_own hrow)
  obtain ⟨m, hm⟩ : ∃ m, ls.length = m := ⟨_, rfl⟩
  have hrd := unhide HRd
  rw [hm] at hrd hln ⊢
  have HRd2 := hide hrd
  have Hm := hide hm
  clear hrow hb1 HB0 KLo z0 z1 z2 z3 HRd hrd hm
  go_wp2_with fail
  go_loopg [9] m (fun gk iv wr => ∃ j q : Nat, gk = m - j ∧ j ≤ m ∧ iv = .int .i64 j ∧ w1.drewN q = wr ∧ R = Dy.fil (ls.drop j) addr size)
  case atStart => exact ⟨0, 0, rfl, Nat.zero_le _, rfl, rfl, unhide HR⟩
  case round =>
  obtain ⟨j, q, hgk, hj, rfl, rfl, hr⟩ := hrel
  have HR2 := hide hr
  clear hr HR
  by_cases hlt : j < m
  case neg =>
    have hn : R = none := by rw [unhide HR2, List.drop_of_length_le (by rw [unhide Hm]; omega)]; rfl
    have ige : ¬ (j : Int) < (m : Int) := by omega
    subst hn
    clear HR2
    go_wp2_with fail
    go_ret2
    exact ⟨below_drewN' (unhide HB1) q, rfl⟩
  have ilt : (j : Int) < (m : Int) := by omega
  obtain ⟨s, hsj⟩ : ∃ x, ls[j]? = some x := ⟨_, List.getElem?_eq_getElem (by rw [unhide Hm]; exact hlt)⟩
  obtain ⟨hf0, hf1, hf2, hf3, hf4, hf5⟩ := (unhide Hfit) s (List.mem_of_getElem? hsj)
  obtain ⟨b1, o1, hA1, -, x0, x1, x2, x3, x4, x5⟩ := seg_at (unhide HRd2) hsj
  subst hA1
  have hr := unhide HR2
  rw [List.drop_eq_getElem_cons (by rw [unhide Hm]; exact hlt), show ls[j]'(by rw [unhide Hm]; exact hlt) = s from (List.getElem?_eq_some_iff.1 hsj).2, Dy.fil_cons] at hr
  by_cases h1 : s.addr ≤ addr
  case neg =>
    have g1 : decide ((s.addr : Int) ≤ (addr : Int)) = false := by simp; omega
    have g2 : decide (s.addr ≤ addr) = false := by simpa using h1
    have hp : Dy.laidP addr size s = false := by unfold Dy.laidP; rw [g2]; rfl
    have HE : Hid (R = Dy.fil (ls.drop (j + 1)) addr size) := hide (by rw [hr, hp]; rfl)
    clear hr HR2 hsj hp
    go_wp2_with fail
    go_quiet (fail)
    go_wp2_with fail
    go_roundg (m - (j + 1))
    case measure => omega
    case rel => exact ⟨j + 1, q + nq, rfl, by omega, by go_num, rfl, unhide HE⟩
  obtain ⟨d, hd⟩ : ∃ d, addr - s.addr = d := ⟨_, rfl⟩
  have hdI : (addr : Int) - (s.addr : Int) = (d : Int) := by omega
  have hdw : IntKind.u64.wrap ((d : Nat) : Int) = (d : Int) := by rw [IntKind.wrap_u64]; omega
  have g1 : decide ((s.addr : Int) ≤ (addr : Int)) = true := by simp; omega
  have g2 : decide (s.addr ≤ addr) = true := by simpa using h1
  have KI := fun (w' : World) => rinsW_any (d : Int) (size : Int) (s.fsz : Int) w' (by omega) (by omega) (by omega) (by omega) (by omega) (by omega)
  by_cases h2 : d + size ≤ s.fsz
  case neg =>
    have hp : Dy.laidP addr size s = false := by unfold Dy.laidP; rw [g2, hd, decide_eq_false h2]; rfl
    have HE : Hid (R = Dy.fil (ls.drop (j + 1)) addr size) := hide (by rw [hr, hp]; rfl)
    rw [show decide ((d : Int) + (size : Int) ≤ (s.fsz : Int)) = false by simp; omega] at KI
    have HKI := hide KI
    clear hr HR2 hsj hp KI hd
    go_wp2_with fail
    go_quiet ((go_at_call 46; exact ((unhide HKI) _).mono (fun e w'' h => ⟨h.1, ⟨_, h.2.symm⟩⟩)))
    go_wp2_with fail
    go_roundg (m - (j + 1))
    case measure => omega
    case rel => exact ⟨j + 1, q + nq, rfl, by omega, by go_num, rfl, unhide HE⟩
  have hp : Dy.laidP addr size s = true := by unfold Dy.laidP; rw [g2, hd, decide_eq_true h2]; rfl
  rw [hp, if_pos rfl, hd] at hr
  rw [show decide ((d : Int) + (size : Int) ≤ (s.fsz : Int)) = true by simp; omega] at KI
  have HKI := hide KI
  have HR3 := hide hr
  clear hr HR2 hsj hp KI hd
  by_cases h3 : s.off + d < 18446744073709551616
  · have HE : Hid (R = some (s.off + d)) := hide (by rw [unhide HR3, if_pos h3])
    have KA := hide (fun (w' : World) => raddW_yes (s.off : Int) (d : Int) w' (by omega) (by omega) (by omega))
    clear HR3
    go_wp2_with fail
    go_quiet ((go_at_call 46; exact ((unhide HKI) _).mono (fun e w'' h => ⟨h.1, ⟨_, h.2.symm⟩⟩)))
    go_wp2_with fail
    go_quiet ((go_at_call 75; exact ((unhide KA) _).mono (fun e w'' h => ⟨h.1, ⟨_, h.2.symm⟩⟩)))
    go_wp2_with fail
    go_ret2
    rw [unhide HE]
    exact ⟨by first | exact below_drewN' (unhide HB1) _ | exact below_drewN' (below_drewN' (unhide HB1) _) _ | exact below_drewN' (below_drewN' (below_drewN' (unhide HB1) _) _) _, rfl⟩
  · have HE : Hid (R = none) := hide (by rw [unhide HR3, if_neg h3])
    have KA := hide (fun (w' : World) => raddW_no (s.off : Int) (d : Int) w' (by omega) (by omega) (by omega) (by omega) (by omega))
    clear HR3
    go_wp2_with fail
    go_quiet ((go_at_call 46; exact ((unhide HKI) _).mono (fun e w'' h => ⟨h.1, ⟨_, h.2.symm⟩⟩)))
    go_wp2_with fail
    go_quiet ((go_at_call 75; exact ((unhide KA) _).mono (fun e w'' h => ⟨h.1, ⟨_, h.2.symm⟩⟩)))
    go_wp2_with fail
    go_ret2
    rw [unhide HE]
    exact ⟨by first | exact below_drewN' (unhide HB1) _ | exact below_drewN' (below_drewN' (unhide HB1) _) _ | exact below_drewN' (below_drewN' (below_drewN' (unhide HB1) _) _) _, rfl⟩
end Go.Proofs.Ytdminnhfgdoibaa
namespace Go.Proofs.Ytdminnhfgdoibaa
set_option linter.unusedVariables false
set_option linter.unusedSimpArgs false
open Go.RowKit

theorem Dy.fil_lt {ls : List El.Sg} {a s v : Nat} (h : Dy.fil ls a s = some v) : v < 18446744073709551616 := by
  unfold Dy.fil at h
  cases hf : ls.find? (Dy.laidP a s) with
  | none => rw [hf] at h; cases h
  | some x =>
    rw [hf] at h
    dsimp only at h
    split at h
    · rename_i hl
      injection h with h
      omega
    · cases h
set_option maxRecDepth 100000 in
set_option maxHeartbeats 4000000 in
theorem rlaid_any (B g : Nat) (f : Fl) (addr size : Nat) (w : World) (h : FlM w B g f) (ho : FlOk f) (ha : addr < 18446744073709551616) (hsz : size < 18446744073709551616) :
    Calls Try.prog 49 #[.pointer (some ⟨g, 0, none⟩), .int .u64 (addr : Nat), .int .u64 (size : Nat)] w (LaidE (Dy.laid f.n (El.loads f.segs) addr size) size B f.b w) := by
  have KF := hide (filled_any f.ty f.en f.ph f.As f.ns f.cs B f.segs addr size w h.sz h.segs ho.ns ho.fit ha hsz)
  have x1 := h.blk.cell (i := 1) rfl
  have x2 := h.blk.cell (i := 2) rfl
  have x3 := h.blk.cell (i := 3) rfl
  have x4 := h.blk.cell (i := 4) rfl
  have hx0 := fun (w' : World) (hb : Below w.heap.size w w') => (h.belowSz hb).blk.cell (i := 0) rfl
  have hrd := fun (w' : World) (hb : Below w.heap.size w w') => h.b.below (hb.mono h.sz)
  have hn := ho.n
  have hnc := ho.nc
  have hL := Dy.laid_fil (n := f.n) (ls := El.loads f.segs) (addr := addr) (size := size)
  obtain ⟨A, n, c, b, ty, en, ph, As, ns, cs, segs, At, k, ct, Av, cv, L⟩ := f
  dsimp only at *
  obtain ⟨R, hR⟩ : ∃ R, Dy.laid n (El.loads segs) addr size = R := ⟨_, rfl⟩
  rw [hR] at hL ⊢
  obtain ⟨o, hfo⟩ : ∃ o, Dy.fil (El.loads segs) addr size = o := ⟨_, rfl⟩
  have kf := unhide KF
  rw [hfo] at kf hL
  have KF2 := hide kf
  have hlt := fun v (h : o = some v) => Dy.fil_lt (hfo.trans h)
  have Hlt := hide hlt
  have HL := hide hL
  have Hx0 := hide hx0
  have Hrd := hide hrd
  have ksl := fun (w' : World) (j : Nat) (h : j ≤ n) (k : Nat) (h2 : k ≤ j) => run_fromToK (P := Try.prog) Try.underlying22 (e := 5) (by kernel_rfl) .u64 .u64 A n c k j h2 (Nat.le_trans h hnc) w'
  have Hksl := hide ksl
  clear h ho KF kf hL hx0 hrd hR hfo ksl hlt
  go_enter Try.func49, Try.ntmps49
  go_wp2_with fail
  refine (unhide KF2).mono ?_
  rintro e w1 ⟨hb1, he⟩
  have HB1 := hide hb1
  have y0 := (unhide Hx0) w1 hb1
  have HRd := hide ((unhide Hrd) w1 hb1)
  clear hb1 KF2 Hx0 Hrd x1 x2 x3 x4
  cases o with
  | none =>
    dsimp only at he
    subst he
    have hr := unhide HL
    dsimp only at hr
    subst hr
    clear HL
    go_wp2_with fail
    go_ret2
    exact ⟨.inl ⟨rfl, rfl⟩, unhide HB1⟩
  | some v =>
    dsimp only at he
    subst he
    have hr := unhide HL
    dsimp only at hr
    have hvl : v < 18446744073709551616 := (unhide Hlt) v rfl
    have KI := fun (w' : World) => rinsW_any (v : Int) (size : Int) (n : Int) w' (by omega) (by omega) (by omega) (by omega) (by omega) (by omega)
    by_cases hin : v + size ≤ n
    case neg =>
      rw [show decide ((v : Int) + (size : Int) ≤ (n : Int)) = false by simp; omega] at KI
      rw [if_neg hin] at hr
      subst hr
      have HKI := hide KI
      clear HL KI
      go_wp2_with fail
      refine ((unhide HKI) _).mono ?_
      rintro e w2 ⟨rfl, rfl⟩
      go_wp2_with fail
      go_ret2
      exact ⟨.inl ⟨rfl, rfl⟩, unhide HB1⟩
    rw [show decide ((v : Int) + (size : Int) ≤ (n : Int)) = true by simp; omega] at KI
    rw [if_pos hin] at hr
    subst hr
    have HKI := hide KI
    have kf := (unhide Hksl) 
    have k1 : ∀ w' : World, (Instr.slice 22 (.slice A n c) (some (.int .u64 (v : Nat))) (some (.int .u64 ((v : Int) + (size : Int)))) none).run Try.prog w' = .ok (.slice (fromA A c v) size (c - v)) w' := by
      intro w'
      have := kf w' (v + size) hin v (Nat.le_add_right _ _)
      rw [show ((v + size : Nat) : Int) = (v : Int) + (size : Int) from by omega, Nat.add_sub_cancel_left] at this
      exact this
    have hww : IntKind.u64.wrap ((v : Int) + (size : Int)) = (v : Int) + (size : Int) := by rw [IntKind.wrap_u64]; omega
    have hcut := (unhide HRd).cut (k := v) (j := v + size) (Nat.le_add_right _ _) hin hnc
    rw [Nat.add_sub_cancel_left, show ((bys b).drop v).take size = bys (Dy.cut b v size) by unfold bys Dy.cut; rw [List.map_take, List.map_drop]] at hcut
    have HC := hide hcut
    have hcc : size ≤ c - v := by omega
    clear HL KI kf hcut HRd Hksl
    go_wp2_with fail
    refine ((unhide HKI) _).mono ?_
    rintro e w2 ⟨rfl, rfl⟩
    go_wp2_with fail
    go_ret2
    exact ⟨.inr ⟨v, fromA A c v, c - v, rfl, rfl, unhide HC, hcc⟩, unhide HB1⟩
end Go.Proofs.Ytdminnhfgdoibaa
namespace Go.Proofs.Ytdminnhfgdoibaa
set_option linter.unusedVariables false
set_option linter.unusedSimpArgs false
open Go.RowKit

theorem tbInfo : (Try.prog.info? 95).map (·.size) = some 2 := by kernel_rfl
theorem tbOne (a : Bool) (A : Option Addr) (n k : Nat) : (#[.bool a, .slice A n k] : Array Value).all (·.oneCell') = true := by simp [Value.oneCell']
/-- What the reference's table answers. -/
def RTableE (o : Option (Nat × Nat)) (th : Bool) (B : Nat) (b : List UInt8) (w : World) (e : Ending) (w' : World) : Prop :=
  ∃ A k c q, e = .returned (.tuple #[.agg #[.bool th, .slice A k c], .bool q]) ∧ ((q = false ∧ o = none) ∨ (q = true ∧ ∃ p, o = some (p, k) ∧ Rd w' B 1 A k (bys (Dy.cut b p k)) ∧ k ≤ c)) ∧ Below w.heap.size w w'
theorem rval_lt {f : Fl} (h : FlOk f) (t : Nat) : (Dy.val f.L t).getD 0 < 18446744073709551616 := by
  cases hv : Dy.val f.L t with
  | none => decide
  | some v => exact (h.ent _ (Dy.val_mem hv)).2
set_option maxRecDepth 100000 in
set_option maxHeartbeats 4000000 in
theorem rtable_any (B g : Nat) (f : Fl) (s t : Nat) (w : World) (h : FlM w B g f) (ho : FlOk f) :
    Calls Try.prog 41 #[.pointer (some ⟨g, 0, none⟩), .int .u64 (s : Nat), .int .u64 (t : Nat)] w (RTableE (Dy.table f.n (El.loads f.segs) f.L s t) (Dy.val f.L s).isSome B f.b w) := by
  have hB0 : Below w.heap.size w (w.alloc (.cells #[.bool false, .slice none 0 0] 95)) := (Below.refl _ _).alloc (Nat.le_refl _) _
  have hK0 := Blk.new w 95 [.bool false, .slice none 0 0]
  have h0 := h.belowSz hB0
  have hb0 := h.b
  have HszB := hide h.sz
  have K1 := rvalue_any B g f s _ h0 ho.k
  have K2 := rvalue_any B g f t _ h0 ho.k
  have KL := rlaid_any B g f ((Dy.val f.L s).getD 0) ((Dy.val f.L t).getD 0) _ h0 ho (rval_lt ho s) (rval_lt ho t)
  have ht : Dy.table f.n (El.loads f.segs) f.L s t = match Dy.val f.L s with
    | none => some (0, 0)
    | some a => (Dy.laid f.n (El.loads f.segs) a ((Dy.val f.L t).getD 0)).map fun o => (o, (Dy.val f.L t).getD 0) := rfl
  rw [ht]
  obtain ⟨v2, hv2⟩ : ∃ v, (Dy.val f.L t).getD 0 = v := ⟨_, rfl⟩
  rw [hv2] at K2 KL ⊢
  obtain ⟨i2, hi2⟩ : ∃ v, (Dy.val f.L t).isSome = v := ⟨_, rfl⟩
  rw [hi2] at K2
  have HB0 := hide hB0
  have HK0 := hide hK0
  have hbx : ∀ A k (xs : List Value) w', Rd w' (w.alloc (.cells #[.bool false, .slice none 0 0] 95)).heap.size 1 A k xs → Rd w' (w.alloc (.cells #[.bool false, .slice none 0 0] 95)).heap.size 1 A k xs := fun _ _ _ _ h => h
  have e1 : (w.alloc (.cells #[.bool false, .slice none 0 0] 95)).heap.size = w.heap.size + 1 := by simp
  have He1 := hide e1
  cases hv : Dy.val f.L s with
  | none =>
    rw [hv] at K1
    have k1 : Calls Try.prog 48 #[.pointer (some ⟨g, 0, none⟩), .int .u64 (s : Nat)] (w.alloc (.cells #[.bool false, .slice none 0 0] 95)) (fun e w' => e = .returned (.tuple #[.int .u64 0, .bool false]) ∧ w.alloc (.cells #[.bool false, .slice none 0 0] 95) = w') := K1
    have HK1 := hide k1
    have HK2 := hide K2
    dsimp only [Option.isSome]
    clear h ho hB0 hK0 h0 hb0 K1 K2 KL ht hv2 hi2 hv hbx e1 k1
    go_enter Try.func41, Try.ntmps41
    go_wp2_with fail
    refine (unhide HK1).mono ?_
    rintro e w1 ⟨rfl, rfl⟩
    go_wp2_with fail
    refine (unhide HK2).mono ?_
    rintro e w2 ⟨rfl, rfl⟩
    clear HK1 HK2
    go_wp2_with ((with_reducible refine (@id (wpList _ _ _ (Oper.mk none (Op.store 95 (.tmp 6) (.tmp 28)) _ _ _ none :: _) _ _) ?_)); refine wpList_store_row rfl 95 (.tmp 6) (.tmp 28) rfl w.heap.size #[.bool false, .slice none 0 0] rfl rfl 95 _ (unhide HK0) tbInfo rfl (tbOne _ _ _ _) ?_)
    refine bodyPost_ret (results_cell_tmp (P := Try.prog) rfl _ _ w.heap.size 95 #[.bool false, .slice none 0 0] (0, 0) _ rfl (setRow_heap _ _ _ _ _ _ (unhide HK0)) Try.underlying95 rfl tbInfo) rfl ?_
    exact ⟨none, 0, 0, true, rfl, .inr ⟨rfl, 0, rfl, (by rw [show bys (Dy.cut f.b 0 0) = [] from by simp [Dy.cut, bys]]; exact Rd.none_ _ _ _ _), Nat.le_refl _⟩, below_setRow (unhide HB0) (Nat.le_refl _) _⟩
  | some a =>
    rw [hv] at K1 KL
    have k1 : Calls Try.prog 48 #[.pointer (some ⟨g, 0, none⟩), .int .u64 (s : Nat)] (w.alloc (.cells #[.bool false, .slice none 0 0] 95)) (fun e w' => e = .returned (.tuple #[.int .u64 (a : Nat), .bool true]) ∧ w.alloc (.cells #[.bool false, .slice none 0 0] 95) = w') := K1
    have kl : Calls Try.prog 49 #[.pointer (some ⟨g, 0, none⟩), .int .u64 (a : Nat), .int .u64 (v2 : Nat)] (w.alloc (.cells #[.bool false, .slice none 0 0] 95)) (LaidE (Dy.laid f.n (El.loads f.segs) a v2) v2 B f.b (w.alloc (.cells #[.bool false, .slice none 0 0] 95))) := KL
    have HK1 := hide k1
    have HK2 := hide K2
    have HKL := hide kl
    dsimp only [Option.isSome]
    obtain ⟨lo, hlo⟩ : ∃ o, Dy.laid f.n (El.loads f.segs) a v2 = o := ⟨_, rfl⟩
    rw [hlo]
    have Hlo := hide hlo
    have Hb := hide hb0
    clear h ho hB0 hK0 h0 hb0 K1 K2 KL ht hv2 hi2 hv hbx e1 k1 kl hlo
    go_enter Try.func41, Try.ntmps41
    go_wp2_with fail
    refine (unhide HK1).mono ?_
    rintro e w1 ⟨rfl, rfl⟩
    go_wp2_with fail
    refine (unhide HK2).mono ?_
    rintro e w2 ⟨rfl, rfl⟩
    clear HK1 HK2
    go_wp2_with fail
    refine (unhide HKL).mono ?_
    intro e w3 h3
    obtain ⟨A3, n3, c3, q3, rfl, hf3, hb3⟩ := laidE_form h3
    rw [unhide Hlo] at hf3
    have HB3 := hide ((unhide HB0).trans (hb3.mono (unhide HB0).size))
    have HK3 := hide ((unhide HK0).belowSz hb3)
    have Hf3 := hide hf3
    clear h3 hf3 hb3 HKL HB0 HK0 Hlo
    go_wp2_with ((with_reducible refine (@id (wpList _ _ _ (Oper.mk none (Op.store 95 (.tmp 6) (.tmp 37)) _ _ _ none :: _) _ _) ?_)); refine wpList_store_row rfl 95 (.tmp 6) (.tmp 37) rfl w.heap.size #[.bool true, .slice A3 n3 c3] rfl rfl 95 _ (unhide HK3) tbInfo rfl (tbOne _ _ _ _) ?_)
    refine bodyPost_ret (results_cell_tmp (P := Try.prog) rfl _ _ w.heap.size 95 #[.bool true, .slice A3 n3 c3] (0, 0) _ rfl (setRow_heap _ _ _ _ _ _ (unhide HK3)) Try.underlying95 rfl tbInfo) rfl ?_
    refine ⟨A3, n3, c3, q3, rfl, ?_, below_setRow (unhide HB3) (Nat.le_refl _) _⟩
    rcases unhide Hf3 with ⟨rfl, hl⟩ | ⟨rfl, off, hl, rfl, hr, hc⟩
    · exact .inl ⟨rfl, by rw [hl]; rfl⟩
    · refine .inr ⟨rfl, off, by rw [hl]; rfl, ?_, hc⟩
      exact hr.keep (fun p hp => cell_setRow_other _ _ _ _ (by have := (unhide HszB); omega))
end Go.Proofs.Ytdminnhfgdoibaa
namespace Go.Proofs.Ytdminnhfgdoibaa
set_option linter.unusedVariables false
set_option linter.unusedSimpArgs false
open Go.RowKit
namespace Dy
theorem while_take : ∀ (l : List UInt8) (m : Nat), (∀ j, j < m → l[j]? ≠ some 0) → l[m]? = some 0 → (l.takeWhile fun c => c != 0) = l.take m ∧ l.contains 0 = true
  | [], m, _, h => by simp at h
  | a :: r, 0, _, h => by
    simp at h
    subst h
    simp
  | a :: r, m + 1, hn, h => by
    have ha : a ≠ 0 := by
      intro e
      exact hn 0 (Nat.succ_pos _) (by rw [e]; rfl)
    obtain ⟨h1, h2⟩ := while_take r m (fun j hj => by have := hn (j + 1) (Nat.succ_lt_succ hj); simpa using this) (by simpa using h)
    refine ⟨?_, ?_⟩
    · rw [List.takeWhile_cons, if_pos (by simpa using ha), h1, List.take_succ_cons]
    · rw [List.contains_iff_mem] at h2 ⊢
      exact List.mem_cons_of_mem _ h2
theorem text_found {t : List UInt8} {q k : Nat} (hq : q ≤ k) (hk : t[k]? = some 0) (hn : ∀ j, q ≤ j → j < k → t[j]? ≠ some 0) : text t q = some ⟨((t.drop q).take (k - q)).toArray⟩ := by
  have hl : k < t.length := (List.getElem?_eq_some_iff.1 hk).1
  obtain ⟨h1, h2⟩ := while_take (t.drop q) (k - q) (fun j hj => by rw [List.getElem?_drop]; exact hn _ (by omega) (by omega)) (by rw [List.getElem?_drop, show q + (k - q) = k from by omega]; exact hk)
  unfold text
  rw [if_neg (by omega), if_pos h2, h1]
theorem text_not {t : List UInt8} {q : Nat} (hn : ∀ j, q ≤ j → t[j]? ≠ some 0) : text t q = none := by
  unfold text
  split
  · rfl
  · rw [if_neg]
    intro h
    rw [List.contains_iff_mem] at h
    obtain ⟨j, hj⟩ := List.getElem?_of_mem h
    rw [List.getElem?_drop] at hj
    exact hn _ (Nat.le_add_right _ _) hj
end Dy
set_option maxRecDepth 100000 in
set_option maxHeartbeats 4000000 in
theorem rtext_any (th : Bool) (A : Option Addr) (n c B : Nat) (t : List UInt8) (q : Nat) (w : World) (hB : B ≤ w.heap.size) (hb : Rd w B 1 A n (bys t)) (hn : n ≤ 4294967296) (hc : n ≤ c) (hth : th = false → n = 0) (hq : q < 18446744073709551616) :
    Calls Try.prog 64 #[.agg #[.bool th, .slice A n c], .int .u64 (q : Nat)] w (TextE (Dy.text t q) w) := by
  have htl : t.length = n := by have := hb.1; simp [bys] at this; omega
  have hB0 : Below w.heap.size w (w.alloc (.cells #[.bool th, .slice A n c] 95)) := (Below.refl _ _).alloc (Nat.le_refl _) _
  have hK0 := Blk.new w 95 [.bool th, .slice A n c]
  have x0 := hK0.cell (i := 0) rfl
  have x1 := hK0.cell (i := 1) rfl
  have hrd := hb.below (hB0.mono hB)
  have HB0 := hide hB0
  have HRd := hide hrd
  have Htl := hide htl
  clear hB0 hK0 hb hrd
  cases th
  case false =>
    have hn0 := hth rfl
    subst hn0
    have HE : Hid (Dy.text t q = none) := hide (by unfold Dy.text; rw [if_pos (by omega)])
    clear htl hth
    go_enter Try.func64, Try.ntmps64
    go_wp2_with fail
    go_ret2
    exact ⟨_, _, rfl, .inr ⟨rfl, unhide HE⟩, unhide HB0⟩
  clear hth
  by_cases hqn : n ≤ q
  case pos =>
    have HE : Hid (Dy.text t q = none) := hide (by unfold Dy.text; rw [if_pos (by omega)])
    have hI : (n : Int) ≤ (q : Int) := by omega
    have hw : IntKind.u64.wrap (n : Int) = (n : Int) := by rw [IntKind.wrap_u64]; omega
    clear htl
    go_enter Try.func64, Try.ntmps64
    go_wp2_with fail
    go_ret2
    exact ⟨_, _, rfl, .inr ⟨rfl, unhide HE⟩, unhide HB0⟩
  have hI : ¬ (n : Int) ≤ (q : Int) := by omega
  have hw : IntKind.u64.wrap (n : Int) = (n : Int) := by rw [IntKind.wrap_u64]; omega
  have hw2 : IntKind.i64.wrap (q : Int) = (q : Int) := by rw [IntKind.wrap_i64]; omega
  have ksl := fun (w' : World) (j : Nat) (h : j ≤ n) (h2 : q ≤ j) => run_fromToK (P := Try.prog) Try.underlying22 (e := 5) (by kernel_rfl) .u64 .i64 A n c q j h2 (Nat.le_trans h hc) w'
  have Hksl := hide ksl
  clear htl ksl
  go_enter Try.func64, Try.ntmps64
  go_wp2_with fail
  clear hw hw2 hI
  go_loopg [6] (n - q) (fun gk iv wr => ∃ k : Nat, gk = n - k ∧ q ≤ k ∧ k ≤ n ∧ iv = .int .i64 k ∧ w.alloc (.cells #[.bool true, .slice A n c] 95) = wr ∧ ∀ j, q ≤ j → j < k → t[j]? ≠ some 0)
  case atStart => exact ⟨q, rfl, Nat.le_refl _, by omega, rfl, rfl, fun j h1 h2 => by omega⟩
  case round =>
  obtain ⟨k, hgk, hqk, hkn, rfl, rfl, hno⟩ := hrel
  have Hno := hide hno
  clear hno
  by_cases hlt : k < n
  case neg =>
    have HE : Hid (Dy.text t q = none) := hide (Dy.text_not fun j h1 h2 => by
      by_cases hj : j < k
      · exact (unhide Hno) j h1 hj h2
      · have := (List.getElem?_eq_some_iff.1 h2).1
        rw [unhide Htl] at this
        omega)
    have ige : ¬ (k : Int) < (n : Int) := by omega
    clear Hno
    go_wp2_with fail
    go_ret2
    exact ⟨_, _, rfl, .inr ⟨rfl, unhide HE⟩, unhide HB0⟩
  have ilt : (k : Int) < (n : Int) := by omega
  obtain ⟨d, hd⟩ : ∃ d, t[k]? = some d := ⟨_, List.getElem?_eq_getElem (by rw [unhide Htl]; exact hlt)⟩
  obtain ⟨b1, o1, hA1, -, c0⟩ := (unhide HRd).at_ (k := k) (u := .int .u8 (d.toNat : Nat)) (by unfold bys; rw [List.getElem?_map, hd]; rfl)
  by_cases hd0 : d = 0
  case neg =>
    have hdI : ¬ ((d.toNat : Nat) : Int) = 0 := by
      intro e
      exact hd0 (UInt8.toNat_inj.1 (by simpa using e))
    have Hno2 : Hid (∀ j, q ≤ j → j < k + 1 → t[j]? ≠ some 0) := hide (fun j h1 h2 h3 => by
      by_cases hj : j < k
      · exact (unhide Hno) j h1 hj h3
      · obtain rfl : k = j := by omega
        rw [hd] at h3
        exact hd0 (Option.some.inj h3))
    subst hA1
    clear hd hd0 Hno Hksl
    go_wp2_with fail
    go_roundg (n - (k + 1))
    case measure => omega
    case rel => exact ⟨k + 1, rfl, by omega, by omega, by go_num, rfl, unhide Hno2⟩
  have hdI : ((d.toNat : Nat) : Int) = 0 := by rw [hd0]; rfl
  have HE : Hid (Dy.text t q = some ⟨((t.drop q).take (k - q)).toArray⟩) := hide (Dy.text_found hqk (by rw [hd, hd0]) (unhide Hno))
  have kf : ∀ w' : World, (Instr.slice 22 (.slice A n c) (some (.int .u64 (q : Nat))) (some (.int .i64 (k : Nat))) none).run Try.prog w' = .ok (.slice (fromA A c q) (k - q) (c - q)) w' := fun w' => (unhide Hksl) w' k (by omega) hqk
  have hcut := (unhide HRd).cut (k := q) (j := k) hqk (by omega) hc
  rw [show ((bys t).drop q).take (k - q) = bys ((t.drop q).take (k - q)) by unfold bys; rw [← List.map_drop, ← List.map_take]] at hcut
  have hcv := conv_any (c := c - q) hcut Try.underlying22 Try.underlying5 Try.underlying9
  obtain ⟨X, hX⟩ : ∃ X : ByteArray, (⟨((t.drop q).take (k - q)).toArray⟩ : ByteArray) = X := ⟨_, rfl⟩
  have he := unhide HE
  rw [hX] at hcv he
  have HE2 := hide he
  obtain ⟨A2, hA2⟩ : ∃ x, fromA A c q = x := ⟨_, rfl⟩
  rw [hA2] at kf hcv
  obtain ⟨n2, hn2⟩ : ∃ x, k - q = x := ⟨_, rfl⟩
  rw [hn2] at kf hcv
  rw [hdI] at c0
  subst hA1
  clear hcut hX he HE hA2 hn2 hd hd0 Hno Hksl
  go_wp2_with fail
  go_ret2
  exact ⟨_, _, rfl, .inl ⟨rfl, unhide HE2⟩, unhide HB0⟩
end Go.Proofs.Ytdminnhfgdoibaa
namespace Go.Proofs.Ytdminnhfgdoibaa
set_option linter.unusedVariables false
set_option linter.unusedSimpArgs false
open Go.RowKit
namespace Dy
def onceL : List Nat := [2, 4, 5, 6, 7, 8, 9, 10, 11, 14, 15, 20, 23, 29]
theorem once_at {t j x : Nat} (h : onceL[j]? = some x) (he : x = t) : once t = true := by
  unfold once
  rw [List.contains_iff_mem, ← he]
  exact List.mem_of_getElem? h
theorem once_not {t : Nat} (h : ∀ (j x : Nat), onceL[j]? = some x → x ≠ t) : once t = false := by
  unfold once
  rw [← Bool.not_eq_true, List.contains_iff_mem]
  intro hm
  obtain ⟨j, hj⟩ := List.getElem?_of_mem hm
  exact h j t hj rfl
end Dy
set_option maxRecDepth 100000 in
set_option maxHeartbeats 2000000 in
theorem ronce_any (t : Nat) (w : World) : Calls Try.prog 66 #[.int .u64 (t : Nat)] w fun e w' => e = .returned (.bool (Dy.once t)) ∧ Below w.heap.size w w' := by
  have hB0 : Below w.heap.size w (w.alloc (.cells (Dy.onceL.map fun n => Value.int .u64 ((n : Nat) : Int)).toArray 24)) := (Below.refl _ _).alloc (Nat.le_refl _) _
  have hK0 := Blk.new w 24 (Dy.onceL.map fun n => Value.int .u64 ((n : Nat) : Int))
  have HC : Hid (∀ (j x : Nat), Dy.onceL[j]? = some x → (w.alloc (.cells (Dy.onceL.map fun n => Value.int .u64 ((n : Nat) : Int)).toArray 24)).cell? ⟨w.heap.size, j, none⟩ = some (.int .u64 (x : Nat))) := hide (fun j x hj => hK0.cell (by rw [List.getElem?_map, hj]; rfl))
  have HB := hide hB0
  obtain ⟨R, hR⟩ : ∃ R, Dy.once t = R := ⟨_, rfl⟩
  rw [hR]
  have HY : Hid (∀ (j x : Nat), Dy.onceL[j]? = some x → x = t → R = true) := hide (fun j x h he => by rw [← hR]; exact Dy.once_at h he)
  have HN : Hid ((∀ (j x : Nat), Dy.onceL[j]? = some x → x ≠ t) → R = false) := hide (fun h => by rw [← hR]; exact Dy.once_not h)
  clear hB0 hK0 hR
  obtain ⟨W, hW⟩ : ∃ W, w.alloc (.cells (Dy.onceL.map fun n => Value.int .u64 ((n : Nat) : Int)).toArray 24) = W := ⟨_, rfl⟩
  have hc := unhide HC
  have hb := unhide HB
  rw [hW] at hc hb
  have hW2 : w.alloc (.cells #[.int .u64 2, .int .u64 4, .int .u64 5, .int .u64 6, .int .u64 7, .int .u64 8, .int .u64 9, .int .u64 10, .int .u64 11, .int .u64 14, .int .u64 15, .int .u64 20, .int .u64 23, .int .u64 29] 24) = W := hW
  have HW := hide hW2
  have HC2 := hide hc
  have HB2 := hide hb
  clear hc hb hW hW2 HC HB
  go_enter Try.func66, Try.ntmps66
  go_wp2_with fail
  rw [unhide HW]
  go_loopg [4] 14 (fun gk iv wr => ∃ j : Nat, gk = 14 - j ∧ j ≤ 14 ∧ iv = .int .i64 j ∧ W = wr ∧ ∀ (i x : Nat), i < j → Dy.onceL[i]? = some x → x ≠ t)
  case atStart => exact ⟨0, rfl, Nat.zero_le _, rfl, rfl, fun i x h => by omega⟩
  case round =>
  obtain ⟨j, hgk, hj, rfl, rfl, hno⟩ := hrel
  have Hno := hide hno
  clear hno
  by_cases hlt : j < 14
  case neg =>
    have hn : R = false := (unhide HN) (fun i x h => (unhide Hno) i x (by have := (List.getElem?_eq_some_iff.1 h).1; have h14 : Dy.onceL.length = 14 := rfl; omega) h)
    have ige : ¬ (j : Int) < 14 := by omega
    subst hn
    clear Hno HN HY
    go_wp2_with fail
    go_ret
    exact ⟨rfl, unhide HB2⟩
  have ilt : (j : Int) < 14 := by omega
  obtain ⟨x, hx⟩ : ∃ x, Dy.onceL[j]? = some x := ⟨_, List.getElem?_eq_getElem hlt⟩
  have c0 := (unhide HC2) j x hx
  by_cases he : x = t
  case pos =>
    have hn : R = true := (unhide HY) j x hx he
    subst hn
    have heI : (x : Int) = (t : Int) := by omega
    clear Hno HN HY hx he
    go_wp2_with fail
    go_ret
    exact ⟨rfl, unhide HB2⟩
  have heI : ¬ (x : Int) = (t : Int) := by omega
  have Hno2 : Hid (∀ (i x : Nat), i < j + 1 → Dy.onceL[i]? = some x → x ≠ t) := hide (fun i y h1 h2 => by
    by_cases hij : i < j
    · exact (unhide Hno) i y hij h2
    · obtain rfl : j = i := by omega
      rw [hx] at h2
      injection h2 with h2
      omega)
  clear hx Hno he
  go_wp2_with fail
  go_roundg (14 - (j + 1))
  case measure => omega
  case rel => exact ⟨j + 1, rfl, by omega, by go_num, rfl, unhide Hno2⟩
end Go.Proofs.Ytdminnhfgdoibaa
namespace Go.Proofs.Ytdminnhfgdoibaa
set_option linter.unusedVariables false
set_option linter.unusedSimpArgs false
open Go.RowKit

theorem rnmInfo : (Try.prog.info? 67).map (·.size) = some 4 := by kernel_rfl
set_option maxRecDepth 100000 in
set_option maxHeartbeats 4000000 in
theorem rnames_any (B g : Nat) (f : Fl) (w : World) (h : FlM w B g f) (ho : FlOk f) (hbl : f.b.length = f.n) :
    Calls Try.prog 25 #[.pointer (some ⟨g, 0, none⟩)] w (NamesE (Dy.names f.b (El.loads f.segs) f.L) B f.b w) := by
  have hB0 : Below w.heap.size w (w.alloc (.cells #[.int .u64 0, .int .u64 0, .slice none 0 0, .slice none 0 0] 67)) := (Below.refl _ _).alloc (Nat.le_refl _) _
  have hK0 := Blk.new w 67 [.int .u64 0, .int .u64 0, .slice none 0 0, .slice none 0 0]
  have hBw := h.sz
  have KV := fun (w' : World) (hb : Below w.heap.size w w') (t : Nat) => rvalue_any B g f t w' (h.belowSz hb) ho.k
  have KL := fun (w' : World) (hb : Below w.heap.size w w') (a s : Nat) (ha : a < 18446744073709551616) (hs : s < 18446744073709551616) => rlaid_any B g f a s w' (h.belowSz hb) ho ha hs
  have hv4l := rval_lt ho 4
  have hv6l := rval_lt ho 6
  have hn := ho.n
  have hn' : Dy.names f.b (El.loads f.segs) f.L = match Dy.val f.L 4 with
    | none => (0, ⟨0, 0, 0, 0⟩)
    | some at_ =>
      match Dy.laid f.b.length (El.loads f.segs) at_ 8 with
      | none => (25, ⟨0, 0, 0, 0⟩)
      | some p =>
        if 65 < Wd.num f.b (p + 4) 4 then (12, ⟨0, 0, 0, 0⟩)
        else match Dy.laid f.b.length (El.loads f.segs) at_ (8 + 4 * Wd.num f.b p 4 + 4 * Wd.num f.b (p + 4) 4), Dy.laid f.b.length (El.loads f.segs) ((Dy.val f.L 6).getD 0) (24 * Wd.num f.b (p + 4) 4) with
          | some h, some s => (0, ⟨Wd.num f.b p 4, Wd.num f.b (p + 4) 4, h, s⟩)
          | _, _ => (25, ⟨0, 0, 0, 0⟩) := rfl
  rw [hbl] at hn'
  rw [hn']
  clear hn'
  have K4 := KV _ hB0 4
  have K6 := fun w' hb => KV w' hb 6
  obtain ⟨v6, hv6⟩ : ∃ v, (Dy.val f.L 6).getD 0 = v := ⟨_, rfl⟩
  obtain ⟨i6, hi6⟩ : ∃ v, (Dy.val f.L 6).isSome = v := ⟨_, rfl⟩
  rw [hv6] at K6 hv6l ⊢
  rw [hi6] at K6
  have k6 : ∀ w', Below w.heap.size w w' → Calls Try.prog 48 #[.pointer (some ⟨g, 0, none⟩), .int .u64 6] w' (fun e w2 => e = .returned (.tuple #[.int .u64 (v6 : Nat), .bool i6]) ∧ w' = w2) := K6
  obtain ⟨lo, hlo⟩ : ∃ l, El.loads f.segs = l := ⟨_, rfl⟩
  obtain ⟨b, hbb⟩ : ∃ b, f.b = b := ⟨_, rfl⟩
  obtain ⟨n, hnn⟩ : ∃ n, f.n = n := ⟨_, rfl⟩
  rw [hlo, hbb, hnn] at KL
  rw [hbb, hnn] at hbl
  rw [hnn] at hn
  rw [hlo, hbb, hnn]
  have Hb0 := hide hB0
  have Hk0 := hide hK0
  have HK6 := hide k6
  have HKL := hide KL
  have Hbl := hide hbl
  cases hv : Dy.val f.L 4 with
  | none =>
    rw [hv] at K4
    have k4 : Calls Try.prog 48 #[.pointer (some ⟨g, 0, none⟩), .int .u64 4] (w.alloc (.cells #[.int .u64 0, .int .u64 0, .slice none 0 0, .slice none 0 0] 67)) (fun e w2 => e = .returned (.tuple #[.int .u64 0, .bool false]) ∧ w.alloc (.cells #[.int .u64 0, .int .u64 0, .slice none 0 0, .slice none 0 0] 67) = w2) := K4
    have HK4 := hide k4
    dsimp only
    clear h ho hbl hB0 hK0 KV KL K4 K6 k4 k6 hv6 hi6 hlo hbb hnn hv HK6 HKL
    go_enter Try.func25, Try.ntmps25
    go_wp2_with fail
    refine (unhide HK4).mono ?_
    rintro e w1 ⟨rfl, rfl⟩
    clear HK4
    go_wp2_with ((with_reducible refine (@id (wpList _ _ _ (Oper.mk none (Op.store 67 (.tmp 2) (.tmp 22)) _ _ _ none :: _) _ _) ?_)); refine wpList_store_row rfl 67 (.tmp 2) (.tmp 22) rfl w.heap.size #[.int .u64 0, .int .u64 0, .slice none 0 0, .slice none 0 0] rfl rfl 67 _ (unhide Hk0) rnmInfo rfl (nmOne _ _ _ _ _ _ _ _) ?_)
    refine bodyPost_ret (results_cell_tmp (P := Try.prog) rfl _ _ w.heap.size 67 #[.int .u64 0, .int .u64 0, .slice none 0 0, .slice none 0 0] (0, 0) _ rfl (setRow_heap _ _ _ _ _ _ (unhide Hk0)) Try.underlying67 rfl rnmInfo) rfl ?_
    exact names_nil 0 (below_setRow (unhide Hb0) (Nat.le_refl _) _)
  | some at_ =>
  rw [hv] at K4 hv4l
  have k4 : Calls Try.prog 48 #[.pointer (some ⟨g, 0, none⟩), .int .u64 4] (w.alloc (.cells #[.int .u64 0, .int .u64 0, .slice none 0 0, .slice none 0 0] 67)) (fun e w2 => e = .returned (.tuple #[.int .u64 (at_ : Nat), .bool true]) ∧ w.alloc (.cells #[.int .u64 0, .int .u64 0, .slice none 0 0, .slice none 0 0] 67) = w2) := K4
  have hat : at_ < 18446744073709551616 := hv4l
  have kl8 : Calls Try.prog 49 #[.pointer (some ⟨g, 0, none⟩), .int .u64 (at_ : Nat), .int .u64 8] (w.alloc (.cells #[.int .u64 0, .int .u64 0, .slice none 0 0, .slice none 0 0] 67)) (LaidE (Dy.laid n lo at_ 8) 8 B b (w.alloc (.cells #[.int .u64 0, .int .u64 0, .slice none 0 0, .slice none 0 0] 67))) := KL _ hB0 at_ 8 hat (by omega)
  have HK4 := hide k4
  have HK8 := hide kl8
  obtain ⟨Res, hRes⟩ : ∃ R, (match Dy.laid n lo at_ 8 with
      | none => ((25 : Int), (⟨0, 0, 0, 0⟩ : Dy.Names))
      | some p =>
        if 65 < Wd.num b (p + 4) 4 then (12, ⟨0, 0, 0, 0⟩)
        else match Dy.laid n lo at_ (8 + 4 * Wd.num b p 4 + 4 * Wd.num b (p + 4) 4), Dy.laid n lo v6 (24 * Wd.num b (p + 4) 4) with
          | some h, some s => (0, ⟨Wd.num b p 4, Wd.num b (p + 4) 4, h, s⟩)
          | _, _ => (25, ⟨0, 0, 0, 0⟩)) = R := ⟨_, rfl⟩
  dsimp only
  rw [hRes]
  have HRes := hide hRes
  have hli := fun a s o (h : Dy.laid n lo a s = some o) => Dy.laid_in h
  have Hli := hide hli
  clear h ho hbl hB0 hK0 KV KL K4 K6 k4 k6 kl8 hv6 hi6 hlo hbb hnn hv hRes hv4l hli
  go_enter Try.func25, Try.ntmps25
  go_wp2_with fail
  refine (unhide HK4).mono ?_
  rintro e w0 ⟨rfl, rfl⟩
  go_wp2_with fail
  refine (unhide HK8).mono ?_
  rintro e w1 ⟨⟨hln, rfl⟩ | ⟨p, A1, c1, hln, rfl, hr1, hc1⟩, hb1⟩
  · have hR := unhide HRes
    rw [hln] at hR
    subst hR
    have HB1 := hide ((unhide Hb0).trans (hb1.mono (unhide Hb0).size))
    have HK1 := hide ((unhide Hk0).belowSz hb1)
    clear hb1 hln HRes HK8 HK4
    go_wp2_with ((with_reducible refine (@id (wpList _ _ _ (Oper.mk none (Op.store 67 (.tmp 2) (.tmp 31)) _ _ _ none :: _) _ _) ?_)); refine wpList_store_row rfl 67 (.tmp 2) (.tmp 31) rfl w.heap.size #[.int .u64 0, .int .u64 0, .slice none 0 0, .slice none 0 0] rfl rfl 67 _ (unhide HK1) rnmInfo rfl (nmOne _ _ _ _ _ _ _ _) ?_)
    refine bodyPost_ret (results_cell_tmp (P := Try.prog) rfl _ _ w.heap.size 67 #[.int .u64 0, .int .u64 0, .slice none 0 0, .slice none 0 0] (0, 0) _ rfl (setRow_heap _ _ _ _ _ _ (unhide HK1)) Try.underlying67 rfl rnmInfo) rfl ?_
    exact names_nil 25 (below_setRow (unhide HB1) (Nat.le_refl _) _)
  have hR := unhide HRes
  rw [hln] at hR
  dsimp only at hR
  have hp8 := (unhide Hli) _ _ _ hln
  have HB1 := hide ((unhide Hb0).trans (hb1.mono (unhide Hb0).size))
  have HK1 := hide ((unhide Hk0).belowSz hb1)
  obtain ⟨bk, hbk⟩ : ∃ v, Wd.num b p 4 = v := ⟨_, rfl⟩
  obtain ⟨ch, hch⟩ : ∃ v, Wd.num b (p + 4) 4 = v := ⟨_, rfl⟩
  rw [hbk, hch] at hR
  have hbk4 : bk < 4294967296 := by rw [← hbk]; have := Wd.num_lt b p 4; simpa using this
  have hch4 : ch < 4294967296 := by rw [← hch]; have := Wd.num_lt b (p + 4) 4; simpa using this
  have KN1 := rnumber_any A1 8 c1 B (Dy.cut b p 8) 0 4 w1 hr1 (by omega) (by omega) (by omega)
  have KN2 := rnumber_any A1 8 c1 B (Dy.cut b p 8) 4 4 w1 hr1 (by omega) (by omega) (by omega)
  rw [cut_num (by omega), Nat.add_zero, hbk] at KN1
  rw [cut_num (by omega), hch] at KN2
  have HN1 := hide KN1
  have HN2 := hide KN2
  have HR := hide hR
  clear hb1 hln HRes HK8 HK4 KN1 KN2 hbk hch hr1 hR
  go_wp2_with fail
  refine (unhide HN1).mono ?_
  rintro e w2 ⟨rfl, rfl⟩
  go_wp2_with fail
  refine (unhide HN2).mono ?_
  rintro e w3 ⟨rfl, rfl⟩
  have HB4 : Hid (Below w.heap.size w (w1.alloc (.cells #[.int .u64 (bk : Nat), .int .u64 (ch : Nat), .slice none 0 0, .slice none 0 0] 67))) := hide ((unhide HB1).alloc (unhide HB1).size _)
  have HK4 : Hid (Blk (w1.alloc (.cells #[.int .u64 (bk : Nat), .int .u64 (ch : Nat), .slice none 0 0, .slice none 0 0] 67)) w.heap.size 67 [.int .u64 0, .int .u64 0, .slice none 0 0, .slice none 0 0]) := hide ((unhide HK1).alloc _)
  have HQ4 : Hid (Blk (w1.alloc (.cells #[.int .u64 (bk : Nat), .int .u64 (ch : Nat), .slice none 0 0, .slice none 0 0] 67)) w1.heap.size 67 [.int .u64 (bk : Nat), .int .u64 (ch : Nat), .slice none 0 0, .slice none 0 0]) := hide (Blk.new w1 67 [.int .u64 (bk : Nat), .int .u64 (ch : Nat), .slice none 0 0, .slice none 0 0])
  have q0 := (unhide HQ4).cell (i := 0) rfl
  have q1 := (unhide HQ4).cell (i := 1) rfl
  have hw1 : w.heap.size < w1.heap.size := (unhide HK1).lt
  clear HN1 HN2
  by_cases hc65 : 65 < ch
  · have hR := unhide HR
    rw [if_pos hc65] at hR
    subst hR
    have g2 : (65 : Int) < (ch : Int) := by omega
    clear hc65 HR
    go_wp2_with ((with_reducible refine (@id (wpList _ _ _ (Oper.mk none (Op.store 67 (.tmp 2) (.tmp 40)) _ _ _ none :: _) _ _) ?_)); refine wpList_store_row rfl 67 (.tmp 2) (.tmp 40) rfl w.heap.size #[.int .u64 0, .int .u64 0, .slice none 0 0, .slice none 0 0] rfl rfl 67 _ (unhide HK4) rnmInfo rfl (nmOne _ _ _ _ _ _ _ _) ?_)
    refine bodyPost_ret (results_cell_tmp (P := Try.prog) rfl _ _ w.heap.size 67 #[.int .u64 0, .int .u64 0, .slice none 0 0, .slice none 0 0] (0, 0) _ rfl (setRow_heap _ _ _ _ _ _ (unhide HK4)) Try.underlying67 rfl rnmInfo) rfl ?_
    exact names_nil 12 (below_setRow (unhide HB4) (Nat.le_refl _) _)
  have hR := unhide HR
  rw [if_neg hc65] at hR
  have g2 : ¬ (65 : Int) < (ch : Int) := by omega
  obtain ⟨hs, hhs⟩ : ∃ v, 8 + 4 * bk + 4 * ch = v := ⟨_, rfl⟩
  rw [hhs] at hR
  have hsI : (4 : Int) * (2 + (bk : Int) + (ch : Int)) = (hs : Int) := by omega
  have hsW : IntKind.u64.wrap (hs : Int) = (hs : Int) := by rw [IntKind.wrap_u64]; omega
  have hsW2 : IntKind.u64.wrap (2 + (bk : Int)) = 2 + (bk : Int) := by rw [IntKind.wrap_u64]; omega
  have hsW3 : IntKind.u64.wrap (2 + (bk : Int) + (ch : Int)) = 2 + (bk : Int) + (ch : Int) := by rw [IntKind.wrap_u64]; omega
  have HK9 := hide ((unhide HKL) _ (unhide HB4) at_ hs hat (by omega))
  have HR2 := hide hR
  have Hhs := hide hhs
  clear hR HR hhs
  go_wp2_with fail
  refine (unhide HK9).mono ?_
  intro e w5 h5
  obtain ⟨A5, n5, c5, q5, rfl, hf5, hb5⟩ := laidE_form h5
  have HB5 := hide ((unhide HB4).trans (hb5.mono (unhide HB4).size))
  have HK5 := hide ((unhide HK4).belowSz hb5)
  have HQ5 := hide ((unhide HQ4).belowSz hb5)
  have Hf5 := hide hf5
  clear h5 hf5 hb5 HK9 HB4 HK4 HQ4 q0 q1 hsI hsW hsW2 hsW3
  go_wp2_with fail
  refine ((unhide HK6) _ (unhide HB5)).mono ?_
  rintro e w6 ⟨rfl, rfl⟩
  obtain ⟨ss, hss⟩ : ∃ v, 24 * ch = v := ⟨_, rfl⟩
  have hR := unhide HR2
  rw [hss] at hR
  have HR3 := hide hR
  have ssI : (24 : Int) * (ch : Int) = (ss : Int) := by omega
  have ssW : IntKind.u64.wrap (ss : Int) = (ss : Int) := by rw [IntKind.wrap_u64]; omega
  have q1 := (unhide HQ5).cell (i := 1) rfl
  have HK9 := hide ((unhide HKL) _ (unhide HB5) v6 ss hv6l (by omega))
  clear hR HR2 HK6 HKL
  go_wp2_with fail
  refine (unhide HK9).mono ?_
  intro e w8 h8
  obtain ⟨A8, n8, c8, q8, rfl, hf8, hb8⟩ := laidE_form h8
  have HB8 := hide ((unhide HB5).trans (hb8.mono (unhide HB5).size))
  have HK8 := hide ((unhide HK5).belowSz hb8)
  have HQ8 := hide ((unhide HQ5).belowSz hb8)
  have Hf8 := hide hf8
  have H58 : Hid (∀ A k xs, Rd w5 B 1 A k xs → Rd w8 B 1 A k xs) := hide (fun A k xs h => h.below (hb8.mono (Nat.le_trans hBw (unhide HB5).size)))
  clear h8 hf8 hb8 HK9 HB5 HK5 HQ5 q1 ssI ssW
  cases q5
  · have hR := unhide HR3
    rcases unhide Hf5 with ⟨-, h0⟩ | ⟨h0, -⟩
    · rw [h0] at hR
      subst hR
      clear HR3 Hf5 Hf8 h0
      go_wp2_with ((with_reducible refine (@id (wpList _ _ _ (Oper.mk none (Op.store 67 (.tmp 2) (.tmp 74)) _ _ _ none :: _) _ _) ?_)); refine wpList_store_row rfl 67 (.tmp 2) (.tmp 74) rfl w.heap.size #[.int .u64 0, .int .u64 0, .slice none 0 0, .slice none 0 0] rfl rfl 67 _ (unhide HK8) rnmInfo rfl (nmOne _ _ _ _ _ _ _ _) ?_)
      refine bodyPost_ret (results_cell_tmp (P := Try.prog) rfl _ _ w.heap.size 67 #[.int .u64 0, .int .u64 0, .slice none 0 0, .slice none 0 0] (0, 0) _ rfl (setRow_heap _ _ _ _ _ _ (unhide HK8)) Try.underlying67 rfl rnmInfo) rfl ?_
      exact names_nil 25 (below_setRow (unhide HB8) (Nat.le_refl _) _)
    · cases h0
  cases q8
  · have hR := unhide HR3
    rcases unhide Hf8 with ⟨-, h0⟩ | ⟨h0, -⟩
    · rw [h0] at hR
      have hR2 : ((25 : Int), (⟨0, 0, 0, 0⟩ : Dy.Names)) = Res := by
        rw [← hR]
        cases Dy.laid n lo at_ hs <;> rfl
      subst hR2
      clear HR3 Hf5 Hf8 h0 hR
      go_wp2_with ((with_reducible refine (@id (wpList _ _ _ (Oper.mk none (Op.store 67 (.tmp 2) (.tmp 74)) _ _ _ none :: _) _ _) ?_)); refine wpList_store_row rfl 67 (.tmp 2) (.tmp 74) rfl w.heap.size #[.int .u64 0, .int .u64 0, .slice none 0 0, .slice none 0 0] rfl rfl 67 _ (unhide HK8) rnmInfo rfl (nmOne _ _ _ _ _ _ _ _) ?_)
      refine bodyPost_ret (results_cell_tmp (P := Try.prog) rfl _ _ w.heap.size 67 #[.int .u64 0, .int .u64 0, .slice none 0 0, .slice none 0 0] (0, 0) _ rfl (setRow_heap _ _ _ _ _ _ (unhide HK8)) Try.underlying67 rfl rnmInfo) rfl ?_
      exact names_nil 25 (below_setRow (unhide HB8) (Nat.le_refl _) _)
    · cases h0
  rcases unhide Hf5 with ⟨h0, -⟩ | ⟨-, off5, ho5, rfl, hr5, hc5⟩
  · cases h0
  rcases unhide Hf8 with ⟨h0, -⟩ | ⟨-, off8, ho8, rfl, hr8, hc8⟩
  · cases h0
  have hR := unhide HR3
  rw [ho5, ho8] at hR
  subst hR
  have hr5' := (unhide H58) _ _ _ hr5
  have q2 := (unhide HQ8).cell (i := 2) rfl
  have q3 := (unhide HQ8).cell (i := 3) rfl
  have f2 := (unhide HQ8).free 2
  have f3 := (unhide HQ8).free 3
  have HQ9 : Hid (Blk ((w8.setCell ⟨w1.heap.size, 2, none⟩ (.slice A5 n5 c5)).setCell ⟨w1.heap.size, 3, none⟩ (.slice A8 n8 c8)) w1.heap.size 67 [.int .u64 (bk : Nat), .int .u64 (ch : Nat), .slice A5 n5 c5, .slice A8 n8 c8]) := hide (((unhide HQ8).set 2 _).set 3 _)
  have HK9 : Hid (Blk ((w8.setCell ⟨w1.heap.size, 2, none⟩ (.slice A5 n5 c5)).setCell ⟨w1.heap.size, 3, none⟩ (.slice A8 n8 c8)) w.heap.size 67 [.int .u64 0, .int .u64 0, .slice none 0 0, .slice none 0 0]) := hide (((unhide HK8).other (p := ⟨w1.heap.size, 2, none⟩) (by dsimp only; omega) _).other (p := ⟨w1.heap.size, 3, none⟩) (by dsimp only; omega) _)
  have HB9 : Hid (Below w.heap.size w ((w8.setCell ⟨w1.heap.size, 2, none⟩ (.slice A5 n5 c5)).setCell ⟨w1.heap.size, 3, none⟩ (.slice A8 n8 c8))) := hide (((unhide HB8).setCell (p := ⟨w1.heap.size, 2, none⟩) (by dsimp only; omega) _).setCell (p := ⟨w1.heap.size, 3, none⟩) (by dsimp only; omega) _)
  have HRa : Hid (∀ A k xs cs, Rd w8 B 1 A k xs → Rd (((w8.setCell ⟨w1.heap.size, 2, none⟩ (.slice A5 n5 c5)).setCell ⟨w1.heap.size, 3, none⟩ (.slice A8 n8 c8)).setRow w.heap.size cs) B 1 A k xs) := hide (fun A k xs cs h => ((h.setCell (p := ⟨w1.heap.size, 2, none⟩) (by dsimp only; omega) _).setCell (p := ⟨w1.heap.size, 3, none⟩) (by dsimp only; omega) _).keep (fun p hp => cell_setRow_other _ _ _ _ (by omega)))
  have Hra := hide hr5'
  have Hrb := hide hr8
  have Hss := hide hss
  clear HR3 Hf5 Hf8 hr5 hr5' hr8 ho5 ho8 HQ8 HK8 HB8 H58 hss
  go_wp2_with (first
    | ((with_reducible refine (@id (wpList _ _ _ (Oper.mk _ (Op.load 67 (.tmp 8)) _ _ _ none :: _) _ _) ?_)); refine wpList_load_row rfl 67 (.tmp 8) rfl w1.heap.size rfl 67 #[.int .u64 (bk : Nat), .int .u64 (ch : Nat), .slice A5 n5 c5, .slice A8 n8 c8] (0, 0) _ (unhide HQ9) Try.underlying67 rfl rnmInfo ?_)
    | ((with_reducible refine (@id (wpList _ _ _ (Oper.mk none (Op.store 67 (.tmp 2) (.tmp 79)) _ _ _ none :: _) _ _) ?_)); refine wpList_store_row rfl 67 (.tmp 2) (.tmp 79) rfl w.heap.size #[.int .u64 (bk : Nat), .int .u64 (ch : Nat), .slice A5 n5 c5, .slice A8 n8 c8] rfl rfl 67 _ (unhide HK9) rnmInfo rfl (nmOne _ _ _ _ _ _ _ _) ?_))
  refine bodyPost_ret (results_cell_tmp (P := Try.prog) rfl _ _ w.heap.size 67 #[.int .u64 (bk : Nat), .int .u64 (ch : Nat), .slice A5 n5 c5, .slice A8 n8 c8] (0, 0) _ rfl (setRow_heap _ _ _ _ _ _ (unhide HK9)) Try.underlying67 rfl rnmInfo) rfl ?_
  refine ⟨A5, n5, c5, A8, c8, ?_, ⟨fun _ => ⟨(unhide Hhs).symm, (unhide HRa) _ _ _ _ (unhide Hra)⟩, hc5, ?_, ?_, hbk4, by show ch ≤ 65; omega⟩, below_setRow (unhide HB9) (Nat.le_refl _) _⟩
  · show _ = Ending.returned (.tuple #[.agg #[.int .u64 (bk : Nat), .int .u64 (ch : Nat), .slice A5 n5 c5, .slice A8 (24 * ch) c8], .int .i64 0])
    rw [unhide Hss]
    rfl
  · show Rd _ B 1 A8 (24 * ch) (bys (Dy.cut b off8 (24 * ch)))
    rw [unhide Hss]
    exact (unhide HRa) _ _ _ _ (unhide Hrb)
  · show 24 * ch ≤ c8
    rw [unhide Hss]
    exact hc8
end Go.Proofs.Ytdminnhfgdoibaa
namespace Go.Proofs.Ytdminnhfgdoibaa
set_option linter.unusedVariables false
set_option linter.unusedSimpArgs false
open Go.RowKit

theorem modI (v r : Nat) (h : v % 24 = r) : (v : Int) % 24 = (r : Int) ∧ (v : Int).tmod 24 = (r : Int) := by
  have h1 : (v : Int) % 24 = (r : Int) := by omega
  exact ⟨h1, by rw [Int.tmod_eq_emod_of_nonneg (by omega)]; exact h1⟩
theorem divI (v d : Nat) (h : v / 24 = d) : (v : Int) / 24 = (d : Int) ∧ (v : Int).tdiv 24 = (d : Int) := by
  have h1 : (v : Int) / 24 = (d : Int) := by omega
  exact ⟨h1, by rw [Int.tdiv_eq_ediv_of_nonneg (by omega)]; exact h1⟩
theorem rtableE_le {o : Option (Nat × Nat)} {n : Nat} {A : Option Addr} {k c B : Nat} {q : Bool} {b : List UInt8} {w' : World} (hf : (q = false ∧ o = none) ∨ (q = true ∧ ∃ p, o = some (p, k) ∧ Rd w' B 1 A k (bys (Dy.cut b p k)) ∧ k ≤ c)) (ho : ∀ t, o = some t → t.2 ≤ n) : q = true → k ≤ n := by
  intro hq
  rcases hf with ⟨h0, -⟩ | ⟨-, p, hp, -, -⟩
  · rw [hq] at h0; cases h0
  · exact ho _ hp
set_option maxRecDepth 100000 in
set_option maxHeartbeats 4000000 in
theorem rrelas_any (B g : Nat) (f : Fl) (w : World) (h : FlM w B g f) (ho : FlOk f) (hbl : f.b.length = f.n) :
    Calls Try.prog 42 #[.pointer (some ⟨g, 0, none⟩)] w (RelasE (Dy.relaB f.b (El.loads f.segs) f.L) w) := by
  have K8 := rvalue_any B g f 8 w h ho.k
  have K2 := rvalue_any B g f 2 w h ho.k
  have KT7 := rtable_any B g f 7 8 w h ho
  have KT23 := fun (w' : World) (hb : Below w.heap.size w w') => rtable_any B g f 23 2 w' (h.belowSz hb) ho
  have l8 := rval_lt ho 8
  have l2 := rval_lt ho 2
  have hn := ho.n
  have hBw := h.sz
  have hr : Dy.relaB f.b (El.loads f.segs) f.L = if ((Dy.val f.L 8).getD 0) % 24 ≠ 0 ∨ ((Dy.val f.L 2).getD 0) % 24 ≠ 0 then ((25 : Int), ([] : List UInt8))
    else if 1536 < (Dy.val f.L 8).getD 0 + (Dy.val f.L 2).getD 0 then (12, [])
    else match Dy.table f.n (El.loads f.segs) f.L 7 8, Dy.table f.n (El.loads f.segs) f.L 23 2 with
      | some x, some y => (0, Dy.cut f.b x.1 x.2 ++ Dy.cut f.b y.1 y.2)
      | _, _ => (25, []) := by unfold Dy.relaB; rw [hbl]; rfl
  rw [hr]
  clear hr
  have ht7 : ∀ t, Dy.table f.n (El.loads f.segs) f.L 7 8 = some t → t.2 ≤ f.n := fun t h => Dy.table_le h
  have ht23 : ∀ t, Dy.table f.n (El.loads f.segs) f.L 23 2 = some t → t.2 ≤ f.n := fun t h => Dy.table_le h
  obtain ⟨v8, hv8⟩ : ∃ v, (Dy.val f.L 8).getD 0 = v := ⟨_, rfl⟩
  obtain ⟨v2, hv2⟩ : ∃ v, (Dy.val f.L 2).getD 0 = v := ⟨_, rfl⟩
  obtain ⟨i8, hi8⟩ : ∃ v, (Dy.val f.L 8).isSome = v := ⟨_, rfl⟩
  obtain ⟨i2, hi2⟩ : ∃ v, (Dy.val f.L 2).isSome = v := ⟨_, rfl⟩
  rw [hv8] at K8 l8 ⊢
  rw [hv2] at K2 l2 ⊢
  rw [hi8] at K8
  rw [hi2] at K2
  obtain ⟨o1, ho1⟩ : ∃ o, Dy.table f.n (El.loads f.segs) f.L 7 8 = o := ⟨_, rfl⟩
  obtain ⟨o2, ho2⟩ : ∃ o, Dy.table f.n (El.loads f.segs) f.L 23 2 = o := ⟨_, rfl⟩
  rw [ho1] at KT7 ht7 ⊢
  rw [ho2] at KT23 ht23 ⊢
  obtain ⟨th7, hth7⟩ : ∃ v, (Dy.val f.L 7).isSome = v := ⟨_, rfl⟩
  obtain ⟨th23, hth23⟩ : ∃ v, (Dy.val f.L 23).isSome = v := ⟨_, rfl⟩
  rw [hth7] at KT7
  rw [hth23] at KT23
  obtain ⟨b, hbb⟩ : ∃ b, f.b = b := ⟨_, rfl⟩
  obtain ⟨n, hnn⟩ : ∃ n, f.n = n := ⟨_, rfl⟩
  rw [hbb] at KT7 KT23 hbl ⊢
  rw [hnn] at ht7 ht23 hn hbl
  obtain ⟨Res, hRes⟩ : ∃ R, (if v8 % 24 ≠ 0 ∨ v2 % 24 ≠ 0 then ((25 : Int), ([] : List UInt8))
    else if 1536 < v8 + v2 then (12, [])
    else match o1, o2 with
      | some x, some y => (0, Dy.cut b x.1 x.2 ++ Dy.cut b y.1 y.2)
      | _, _ => (25, [])) = R := ⟨_, rfl⟩
  rw [hRes]
  have HRes := hide hRes
  have k8 : Calls Try.prog 48 #[.pointer (some ⟨g, 0, none⟩), .int .u64 8] w (fun e w' => e = .returned (.tuple #[.int .u64 (v8 : Nat), .bool i8]) ∧ w = w') := K8
  have k2 : Calls Try.prog 48 #[.pointer (some ⟨g, 0, none⟩), .int .u64 2] w (fun e w' => e = .returned (.tuple #[.int .u64 (v2 : Nat), .bool i2]) ∧ w = w') := K2
  have k7 : Calls Try.prog 41 #[.pointer (some ⟨g, 0, none⟩), .int .u64 7, .int .u64 8] w (RTableE o1 th7 B b w) := KT7
  have k23 : ∀ w', Below w.heap.size w w' → Calls Try.prog 41 #[.pointer (some ⟨g, 0, none⟩), .int .u64 23, .int .u64 2] w' (RTableE o2 th23 B b w') := KT23
  have HK8 := hide k8
  have HK2 := hide k2
  have HK7 := hide k7
  have HK23 := hide k23
  have Ht7 := hide ht7
  have Ht23 := hide ht23
  have Hbl := hide hbl
  clear h ho hbl K8 K2 KT7 KT23 hv8 hv2 hi8 hi2 ho1 ho2 hth7 hth23 hbb hnn hRes k8 k2 k7 k23 ht7 ht23
  obtain ⟨r8, hr8⟩ : ∃ r, v8 % 24 = r := ⟨_, rfl⟩
  obtain ⟨r2, hr2⟩ : ∃ r, v2 % 24 = r := ⟨_, rfl⟩
  obtain ⟨d8, hd8⟩ : ∃ r, v8 / 24 = r := ⟨_, rfl⟩
  obtain ⟨d2, hd2⟩ : ∃ r, v2 / 24 = r := ⟨_, rfl⟩
  obtain ⟨m1, m2⟩ := modI v8 r8 hr8
  obtain ⟨m3, m4⟩ := modI v2 r2 hr2
  obtain ⟨q1, q2⟩ := divI v8 d8 hd8
  obtain ⟨q3, q4⟩ := divI v2 d2 hd2
  have hres := unhide HRes
  rw [hr8, hr2] at hres
  have hsum : v8 = 24 * d8 + r8 ∧ v2 = 24 * d2 + r2 := by omega
  have hdw : IntKind.u64.wrap ((d8 : Int) + (d2 : Int)) = (d8 : Int) + (d2 : Int) := by rw [IntKind.wrap_u64]; omega
  have HR1 := hide hres
  have Hsum := hide hsum
  clear hres HRes hsum hr8 hr2 hd8 hd2
  go_enter Try.func42, Try.ntmps42
  go_wp2_with fail
  refine (unhide HK8).mono ?_
  rintro e w0 ⟨rfl, rfl⟩
  go_wp2_with fail
  refine (unhide HK2).mono ?_
  rintro e w0 ⟨rfl, rfl⟩
  clear HK8 HK2
  by_cases z8 : r8 = 0
  case neg =>
    have hR := unhide HR1
    rw [if_pos (.inl z8)] at hR
    subst hR
    have zI : ¬ (r8 : Int) = 0 := by omega
    clear HR1
    go_wp2_with fail
    go_ret2
    exact relas_nil 25 (Below.refl _ _)
  by_cases z2 : r2 = 0
  case neg =>
    have hR := unhide HR1
    rw [if_pos (.inr z2)] at hR
    subst hR
    have zI : (r8 : Int) = 0 := by omega
    have zJ : ¬ (r2 : Int) = 0 := by omega
    clear HR1
    go_wp2_with fail
    go_ret2
    exact relas_nil 25 (Below.refl _ _)
  have hR := unhide HR1
  rw [if_neg (by omega)] at hR
  subst z8 z2
  by_cases hbig : 1536 < v8 + v2
  case pos =>
    rw [if_pos hbig] at hR
    subst hR
    have hs := unhide Hsum
    by_cases c1 : 64 < d8
    · have cI : (64 : Int) < (d8 : Int) := by omega
      clear HR1 Hsum hs
      go_wp2_with fail
      go_ret2
      exact relas_nil 12 (Below.refl _ _)
    by_cases c2 : 64 < d2
    · have cI : ¬ (64 : Int) < (d8 : Int) := by omega
      have cJ : (64 : Int) < (d2 : Int) := by omega
      clear HR1 Hsum hs
      go_wp2_with fail
      go_ret2
      exact relas_nil 12 (Below.refl _ _)
    have cI : ¬ (64 : Int) < (d8 : Int) := by omega
    have cJ : ¬ (64 : Int) < (d2 : Int) := by omega
    have cK : (64 : Int) < (d8 : Int) + (d2 : Int) := by omega
    clear HR1 Hsum hs
    go_wp2_with fail
    go_ret2
    exact relas_nil 12 (Below.refl _ _)
  rw [if_neg hbig] at hR
  have hs := unhide Hsum
  have cI : ¬ (64 : Int) < (d8 : Int) := by omega
  have cJ : ¬ (64 : Int) < (d2 : Int) := by omega
  have cK : ¬ (64 : Int) < (d8 : Int) + (d2 : Int) := by omega
  have HR2 := hide hR
  clear HR1 Hsum hs hR hbig
  go_wp2_with fail
  refine (unhide HK7).mono ?_
  rintro e w1 ⟨A1, k1, c1, q7, rfl, hf1, hb1⟩
  have hle1 := rtableE_le hf1 (unhide Ht7)
  have HB1 : Hid (Below w.heap.size w (w1.alloc (.cells #[.bool th7, .slice A1 k1 c1] 95))) := hide (hb1.alloc hb1.size _)
  have HQ1 : Hid (Blk (w1.alloc (.cells #[.bool th7, .slice A1 k1 c1] 95)) w1.heap.size 95 [.bool th7, .slice A1 k1 c1]) := hide (Blk.new w1 95 [.bool th7, .slice A1 k1 c1])
  have Hf1 := hide hf1
  have hs1 := hb1.size
  clear hf1 hb1 HK7
  go_wp2_with fail
  refine ((unhide HK23) _ (unhide HB1)).mono ?_
  rintro e w2 ⟨A2, k2, c2, q23, rfl, hf2, hb2⟩
  have hle2 := rtableE_le hf2 (unhide Ht23)
  have hb2' := (unhide HB1).trans (hb2.mono (unhide HB1).size)
  have HB2 : Hid (Below w.heap.size w (w2.alloc (.cells #[.bool th23, .slice A2 k2 c2] 95))) := hide (hb2'.alloc hb2'.size _)
  have HQ2 := hide (((unhide HQ1).belowSz hb2).alloc (.cells #[.bool th23, .slice A2 k2 c2] 95))
  have HP2 : Hid (Blk (w2.alloc (.cells #[.bool th23, .slice A2 k2 c2] 95)) w2.heap.size 95 [.bool th23, .slice A2 k2 c2]) := hide (Blk.new w2 95 [.bool th23, .slice A2 k2 c2])
  have Hf2 := hide hf2
  have HX : Hid (∀ A k xs, Rd w1 B 1 A k xs → Rd (w2.alloc (.cells #[.bool th23, .slice A2 k2 c2] 95)) B 1 A k xs) := hide (fun A k xs h => ((h.alloc (by omega) _).below (hb2.mono (by simp; omega))).alloc (by have := hb2'.size; omega) _)
  have HY : Hid (∀ A k xs, Rd w2 B 1 A k xs → Rd (w2.alloc (.cells #[.bool th23, .slice A2 k2 c2] 95)) B 1 A k xs) := hide (fun A k xs h => h.alloc (by have := hb2'.size; omega) _)
  clear hf2 hb2 hb2' HB1 HQ1 HK23
  cases q7
  · have hR := unhide HR2
    rcases unhide Hf1 with ⟨-, h0⟩ | ⟨h0, -⟩
    · have hR2 : ((25 : Int), ([] : List UInt8)) = Res := by
        rw [← hR, h0]
      subst hR2
      clear HR2 Hf1 Hf2 h0 hR
      go_wp2_with fail
      go_ret2
      exact relas_nil 25 (unhide HB2)
    · cases h0
  cases q23
  · have hR := unhide HR2
    rcases unhide Hf2 with ⟨-, h0⟩ | ⟨h0, -⟩
    · have hR2 : ((25 : Int), ([] : List UInt8)) = Res := by
        rw [← hR, h0]
        cases o1 <;> rfl
      subst hR2
      clear HR2 Hf1 Hf2 h0 hR
      go_wp2_with fail
      go_ret2
      exact relas_nil 25 (unhide HB2)
    · cases h0
  rcases unhide Hf1 with ⟨h0, -⟩ | ⟨-, p1, e1, hr1, hc1⟩
  · cases h0
  rcases unhide Hf2 with ⟨h0, -⟩ | ⟨-, p2, e2, hr2, hc2⟩
  · cases h0
  have hR := unhide HR2
  rw [e1, e2] at hR
  dsimp only at hR
  have l1 := hle1 rfl
  have l3 := hle2 rfl
  have hra := (unhide HX) _ _ _ hr1
  have hrb := (unhide HY) _ _ _ hr2
  have hla : (Dy.cut b p1 k1).length = k1 := by have := hr1.1; simp [bys] at this; omega
  have hlb : (Dy.cut b p2 k2).length = k2 := by have := hr2.1; simp [bys] at this; omega
  obtain ⟨X1, hX1⟩ : ∃ X, Dy.cut b p1 k1 = X := ⟨_, rfl⟩
  obtain ⟨X2, hX2⟩ : ∃ X, Dy.cut b p2 k2 = X := ⟨_, rfl⟩
  rw [hX1] at hra hla hR
  rw [hX2] at hrb hlb hR
  have hBs : B ≤ (w2.alloc (.cells #[.bool th23, .slice A2 k2 c2] 95)).heap.size := Nat.le_trans hBw (unhide HB2).size
  have KC := hide (copyBytes_any A1 k1 c1 B X1 _ hBs hra (by omega))
  have u1 := (unhide HQ2).cell (i := 1) rfl
  have HP3 := HP2
  have Hrb := hide hrb
  have HRr := hide hR
  have Hla := hide hla
  have Hlb := hide hlb
  clear hra hrb hla hlb hX1 hX2 hR HR2 Hf1 Hf2 hr1 hr2 e1 e2 HX HY hle1 hle2
  go_wp2_with fail
  refine (unhide KC).mono ?_
  rintro e w4 ⟨A4, c4, rfl, ho4, hb4⟩
  have Ho4 := hide ho4
  have HB4 := hide ((unhide HB2).trans (hb4.mono (unhide HB2).size))
  have hr4 := hide ((unhide Hrb).below (hb4.mono hBs))
  have u2 := ((unhide HP2).belowSz hb4).cell (i := 1) rfl
  have Hb4 := hide hb4
  clear ho4 hb4 KC u1
  go_wp2_with (at_builtin; refine wpList_app byteTyD rfl _ _ rfl _ _ k1 (bys X1) rfl (unhide Ho4) B A2 k2 c2 (bys X2) rfl (unhide hr4) (bys_oneD _) (by omega) (unhide Hb4).size ?_; intro A5 c5 w5 ho5 hg5 hk5; have Ho5 := hide ho5; have HB5 := hide ((unhide HB4).grown hg5 (unhide HB4).size (fun k hk => Nat.le_trans (unhide HB2).size ((unhide Ho4).lt k hk).1) : Below w.heap.size w w5); clear ho5 hg5 hk5)
  go_ret2
  rw [← unhide HRr]
  unfold RelasE
  dsimp only
  rw [List.length_append, unhide Hla, unhide Hlb, show bys (X1 ++ X2) = bys X1 ++ bys X2 by unfold bys; rw [List.map_append]]
  exact ⟨A5, c5, rfl, own_base (unhide Ho5) (unhide HB2).size, unhide HB5⟩
end Go.Proofs.Ytdminnhfgdoibaa
