/- Texts of the claim LawMakerMakes (MkFit, MkR9, MkL1, Put2, AppK, MkP1, MkP2, MkP3, MkP4, MkP5, MkP6, AppG): what the functions that the statement reaches compute, and plain laws of it. Conditions: those that each theorem states. -/
import Derived.Test.YtnbecdahfgkffaaGreatMmK3
import Derived.Test.YtnbecdahfgkffaaGreatMmK1
import Derived.Laws.EntriesVeiled
import Derived.Deep.DeepCutAuto
import Derived.Deep.CutBlock
import Derived.Test.YtnbecdahfgkffaaGreatMmK2
import Derived.ArgAppend
import Derived.Deep.Upon
set_option linter.unusedVariables false
set_option linter.unusedSimpArgs false
namespace Go.Proofs.YtnbecdahfgkffaaGreat
structure MayOk (x : Mk.Spec) : Prop where
  type : x.type = 2 ∨ x.type = 3
  enters : Mk.enters x = true
  interp : x.interp.size ≠ 0 → Pth.chk x.interp = 0
  empty : x.dynamic = false → Mk.empty x.dyn = true
  n1 : x.dyn.needed.length ≤ 8
  n2 : x.dyn.syms.length ≤ 64
  n3 : x.dyn.relas.length ≤ 64
  text : x.text.length ≤ 65536
  more : x.more ≤ 1048576
  a0 : 0 ≤ x.apart
  a1 : x.apart ≤ x.dyn.relas.length
  s1 : ∀ s ∈ x.dyn.needed, Mk.has s = false
  s2 : ∀ s ∈ x.dyn.syms, Mk.has s.name = false ∧ s.bind ≤ 2
  s3 : Mk.has x.dyn.soname = false
  s4 : Mk.has x.dyn.run = false
  rel : ∀ r ∈ x.dyn.relas, 0 ≤ r.sym ∧ r.sym ≤ x.dyn.syms.length
theorem may_zero {x : Mk.Spec} (h : Mk.may x = 0) : MayOk x := by
  unfold Mk.may at h
  split at h
  · cases h
  rename_i h1
  split at h
  · cases h
  rename_i h2
  split at h
  · cases h
  rename_i h3
  split at h
  · cases h
  rename_i h4
  simp only [Mk.bad1, Mk.bad2, Mk.bad, Mk.tooBig, Bool.or_eq_true, Bool.and_eq_true, Bool.not_eq_true', decide_eq_true_eq, decide_eq_false_iff_not, List.any_eq_true, not_or, not_and, not_exists, Bool.or_eq_false_iff, Bool.not_eq_true, Bool.not_eq_false] at h1 h2 h3 h4
  obtain ⟨⟨h1a, h1b⟩, h1c⟩ := h1
  obtain ⟨⟨h2a, h2b⟩, h2c⟩ := h2
  obtain ⟨⟨⟨⟨h3a, h3b⟩, h3c⟩, h3d⟩, h3e⟩ := h3
  obtain ⟨⟨⟨⟨h4a, h4b⟩, h4c⟩, h4d⟩, h4e⟩ := h4
  refine ⟨?_, h1b, fun e => ?_, h2a, by omega, by omega, by omega, by omega, by omega, by omega, by omega, h3c, fun s hs => ?_, h3a, h3b, fun r hr => ?_⟩
  · by_cases a : x.type = 2
    · exact .inl a
    · exact .inr (Decidable.not_not.1 (h1a a))
  · exact Decidable.not_not.1 (h1c e)
  · have h5 := h3d s hs
    unfold Mk.badSym at h5
    rw [Bool.or_eq_false_iff, decide_eq_false_iff_not] at h5
    exact ⟨h5.1, by omega⟩
  · have h5 := h3e r hr
    unfold Mk.badRel at h5
    rw [Bool.or_eq_false_iff, decide_eq_false_iff_not, decide_eq_false_iff_not] at h5
    omega
theorem pad_len (m : Nat) (f : List UInt8) : (Mk.pad m f).length = f.length + Mk.gap m f.length := by unfold Mk.pad; rw [List.length_append, zs_len]
theorem pad_up (f : List UInt8) : (Mk.pad 4096 f).length = (f.length + 4095) / 4096 * 4096 := by
  rw [pad_len]
  have h1 := gap_end (m := 4096) (n := f.length) (by omega)
  have h2 := gap_lt (m := 4096) (n := f.length) (by omega)
  generalize Mk.gap 4096 f.length = g at *
  omega
theorem fold_le (b : Nat) (l : List (Nat × List UInt8)) (m : Nat) : ∀ st, (∀ p ∈ l, p.2.length + 8 ≤ m) → (l.foldl (Mk.stepPart b) st).1.length ≤ st.1.length + m * l.length := by
  induction l with
  | nil => intro st _; simp
  | cons p r ih =>
    intro st h
    have h1 := ih (Mk.stepPart b st p) (fun q hq => h q (List.mem_cons_of_mem _ hq))
    have h2 := h p List.mem_cons_self
    have h3 := pad_le 8 (by omega) st.1
    have h4 : (Mk.stepPart b st p).1.length = (Mk.pad 8 st.1).length + p.2.length := by unfold Mk.stepPart; simp
    rw [List.foldl_cons, List.length_cons, Nat.mul_succ]
    omega
theorem part_len (x : Mk.Spec) (h2 : x.dyn.syms.length ≤ 64) (h3 : x.dyn.relas.length ≤ 64) (T : Nat) (hT : (Mk.texts3 x.dyn).length ≤ T) : ∀ p ∈ Mk.parts x, p.2.length + 8 ≤ T + 1600 := by
  intro p hp
  unfold Mk.parts Mk.partSyms Mk.partOne Mk.partTwo at hp
  simp only [List.mem_append, List.mem_singleton] at hp
  rcases hp with ((hp | hp) | hp) | hp
  · split at hp
    · cases hp
    · simp only [List.mem_cons, List.not_mem_nil, or_false] at hp
      rcases hp with rfl | rfl
      · rw [hashB_len]; omega
      · rw [symsB_len]; omega
  · split at hp
    · cases hp
    · simp only [List.mem_singleton] at hp
      subst hp
      show (Mk.relsB _).length + 8 ≤ _
      rw [relsB_len, List.length_take]
      omega
  · split at hp
    · cases hp
    · simp only [List.mem_singleton] at hp
      subst hp
      show (Mk.relsB _).length + 8 ≤ _
      rw [relsB_len, List.length_drop]
      omega
  · subst hp
    show (Mk.texts3 x.dyn).length + 8 ≤ _
    omega
theorem parts_len (x : Mk.Spec) : (Mk.parts x).length ≤ 5 := by
  unfold Mk.parts Mk.partSyms Mk.partOne Mk.partTwo
  simp only [List.length_append]
  split <;> split <;> split <;> simp
theorem told_len (l : List (Nat × List UInt8)) : (Mk.told l).length ≤ 3 * l.length := by
  induction l with
  | nil => simp [Mk.told]
  | cons p r ih =>
    unfold Mk.told at ih ⊢
    rw [List.flatMap_cons, List.length_append, List.length_cons]
    have : (Mk.tell p.1 0 0).length ≤ 3 := by unfold Mk.tell; split <;> simp
    omega
theorem heads2_len (d : Mk.Dyn) : (Mk.heads2 d).length ≤ d.needed.length + 2 := by
  unfold Mk.heads2 Mk.heads1 Mk.heads0
  split <;> split <;> simp [places_len]
theorem room_le (x : Mk.Spec) (h1 : x.dyn.needed.length ≤ 8) : Mk.room x ≤ 400 := by
  unfold Mk.room
  rw [List.length_append]
  have := heads2_len x.dyn
  have := told_len (Mk.parts x)
  have := parts_len x
  omega
theorem over_len (f : List UInt8) (p : Nat) (b : List UInt8) (h : p + b.length ≤ f.length) : (Mk.over f p b).length = f.length := by
  unfold Mk.over
  simp only [List.length_append, List.length_take, List.length_drop]
  omega
theorem ents_len (x : Mk.Spec) (f : List UInt8) : (Mk.entsB (Mk.laidParts x f).2).length = Mk.room x := by
  rw [entsB_len, laid_len]
  rfl
theorem section_len (x : Mk.Spec) (f : List UInt8) : (Mk.section_ x f).length = (Mk.laidParts x f).1.length := by
  unfold Mk.section_
  refine over_len _ _ _ ?_
  rw [ents_len]
  have h1 := laid_len1 x f
  unfold Mk.st0 at h1
  rw [List.length_append, zs_len] at h1
  exact h1
theorem section_ge (x : Mk.Spec) (f : List UInt8) : f.length + Mk.room x ≤ (Mk.section_ x f).length := by
  rw [section_len]
  have h1 := laid_len1 x f
  unfold Mk.st0 at h1
  rw [List.length_append, zs_len, pad_len] at h1
  omega
theorem section_le (x : Mk.Spec) (f : List UInt8) (h1 : x.dyn.needed.length ≤ 8) (h2 : x.dyn.syms.length ≤ 64) (h3 : x.dyn.relas.length ≤ 64) (T : Nat) (hT : (Mk.texts3 x.dyn).length ≤ T) : (Mk.section_ x f).length ≤ f.length + 5 * T + 9000 := by
  rw [section_len]
  have h5 := parts_len x
  have h4 := fold_le (Mk.base x) (Mk.parts x) (T + 1600) (Mk.pad 8 f ++ Mk.zs (Mk.room x), Mk.heads2 x.dyn) (part_len x h2 h3 T hT)
  have h6 : (Mk.laidParts x f).1.length ≤ (Mk.pad 8 f ++ Mk.zs (Mk.room x)).length + (T + 1600) * (Mk.parts x).length := h4
  have h7 := room_le x h1
  have h8 := pad_le 8 (by omega) f
  have h9 : (T + 1600) * (Mk.parts x).length ≤ (T + 1600) * 5 := Nat.mul_le_mul_left _ h5
  rw [List.length_append, zs_len] at h6
  omega
theorem many_ge (x : Mk.Spec) : 2 ≤ Mk.many x ∧ Mk.many x ≤ 6 := by
  have h : ∀ b, Mk.one b ≤ 1 := by intro b; cases b <;> decide
  have := h (Mk.isInterp x)
  have := h x.dynamic
  have := h (Mk.isText x)
  have := h (Mk.isData x)
  unfold Mk.many
  omega
theorem front0_len (x : Mk.Spec) : (Mk.front0 x).length = 64 + 56 * Mk.many x := by unfold Mk.front0; rw [zs_len]
theorem interpB_len (x : Mk.Spec) : (Mk.interpB x).length = x.interp.size + 1 := by unfold Mk.interpB; simp
theorem front1_len (x : Mk.Spec) : (Mk.front0 x).length ≤ (Mk.front1 x).length ∧ (Mk.front1 x).length ≤ (Mk.front0 x).length + x.interp.size + 9 := by
  unfold Mk.front1
  split
  · have h1 := pad_le 8 (by omega) (Mk.front0 x)
    have h2 := pad_len 8 (Mk.front0 x)
    rw [List.length_append, interpB_len]
    omega
  · omega
theorem front2_len (x : Mk.Spec) : (Mk.front1 x).length ≤ (Mk.front2 x).length := by
  unfold Mk.front2
  split
  · have := section_ge x (Mk.front1 x); omega
  · omega
theorem front2_le (x : Mk.Spec) (h : MayOk x) (T : Nat) (hT : (Mk.texts3 x.dyn).length ≤ T) : (Mk.front2 x).length ≤ (Mk.front1 x).length + 5 * T + 9000 := by
  unfold Mk.front2
  split
  · exact section_le x _ h.n1 h.n2 h.n3 T hT
  · omega
theorem rowB_len (r : Mk.Row) : (Mk.rowB r).length = 56 := by unfold Mk.rowB; simp [Cl.lb_len]
theorem rowsB_len (l : List Mk.Row) : (Mk.rowsB l).length = 56 * l.length := by
  unfold Mk.rowsB
  induction l with
  | nil => rfl
  | cons s r ih => rw [List.flatMap_cons, List.length_append, rowB_len, ih, List.length_cons, Nat.mul_succ]; omega
theorem head_len (x : Mk.Spec) (l : List Mk.Row) : (Mk.head x l).length = 64 + 56 * l.length := by
  unfold Mk.head
  simp only [List.length_append, Cl.lb_len, rowsB_len]
  show 16 + 2 + 2 + 4 + 8 + 8 + 8 + 4 + 2 + 2 + 2 + 2 + 2 + 2 + _ = _
  omega
theorem rows_len (x : Mk.Spec) : (Mk.rows x).length = Mk.many x := by
  unfold Mk.rows Mk.many Mk.rowPhdr Mk.rowInterp Mk.rowFirst Mk.rowText Mk.rowData Mk.rowDyn Mk.one
  simp only [List.length_append, List.length_singleton]
  split <;> split <;> split <;> split <;> simp [*]
theorem zs_add (a b : Nat) : Mk.zs (a + b) = Mk.zs a ++ Mk.zs b := by
  unfold Mk.zs
  exact (List.replicate_append_replicate ..).symm
theorem over_mid (a b c d : List UInt8) (p : Nat) (hp : p = a.length) (h : d.length = b.length) : Mk.over (a ++ b ++ c) p d = a ++ d ++ c := by
  subst hp
  unfold Mk.over
  rw [h, ← List.length_append, List.drop_left, List.append_assoc a b c, List.take_left, List.append_assoc]
def Mk.textAt (x : Mk.Spec) : Nat := (Mk.pad 4096 (Mk.front2 x)).length
def Mk.dataAt (x : Mk.Spec) : Nat := (Mk.pad 4096 (Mk.out1 x)).length
theorem text_up (x : Mk.Spec) : Mk.textAt x = ((Mk.front2 x).length + 4095) / 4096 * 4096 := pad_up _
theorem data_up (x : Mk.Spec) : Mk.dataAt x = (Mk.textAt x + x.text.length + 4095) / 4096 * 4096 := by
  unfold Mk.dataAt
  rw [pad_up]
  unfold Mk.out1
  split
  · rw [List.length_append]; rfl
  · rename_i h
    have : x.text.length = 0 := by unfold Mk.isText at h; simp at h; simp [h]
    rw [this, text_up]
    omega
theorem out2_len (x : Mk.Spec) : (Mk.out2 x).length = if Mk.isData x = true then Mk.dataAt x + x.data.length else if Mk.isText x = true then Mk.textAt x + x.text.length else (Mk.front2 x).length := by
  unfold Mk.out2 Mk.dataAt
  split
  · rw [List.length_append]
  · unfold Mk.out1 Mk.textAt
    split
    · rw [List.length_append]
    · rfl
theorem out1_ge (x : Mk.Spec) : (Mk.front2 x).length ≤ (Mk.out1 x).length := by
  unfold Mk.out1
  split
  · rw [List.length_append, pad_len]; omega
  · omega
theorem out2_ge (x : Mk.Spec) : (Mk.out1 x).length ≤ (Mk.out2 x).length := by
  unfold Mk.out2
  split
  · rw [List.length_append, pad_len]; omega
  · omega
def Mk.blank (x : Mk.Spec) : List UInt8 := Mk.front2 x ++ Mk.zs ((Mk.out2 x).length - (Mk.front2 x).length)
theorem blank_len (x : Mk.Spec) : (Mk.blank x).length = (Mk.out2 x).length := by
  unfold Mk.blank
  rw [List.length_append, zs_len]
  have := out1_ge x
  have := out2_ge x
  omega
theorem blank_eq (x : Mk.Spec) : Mk.over (Mk.zs (Mk.out2 x).length) 0 (Mk.front2 x) = Mk.blank x := by
  have h1 := out1_ge x
  have h2 := out2_ge x
  have h3 : Mk.zs (Mk.out2 x).length = [] ++ Mk.zs (Mk.front2 x).length ++ Mk.zs ((Mk.out2 x).length - (Mk.front2 x).length) := by
    rw [List.nil_append, ← zs_add]
    congr 1
    omega
  rw [h3, over_mid [] _ _ _ 0 rfl (by rw [zs_len])]
  rfl
def Mk.withText (x : Mk.Spec) : List UInt8 := Mk.out1 x ++ Mk.zs ((Mk.out2 x).length - (Mk.out1 x).length)
theorem text_eq (x : Mk.Spec) : (if Mk.isText x = true then Mk.over (Mk.blank x) (Mk.textAt x) x.text else Mk.blank x) = Mk.withText x := by
  have h1 := out1_ge x
  have h2 := out2_ge x
  split
  · rename_i h
    have e1 : Mk.out1 x = Mk.pad 4096 (Mk.front2 x) ++ x.text := by unfold Mk.out1; rw [if_pos h]
    have e2 : (Mk.out1 x).length = Mk.textAt x + x.text.length := by rw [e1, List.length_append]; rfl
    have e3 : Mk.textAt x = (Mk.front2 x).length + Mk.gap 4096 (Mk.front2 x).length := pad_len _ _
    have e4 : Mk.blank x = Mk.pad 4096 (Mk.front2 x) ++ Mk.zs x.text.length ++ Mk.zs ((Mk.out2 x).length - (Mk.out1 x).length) := by
      unfold Mk.blank Mk.pad
      rw [List.append_assoc, List.append_assoc, ← zs_add, ← zs_add]
      congr 2
      omega
    rw [e4, over_mid _ _ _ _ (Mk.textAt x) rfl (by rw [zs_len])]
    unfold Mk.withText
    rw [e1]
  · rename_i h
    unfold Mk.withText Mk.blank Mk.out1
    rw [if_neg h]
theorem data_eq (x : Mk.Spec) : (if Mk.isData x = true then Mk.over (Mk.withText x) (Mk.dataAt x) x.data else Mk.withText x) = Mk.out2 x := by
  have h2 := out2_ge x
  split
  · rename_i h
    have e1 : Mk.out2 x = Mk.pad 4096 (Mk.out1 x) ++ x.data := by unfold Mk.out2; rw [if_pos h]
    have e2 : (Mk.out2 x).length = Mk.dataAt x + x.data.length := by rw [e1, List.length_append]; rfl
    have e3 : Mk.dataAt x = (Mk.out1 x).length + Mk.gap 4096 (Mk.out1 x).length := pad_len _ _
    have e4 : Mk.withText x = Mk.pad 4096 (Mk.out1 x) ++ Mk.zs x.data.length ++ [] := by
      unfold Mk.withText Mk.pad
      rw [List.append_nil, List.append_assoc, ← zs_add]
      congr 2
      omega
    rw [e4, over_mid _ _ _ _ (Mk.dataAt x) rfl (by rw [zs_len]), List.append_nil, e1]
  · rename_i h
    unfold Mk.withText Mk.out2
    rw [if_neg h]
    simp [Mk.zs]
theorem over_comm (f a b : List UInt8) (p q : Nat) (h1 : p + a.length ≤ q) (h2 : q + b.length ≤ f.length) : Mk.over (Mk.over f p a) q b = Mk.over (Mk.over f q b) p a := by
  have e : f = f.take p ++ (f.drop p).take a.length ++ (f.drop (p + a.length)).take (q - (p + a.length)) ++ (f.drop q).take b.length ++ f.drop (q + b.length) := by
    have c1 : f.drop q = (f.drop q).take b.length ++ f.drop (q + b.length) := by rw [← List.drop_drop, List.take_append_drop]
    have c2 : f.drop (p + a.length) = (f.drop (p + a.length)).take (q - (p + a.length)) ++ f.drop q := by
      have : f.drop q = (f.drop (p + a.length)).drop (q - (p + a.length)) := by rw [List.drop_drop]; congr 1; omega
      rw [this, List.take_append_drop]
    have c3 : f.drop p = (f.drop p).take a.length ++ f.drop (p + a.length) := by rw [← List.drop_drop, List.take_append_drop]
    rw [List.append_assoc, List.append_assoc, List.append_assoc, ← c1, ← c2, ← c3, List.take_append_drop]
  have l1 : (f.take p).length = p := by rw [List.length_take]; omega
  have l2 : ((f.drop p).take a.length).length = a.length := by rw [List.length_take, List.length_drop]; omega
  have l3 : ((f.drop (p + a.length)).take (q - (p + a.length))).length = q - (p + a.length) := by rw [List.length_take, List.length_drop]; omega
  have l4 : ((f.drop q).take b.length).length = b.length := by rw [List.length_take, List.length_drop]; omega
  generalize f.take p = u1 at *
  generalize (f.drop p).take a.length = u2 at *
  generalize (f.drop (p + a.length)).take (q - (p + a.length)) = u3 at *
  generalize (f.drop q).take b.length = u4 at *
  generalize f.drop (q + b.length) = u5 at *
  subst e
  have m1 : Mk.over (u1 ++ u2 ++ u3 ++ u4 ++ u5) p a = u1 ++ a ++ u3 ++ u4 ++ u5 := by
    have := over_mid u1 u2 (u3 ++ u4 ++ u5) a p l1.symm l2.symm
    simpa [List.append_assoc] using this
  have m2 : Mk.over (u1 ++ u2 ++ u3 ++ u4 ++ u5) q b = u1 ++ u2 ++ u3 ++ b ++ u5 := by
    have := over_mid (u1 ++ u2 ++ u3) u4 u5 b q (by simp only [List.length_append]; omega) l4.symm
    simpa [List.append_assoc] using this
  have m3 : Mk.over (u1 ++ a ++ u3 ++ u4 ++ u5) q b = u1 ++ a ++ u3 ++ b ++ u5 := by
    have := over_mid (u1 ++ a ++ u3) u4 u5 b q (by simp only [List.length_append]; omega) l4.symm
    simpa [List.append_assoc] using this
  have m4 : Mk.over (u1 ++ u2 ++ u3 ++ b ++ u5) p a = u1 ++ a ++ u3 ++ b ++ u5 := by
    have := over_mid u1 u2 (u3 ++ b ++ u5) a p l1.symm l2.symm
    simpa [List.append_assoc] using this
  rw [m1, m2, m3, m4]
theorem copies_eq (x : Mk.Spec) (H : List UInt8) (hH : H.length ≤ (Mk.front2 x).length) :
    (if Mk.isData x = true then Mk.over (if Mk.isText x = true then Mk.over (Mk.over (Mk.blank x) 0 H) (Mk.textAt x) x.text else Mk.over (Mk.blank x) 0 H) (Mk.dataAt x) x.data else (if Mk.isText x = true then Mk.over (Mk.over (Mk.blank x) 0 H) (Mk.textAt x) x.text else Mk.over (Mk.blank x) 0 H)) = Mk.over (Mk.out2 x) 0 H := by
  have h1 := out1_ge x
  have h2 := out2_ge x
  have hbl := blank_len x
  have hta : (Mk.front2 x).length ≤ Mk.textAt x := by unfold Mk.textAt; rw [pad_len]; omega
  have hda : (Mk.out1 x).length ≤ Mk.dataAt x := by unfold Mk.dataAt; rw [pad_len]; omega
  have hwl : (Mk.withText x).length = (Mk.out2 x).length := by unfold Mk.withText; rw [List.length_append, zs_len]; omega
  have s1 : (if Mk.isText x = true then Mk.over (Mk.over (Mk.blank x) 0 H) (Mk.textAt x) x.text else Mk.over (Mk.blank x) 0 H) = Mk.over (Mk.withText x) 0 H := by
    rw [← text_eq]
    split
    · rename_i h
      have e1 : (Mk.out1 x).length = Mk.textAt x + x.text.length := by unfold Mk.out1; rw [if_pos h, List.length_append]; rfl
      exact over_comm _ _ _ _ _ (by omega) (by omega)
    · rfl
  rw [s1]
  have s2 := data_eq x
  rw [← s2]
  split
  · rename_i h
    have e1 : (Mk.out2 x).length = Mk.dataAt x + x.data.length := by unfold Mk.out2; rw [if_pos h, List.length_append]; rfl
    exact over_comm _ _ _ _ _ (by omega) (by omega)
  · rfl
theorem over_nil (f : List UInt8) (p : Nat) : Mk.over f p [] = f := by unfold Mk.over; simp
theorem isData_if (x : Mk.Spec) (f : List UInt8) (p : Nat) : (if Mk.isData x = true then Mk.over f p x.data else f) = (if decide (0 < x.data.length) = true then Mk.over f p x.data else f) := by
  by_cases h : 0 < x.data.length
  · have h1 : Mk.isData x = true := by unfold Mk.isData; rw [decide_eq_true h]; rfl
    rw [if_pos h1, if_pos (decide_eq_true h)]
  · have h1 : x.data = [] := List.eq_nil_of_length_eq_zero (by omega)
    rw [h1, over_nil]
    simp
theorem rows_ok (x : Mk.Spec) (M : Nat) (hM : M ≤ 4294967296) (h1 : (Mk.front2 x).length ≤ M) (h2 : Mk.textAt x ≤ M) (h3 : Mk.dataAt x ≤ M) (h4 : x.text.length ≤ M) (h5 : x.data.length ≤ M) (h6 : x.more ≤ M) (h7 : x.interp.size ≤ M) (h8 : Mk.room x ≤ M) : ∀ r ∈ Mk.rows x, RowOk r := by
  have hb : Mk.base x ≤ 4194304 := by unfold Mk.base; split <;> omega
  have hm := many_ge x
  have f0 := front0_len x
  have f1 := front1_len x
  have f2 := front2_len x
  have p0 := pad_le 8 (by omega) (Mk.front0 x)
  have p1 := pad_le 8 (by omega) (Mk.front1 x)
  intro r hr
  unfold Mk.rows Mk.rowPhdr Mk.rowInterp Mk.rowFirst Mk.rowText Mk.rowData Mk.rowDyn at hr
  simp only [List.mem_append, List.mem_singleton] at hr
  have key : ∀ k fl off ad fs ms al : Nat, k < 100 → fl < 100 → off ≤ 2 * M + 4096 → ad ≤ 2 * M + 8388608 → fs ≤ 2 * M + 4096 → ms ≤ 2 * M + 4096 → al ≤ 4096 → RowOk ⟨k, fl, off, ad, fs, ms, al⟩ := fun k fl off ad fs ms al a b c d e f g =>
    ⟨by show k < _; omega, by show fl < _; omega, by show off < _; omega, by show ad < _; omega, by show fs < _; omega, by show ms < _; omega, by show al < _; omega⟩
  have kin : ∀ k off size al : Nat, k < 100 → off ≤ 2 * M + 4096 → size ≤ 2 * M + 4096 → al ≤ 4096 → RowOk (Mk.inRow x k off size al) := fun k off size al a b c d => key k 4 off (Mk.base x + off) size size al a (by omega) b (by omega) c c d
  rcases hr with ((((hr | hr) | hr) | hr) | hr) | hr
  · subst hr; exact kin _ _ _ _ (by omega) (by omega) (by omega) (by omega)
  · split at hr
    · simp only [List.mem_singleton] at hr; subst hr; exact kin _ _ _ _ (by omega) (by omega) (by omega) (by omega)
    · cases hr
  · subst hr; exact kin _ _ _ _ (by omega) (by omega) (by omega) (by omega)
  · split at hr
    · simp only [List.mem_singleton] at hr; subst hr
      have h9 : Mk.textAt x = (Mk.pad 4096 (Mk.front2 x)).length := rfl
      exact key _ _ _ _ _ _ _ (by omega) (by omega) (by omega) (by omega) (by omega) (by omega) (by omega)
    · cases hr
  · split at hr
    · simp only [List.mem_singleton] at hr; subst hr
      have h9 : Mk.dataAt x = (Mk.pad 4096 (Mk.out1 x)).length := rfl
      exact key _ _ _ _ _ _ _ (by omega) (by omega) (by omega) (by omega) (by omega) (by omega) (by omega)
    · cases hr
  · split at hr
    · simp only [List.mem_singleton] at hr; subst hr; exact kin _ _ _ _ (by omega) (by omega) (by omega) (by omega)
    · cases hr
end Go.Proofs.YtnbecdahfgkffaaGreat
namespace Go.Proofs.YtnbecdahfgkffaaGreat
open Go.RowKit
def dropC : Nat → Code → Code
  | 0, c => c
  | n + 1, .seq _ b => dropC n b
  | _ + 1, c => c
theorem row14Ty : SlTy Tryz.prog 90 89 7 56 := slTy_mk (z := .agg #[.int .u64 0, .int .u64 0, .int .u64 0, .int .u64 0, .int .u64 0, .int .u64 0, .int .u64 0]) Tryz.underlying90 (by kernel_rfl) rfl (by omega) (by omega)
theorem rowV_one (r : Mk.Row) : ∀ u ∈ rowV r, u.oneCell' = true := by
  intro u hu
  simp only [rowV, List.mem_cons, List.not_mem_nil, or_false] at hu
  rcases hu with rfl | rfl | rfl | rfl | rfl | rfl | rfl <;> rfl
theorem rowC_snoc (l : List Mk.Row) (r : Mk.Row) : rowC (l ++ [r]) = rowC l ++ rowV r := by unfold rowC; simp
structure MkFit (s : Xq) : Prop where
  ok : XqOk s
  interp : s.x.interp.size ≤ 1048576
  data : s.x.data.length ≤ 1048576
  texts : (Mk.texts3 s.x.dyn).length ≤ 16777216
  sy : ∀ y ∈ s.x.dyn.syms, y.value < 18446744073709551616 ∧ y.size < 18446744073709551616
  re : ∀ r ∈ s.x.dyn.relas, MrOk r
theorem MkFit.dq {s : Xq} (h : MkFit s) (hm : MayOk s.x) : DqFit s.q :=
  ⟨hm.n1, hm.n2, hm.n3, fun y hy => ⟨(h.sy y hy).1, (h.sy y hy).2, (hm.s2 y hy).2⟩, h.re⟩
def MkE (x : Mk.Spec) (w : World) (e : Ending) (w' : World) : Prop :=
  Below w.heap.size w w' ∧ ∃ A n c, e = .returned (.tuple #[.slice A n c, .int .i64 (Mk.make x).2]) ∧ w'.ownsRow w.heap.size 5 1 (.slice A n c) n (bys (Mk.make x).1)
structure MaS (b0 : Nat) (W1 : World) (gf : Nat) (L : Option (Nat × List Value)) (wr : World) (fs : List UInt8) (rs : List Mk.Row) (Al : Option Addr) (nl cl : Nat) : Prop where
  below : Below W1.heap.size W1 wr
  hg : W1.heap.size ≤ gf
  fi : ∃ A n c, FiM wr 87 gf 0 [.slice A n c, .int .u64 (b0 : Nat)] W1.heap.size A n c fs ∧ (∀ k, bk Al = some k → bk A ≠ some k) ∧ ∀ p, L = some p → bk A ≠ some p.1
  len : nl = rs.length
  row : wr.ownsRow W1.heap.size 89 7 (.slice Al nl cl) nl (rowC rs)
  gl : bk Al ≠ some gf
  last : ∀ p, L = some p → Blk wr p.1 89 p.2 ∧ W1.heap.size ≤ p.1 ∧ p.1 ≠ gf ∧ bk Al ≠ some p.1
section
variable {b0 gf nl cl : Nat} {W1 wr w' : World} {L : Option (Nat × List Value)} {fs fs' : List UInt8} {rs : List Mk.Row} {Al : Option Addr}
theorem MaS.size (h : MaS b0 W1 gf L wr fs rs Al nl cl) : W1.heap.size ≤ wr.heap.size := h.below.size
theorem MaS.calm (h : MaS b0 W1 gf L wr fs rs Al nl cl) (hb : Below wr.heap.size wr w') : MaS b0 W1 gf L w' fs rs Al nl cl := by
  obtain ⟨A, n, c, hf, h1, h2⟩ := h.fi
  exact ⟨h.below.trans (hb.mono h.size), h.hg, ⟨A, n, c, hf.below hb, h1, h2⟩, h.len, own_below h.row hb, h.gl, fun p hp => ⟨(h.last p hp).1.belowSz hb, (h.last p hp).2⟩⟩
theorem MaS.front {A A' : Option Addr} {n c n' c' : Nat} (h : MaS b0 W1 gf L wr fs rs Al nl cl) (hf : FiM wr 87 gf 0 [.slice A n c, .int .u64 (b0 : Nat)] W1.heap.size A n c fs) (h1 : ∀ k, bk Al = some k → bk A ≠ some k) (h2 : ∀ p, L = some p → bk A ≠ some p.1) (E : FiE 87 gf 0 [.slice A n c, .int .u64 (b0 : Nat)] W1.heap.size A wr w' A' n' c' fs') : MaS b0 W1 gf L w' fs' rs Al nl cl := by
  obtain ⟨r1, r2⟩ := E.own h.row h.gl h1
  refine ⟨h.below.trans (E.below h.hg (fun k hk => (hf.lt k hk).1) h.size), h.hg, ⟨A', n', c', E.m, r2, fun p hp e => ?_⟩, h.len, r1, h.gl, fun p hp => ⟨E.blk (h.last p hp).1 (h.last p hp).2.2.1 (h2 p hp), (h.last p hp).2⟩⟩
  rcases E.at_ _ e with h3 | h3
  · exact h2 p hp h3
  · have := (h.last p hp).1.lt; omega
theorem MaS.push {A2 : Option Addr} {c2 : Nat} (h : MaS b0 W1 gf L wr fs rs Al nl cl) (r : Mk.Row) (ho : w'.ownsRow W1.heap.size 89 7 (.slice A2 (nl + 1) c2) (nl + 1) (rowC rs ++ rowV r)) (hg : wr.grownBy w' (Value.slice Al nl cl).ownBlock) (hat : ∀ k, (Value.slice A2 (nl + 1) c2).ownBlock = some k → (Value.slice Al nl cl).ownBlock = some k ∨ wr.heap.size ≤ k) : MaS b0 W1 gf L w' fs (rs ++ [r]) A2 (nl + 1) c2 := by
  rw [own_bk] at hg
  simp only [own_bk] at hat
  obtain ⟨A, n, c, hf, h1, h2⟩ := h.fi
  refine ⟨h.below.grown hg h.size (fun k hk => (own_bklt h.row k hk).1), h.hg, ⟨A, n, c, hf.grown hg h.gl (fun k hk e => h1 k e hk), fun k hk e => ?_, h2⟩, by rw [h.len, List.length_append]; rfl, by rw [rowC_snoc]; exact ho, fun e => ?_, fun p hp => ⟨(hg.block p.1 (h.last p hp).1.lt (fun e => (h.last p hp).2.2.2 e.symm)).trans (h.last p hp).1, (h.last p hp).2.1, (h.last p hp).2.2.1, fun e => ?_⟩⟩
  · rcases hat k hk with h3 | h3
    · exact h1 k h3 e
    · have := hf.lt k e; omega
  · rcases hat _ e with h3 | h3
    · exact h.gl h3
    · have := hf.blk.lt; omega
  · rcases hat _ e with h3 | h3
    · exact (h.last p hp).2.2.2 h3
    · have := (h.last p hp).1.lt; omega
theorem MaS.lt (h : MaS b0 W1 gf L wr fs rs Al nl cl) : gf < wr.heap.size := by
  obtain ⟨A, n, c, hf, h1, h2⟩ := h.fi
  exact hf.blk.lt
theorem MaS.callPut {A2 : Option Addr} {m c2 : Nat} {b : List UInt8} (h : MaS b0 W1 gf L wr fs rs Al nl cl) (hb : Below wr.heap.size wr w') (hm : OwnM w' wr.heap.size A2 m c2 b) (hm2 : m ≤ 4294967296) (hb0 : b0 ≤ 4294967296) (hfs : fs.length ≤ 4294967296) :
    Calls Tryz.prog 35 #[.pointer (some ⟨gf, 0, none⟩), .slice A2 m c2] w' fun e w2 => e = .returned (.int .u64 (b0 + (Mk.pad 8 fs).length : Nat)) ∧ MaS b0 W1 gf L w2 (Mk.pad 8 fs ++ b) rs Al nl cl := by
  obtain ⟨A, n, c, hf, h1, h2⟩ := h.fi
  have hlt := h.lt
  have hl := hf.len
  have h3 := h.calm hb
  refine (rfput_any _ gf _ W1.heap.size b0 A n c fs A2 m c2 b w' (hf.below hb) rfl h3.size (by omega) hm2 hb0 hm.rd ?_ ?_).mono ?_
  · obtain ⟨g, rfl, h4, -⟩ := hm.at_
    intro e
    injection e with e
    have h9 : g = gf := e
    omega
  · obtain ⟨g, rfl, h4, -⟩ := hm.at_
    intro k hk e
    injection hk with hk
    have h9 : g = k := hk
    have := hf.lt k e
    omega
  · rintro e w2 ⟨A', n', c', rfl, E⟩
    exact ⟨rfl, h3.front (hf.below hb) h1 h2 E⟩
theorem MaS.setLast {gl : Nat} {l l2 : List Value} (h : MaS b0 W1 gf (some (gl, l)) wr fs rs Al nl cl) : MaS b0 W1 gf (some (gl, l2)) (wr.setRow gl l2.toArray) fs rs Al nl cl := by
  obtain ⟨hb, h1, h2, h3⟩ := h.last _ rfl
  obtain ⟨A, n, c, hf, e1, e2⟩ := h.fi
  have e3 := e2 _ rfl
  have own : ∀ {b3 z n3 c3 : Nat} {A3 : Option Addr} {e : TypeId} {ys : List Value}, wr.ownsRow b3 e z (.slice A3 n3 c3) n3 ys → bk A3 ≠ some gl → (wr.setRow gl l2.toArray).ownsRow b3 e z (.slice A3 n3 c3) n3 ys := by
    intro b3 z n3 c3 A3 e ys r hne
    refine ⟨r.1, r.2.imp id ?_⟩
    rintro ⟨k, cap, cur, q1, q2, q3, r'⟩
    have hk : bk A3 = some k := by injection q1 with q1; rw [q1]; rfl
    exact ⟨k, cap, cur, q1, q2, (setRow_other wr gl k _ (fun e => hne (by rw [hk, e]))).trans q3, r'⟩
  refine ⟨⟨h.below.os, h.below.tape, h.below.output, by simpa [World.setRow] using h.below.size, fun k hk => (setRow_other wr gl k _ (by omega)).trans (h.below.block k hk)⟩, h.hg, ⟨A, n, c, ⟨(setRow_other wr gl gf _ (fun e => h2 e.symm)).trans hf.blk, hf.at_, own hf.row e3, hf.ne⟩, e1, fun p hp => ?_⟩, h.len, own h.row h3, h.gl, fun p hp => ?_⟩
  · injection hp with hp; subst hp; exact e3
  · injection hp with hp; subst hp
    exact ⟨setRow_heap _ _ _ _ _ _ hb, h1, h2, h3⟩
theorem MaS.callSection {x : Mk.Spec} {q : Tb} (h : MaS (Mk.base x) W1 gf L wr fs rs Al nl cl) (hb : Below wr.heap.size wr w') (hT : TabM w' wr.heap.size x q) (hfs : fs.length ≤ 1073741824) (htx : (Mk.texts3 x.dyn).length ≤ 1073741824) (hm : MayOk x) :
    Calls Tryz.prog 36 #[.pointer (some ⟨gf, 0, none⟩), .agg q.l.toArray] w' fun e w2 => e = .returned (.tuple #[.int .u64 (Mk.base x + (Mk.pad 8 fs).length : Nat), .int .u64 (Mk.room x : Nat)]) ∧ MaS (Mk.base x) W1 gf L w2 (Mk.section_ x fs) rs Al nl cl := by
  obtain ⟨A, n, c, hf, h1, h2⟩ := h.fi
  have hl := hf.len
  have h3 := h.calm hb
  refine (rsection_any x q wr.heap.size gf W1.heap.size _ A n c fs w' hT (hf.below hb) rfl h.lt (fun k hk => (hf.lt k hk).2) h3.size (by omega) htx hm.n1 hm.n2 hm.n3 hm.a0 hm.a1).mono ?_
  rintro e w2 ⟨A', n', c', rfl, E⟩
  exact ⟨rfl, h3.front (hf.below hb) h1 h2 E⟩
def zrow : List Value := [.int .u64 0, .int .u64 0, .int .u64 0, .int .u64 0, .int .u64 0, .int .u64 0, .int .u64 0]
def lastV (x : Mk.Spec) : List Value := if x.dynamic = true then rowV (Mk.inRow x 2 (Mk.pad 8 (Mk.front1 x)).length (Mk.room x) 8) else zrow
theorem lastV_dyn {x : Mk.Spec} (h : x.dynamic = true) : lastV x = rowV (Mk.inRow x 2 (Mk.pad 8 (Mk.front1 x)).length (Mk.room x) 8) := by unfold lastV; rw [if_pos h]
theorem row14Info : (Tryz.prog.info? 89).map (·.size) = some 7 := by kernel_rfl
theorem rowV_all (r : Mk.Row) : (rowV r).toArray.all (·.oneCell') = true := by simp [rowV, Value.oneCell']
theorem MaS.start {W1 w3 : World} {b0 n c : Nat} {A : Option Addr} {fs : List UInt8} (hb : Below W1.heap.size W1 w3) (ho : w3.ownsRow W1.heap.size 5 1 (.slice A n c) n (bys fs)) (r : Mk.Row) :
    MaS b0 W1 w3.heap.size none ((w3.alloc (.cells #[.slice A n c, .int .u64 (b0 : Nat)] 87)).alloc (.cells (rowV r).toArray 89)) fs [r] (some ⟨w3.heap.size + 1, 0, none⟩) 1 1 := by
  have hs := hb.size
  have b1 : Below w3.heap.size w3 ((w3.alloc (.cells #[.slice A n c, .int .u64 (b0 : Nat)] 87)).alloc (.cells (rowV r).toArray 89)) := ((Below.refl _ _).alloc (Nat.le_refl _) _).alloc (by simp) _
  have hbl := (Blk.new w3 87 [.slice A n c, .int .u64 (b0 : Nat)]).alloc (.cells (rowV r).toArray 89)
  have hbr := Blk.new (w3.alloc (.cells #[.slice A n c, .int .u64 (b0 : Nat)] 87)) 89 (rowV r)
  have e1 : (w3.alloc (.cells #[.slice A n c, .int .u64 (b0 : Nat)] 87)).heap.size = w3.heap.size + 1 := by simp
  rw [e1] at hbr
  have hlt := own_bklt ho
  refine ⟨hb.trans (b1.mono hs), hs, ⟨A, n, c, ⟨hbl, rfl, own_below ho b1, fun e => by have := hlt _ e; omega⟩, fun k hk e => ?_, fun p hp => by cases hp⟩, rfl, ⟨rfl, .inr ⟨_, 1, _, rfl, by omega, hbr, by omega, by unfold maxLen; omega, rfl, ?_⟩⟩, fun e => ?_, fun p hp => by cases hp⟩
  · injection hk with hk
    have h9 : w3.heap.size + 1 = k := hk
    have := hlt _ e
    omega
  · simp [rowC, rowV]
  · injection e with e
    have h9 : w3.heap.size + 1 = w3.heap.size := e
    omega
theorem MaS.lay {l : List Value} (h : MaS b0 W1 gf none wr fs rs Al nl cl) : MaS b0 W1 gf (some (wr.heap.size, l)) (wr.alloc (.cells l.toArray 89)) fs rs Al nl cl := by
  have hb : Below wr.heap.size wr (wr.alloc (.cells l.toArray 89)) := (Below.refl _ _).alloc (Nat.le_refl _) _
  have h1 := h.calm hb
  obtain ⟨A, n, c, hf, e1, e2⟩ := h.fi
  refine ⟨h1.below, h1.hg, ⟨A, n, c, hf.below hb, e1, fun p hp e => ?_⟩, h1.len, h1.row, h1.gl, fun p hp => ?_⟩
  · injection hp with hp; subst hp; have := hf.lt _ e; simp at this
  · injection hp with hp; subst hp
    refine ⟨Blk.new wr _ l, h.size, fun e => ?_, fun e => ?_⟩
    · have := hf.blk.lt; simp at e; omega
    · have := own_bklt h.row _ e; simp at this
end
theorem below_setRow {B k : Nat} {a w : World} (h : Below B a w) (hk : B ≤ k) (cs : Array Value) : Below B a (w.setRow k cs) :=
  ⟨h.os, h.tape, h.output, by simpa [World.setRow] using h.size, fun j hj => (setRow_other w k j cs (by omega)).trans (h.block j hj)⟩
theorem wpList_copyB {ops : Array Oper} {rest : List Oper} {o : Oper} {a : Act} {w : World} {Q : Exit → Act → World → Prop} (hgd : o.guard = none) (d x : Operand) (ho : o.op = .call { callee := .builtin .copy, args := #[d, x], argTypes := #[24, 24] }) (k p dn dc base nf cf : Nat) (fs ys : List UInt8)
    (hd : a.eval d = .slice (some ⟨k, p, none⟩) dn dc) (hown : w.ownsRow base 5 1 (.slice (some ⟨k, 0, none⟩) nf cf) nf (bys fs)) (b2 o2 m cx B : Nat) (hx : a.eval x = .slice (some ⟨b2, o2, none⟩) m cx) (hr : Rd w B 1 (some ⟨b2, o2, none⟩) m (bys ys)) (hm : m ≤ dn) (hdn : p + m ≤ nf)
    (h : ∀ w', w'.ownsRow base 5 1 (.slice (some ⟨k, 0, none⟩) nf cf) nf (bys (Mk.over fs p ys)) → (∃ cs, w' = w.setRow k cs) → wpList Tryz.prog ops Q rest (a.put o.dst (.int .i64 m)) w') : wpList Tryz.prog ops Q (o :: rest) a w :=
  wpList_plain hgd fun _ hK => wp_copyB d x ho k p dn dc base nf cf fs ys hd hown b2 o2 m cx B hx hr hm hdn fun w' h2 h3 => hK _ _ (h w' h2 h3)
structure CpM (W8 wr : World) (kb n : Nat) (cur : List UInt8) : Prop where
  below : Below W8.heap.size W8 wr
  hk : W8.heap.size ≤ kb
  row : wr.ownsRow W8.heap.size 5 1 (.slice (some ⟨kb, 0, none⟩) n n) n (bys cur)
theorem CpM.calm {W8 wr w' : World} {kb n : Nat} {cur : List UInt8} (h : CpM W8 wr kb n cur) (hb : Below wr.heap.size wr w') : CpM W8 w' kb n cur := ⟨h.below.trans (hb.mono h.below.size), h.hk, own_below h.row hb⟩
theorem CpM.copied {W8 wr : World} {kb n : Nat} {cur cur' : List UInt8} (h : CpM W8 wr kb n cur) {w' : World} (ho : w'.ownsRow W8.heap.size 5 1 (.slice (some ⟨kb, 0, none⟩) n n) n (bys cur')) (he : ∃ cs, w' = wr.setRow kb cs) : CpM W8 w' kb n cur' := by
  obtain ⟨cs, rfl⟩ := he
  exact ⟨below_setRow h.below h.hk cs, h.hk, ho⟩
theorem CpM.drew1 {W8 wr : World} {kb n : Nat} {cur : List UInt8} (h : CpM W8 wr kb n cur) : CpM W8 wr.drew kb n cur := ⟨below_drew' h.below, h.hk, h.row⟩
theorem CpM.drew {W8 wr : World} {kb n : Nat} {cur : List UInt8} (h : CpM W8 wr kb n cur) (q : Nat) : CpM W8 (wr.drewN q) kb n cur := ⟨below_drewN' h.below q, h.hk, h.row⟩
end Go.Proofs.YtnbecdahfgkffaaGreat
namespace Go.Proofs.YtnbecdahfgkffaaGreat
open Go.RowKit
structure XqMax (s : Xq) : Prop where
  text : s.x.text.length ≤ 140737488355328
  data : s.x.data.length ≤ 140737488355328
  interp : s.x.interp.size ≤ 140737488355328
  so : s.x.dyn.soname.size ≤ 140737488355328
  ru : s.x.dyn.run.size ≤ 140737488355328
  n1 : s.x.dyn.needed.length ≤ 140737488355328
  n2 : s.x.dyn.syms.length ≤ 140737488355328
  n3 : s.x.dyn.relas.length ≤ 140737488355328
  s1 : ∀ y ∈ s.x.dyn.needed, y.size ≤ 140737488355328
  s2 : ∀ y ∈ s.x.dyn.syms, y.name.size ≤ 140737488355328
def sumN (l : List ByteArray) : Nat := (l.map (·.size)).foldr (· + ·) 0
theorem sumN_next {l : List ByteArray} {i : Nat} {x : ByteArray} (h : l[i]? = some x) : sumN (l.take (i + 1)) = sumN (l.take i) + x.size := by
  rw [List.take_add_one, h]
  unfold sumN
  simp only [List.map_append, List.foldr_append, Option.toList_some, List.map_cons, List.map_nil, List.foldr_cons, List.foldr_nil]
  generalize List.map (fun x => x.size) (l.take i) = m
  induction m with
  | nil => simp
  | cons a r ih => simp only [List.foldr_cons, ih]; omega
def large0 (x : Mk.Spec) : Nat := x.text.length + x.data.length + x.interp.size + x.dyn.soname.size + x.dyn.run.size + 40 * x.dyn.syms.length + 30 * x.dyn.relas.length + 16 * x.dyn.needed.length
def LgOk (x : Mk.Spec) : Prop := large0 x + sumN x.dyn.needed + sumN (Mk.names x.dyn.syms) ≤ 524288
def LargeE (s : Xq) (w : World) (e : Ending) (w' : World) : Prop := ∃ r, e = .returned (.bool r) ∧ Below w.heap.size w w' ∧ (r = false → LgOk s.x)
set_option maxRecDepth 100000 in
set_option maxHeartbeats 60000000 in
theorem large14_any (s : Xq) (B : Nat) (w : World) (hB : B ≤ w.heap.size) (h : XqM w B s) (hm : XqMax s) :
    Calls Tryz.prog 6 #[.agg s.l.toArray] w (LargeE s w) := by
  have hb1 : Below w.heap.size w ((w.alloc (.cells #[.int .u16 (s.x.type : Nat), .int .u64 (s.x.entry : Nat), .string s.x.interp, .slice s.At s.x.text.length s.ct, .slice s.Ad s.x.data.length s.cd, .int .u64 (s.x.more : Nat), .bool s.x.dynamic, .slice s.A1 s.x.dyn.needed.length s.c1, .string s.x.dyn.soname, .string s.x.dyn.run, .slice s.A2 s.x.dyn.syms.length s.c2, .slice s.A3 s.x.dyn.relas.length s.c3, .int .i64 s.x.apart] 31)).alloc (.cells #[.slice s.A1 s.x.dyn.needed.length s.c1, .string s.x.dyn.soname, .string s.x.dyn.run, .slice s.A2 s.x.dyn.syms.length s.c2, .slice s.A3 s.x.dyn.relas.length s.c3] 29)) := ((Below.refl _ _).alloc (Nat.le_refl _) _).alloc (by simp) _
  have hbx := (Blk.new w 31 s.l).alloc (.cells #[.slice s.A1 s.x.dyn.needed.length s.c1, .string s.x.dyn.soname, .string s.x.dyn.run, .slice s.A2 s.x.dyn.syms.length s.c2, .slice s.A3 s.x.dyn.relas.length s.c3] 29)
  have hbd := Blk.new (w.alloc (.cells #[.int .u16 (s.x.type : Nat), .int .u64 (s.x.entry : Nat), .string s.x.interp, .slice s.At s.x.text.length s.ct, .slice s.Ad s.x.data.length s.cd, .int .u64 (s.x.more : Nat), .bool s.x.dynamic, .slice s.A1 s.x.dyn.needed.length s.c1, .string s.x.dyn.soname, .string s.x.dyn.run, .slice s.A2 s.x.dyn.syms.length s.c2, .slice s.A3 s.x.dyn.relas.length s.c3, .int .i64 s.x.apart] 31)) 29 s.q.l
  have e1 : (w.alloc (.cells #[.int .u16 (s.x.type : Nat), .int .u64 (s.x.entry : Nat), .string s.x.interp, .slice s.At s.x.text.length s.ct, .slice s.Ad s.x.data.length s.cd, .int .u64 (s.x.more : Nat), .bool s.x.dynamic, .slice s.A1 s.x.dyn.needed.length s.c1, .string s.x.dyn.soname, .string s.x.dyn.run, .slice s.A2 s.x.dyn.syms.length s.c2, .slice s.A3 s.x.dyn.relas.length s.c3, .int .i64 s.x.apart] 31)).heap.size = w.heap.size + 1 := by simp
  rw [e1] at hbd
  have hx := h.below (hb1.mono hB)
  obtain ⟨a0, a1, a2, a3, a4, a5, a6, a7, a8, a9, a10, a11, a12⟩ := spec_cells (show Blk ((w.alloc (.cells #[.int .u16 (s.x.type : Nat), .int .u64 (s.x.entry : Nat), .string s.x.interp, .slice s.At s.x.text.length s.ct, .slice s.Ad s.x.data.length s.cd, .int .u64 (s.x.more : Nat), .bool s.x.dynamic, .slice s.A1 s.x.dyn.needed.length s.c1, .string s.x.dyn.soname, .string s.x.dyn.run, .slice s.A2 s.x.dyn.syms.length s.c2, .slice s.A3 s.x.dyn.relas.length s.c3, .int .i64 s.x.apart] 31)).alloc (.cells #[.slice s.A1 s.x.dyn.needed.length s.c1, .string s.x.dyn.soname, .string s.x.dyn.run, .slice s.A2 s.x.dyn.syms.length s.c2, .slice s.A3 s.x.dyn.relas.length s.c3] 29)) w.heap.size 31 s.l from hbx)
  have d0 : ((w.alloc (.cells #[.int .u16 (s.x.type : Nat), .int .u64 (s.x.entry : Nat), .string s.x.interp, .slice s.At s.x.text.length s.ct, .slice s.Ad s.x.data.length s.cd, .int .u64 (s.x.more : Nat), .bool s.x.dynamic, .slice s.A1 s.x.dyn.needed.length s.c1, .string s.x.dyn.soname, .string s.x.dyn.run, .slice s.A2 s.x.dyn.syms.length s.c2, .slice s.A3 s.x.dyn.relas.length s.c3, .int .i64 s.x.apart] 31)).alloc (.cells #[.slice s.A1 s.x.dyn.needed.length s.c1, .string s.x.dyn.soname, .string s.x.dyn.run, .slice s.A2 s.x.dyn.syms.length s.c2, .slice s.A3 s.x.dyn.relas.length s.c3] 29)).cell? ⟨w.heap.size + 1, 0, none⟩ = some (.slice s.A1 s.x.dyn.needed.length s.c1) := hbd.cell (i := 0) rfl
  have d1 : ((w.alloc (.cells #[.int .u16 (s.x.type : Nat), .int .u64 (s.x.entry : Nat), .string s.x.interp, .slice s.At s.x.text.length s.ct, .slice s.Ad s.x.data.length s.cd, .int .u64 (s.x.more : Nat), .bool s.x.dynamic, .slice s.A1 s.x.dyn.needed.length s.c1, .string s.x.dyn.soname, .string s.x.dyn.run, .slice s.A2 s.x.dyn.syms.length s.c2, .slice s.A3 s.x.dyn.relas.length s.c3, .int .i64 s.x.apart] 31)).alloc (.cells #[.slice s.A1 s.x.dyn.needed.length s.c1, .string s.x.dyn.soname, .string s.x.dyn.run, .slice s.A2 s.x.dyn.syms.length s.c2, .slice s.A3 s.x.dyn.relas.length s.c3] 29)).cell? ⟨w.heap.size + 1, 1, none⟩ = some (.string s.x.dyn.soname) := hbd.cell (i := 1) rfl
  have d2 : ((w.alloc (.cells #[.int .u16 (s.x.type : Nat), .int .u64 (s.x.entry : Nat), .string s.x.interp, .slice s.At s.x.text.length s.ct, .slice s.Ad s.x.data.length s.cd, .int .u64 (s.x.more : Nat), .bool s.x.dynamic, .slice s.A1 s.x.dyn.needed.length s.c1, .string s.x.dyn.soname, .string s.x.dyn.run, .slice s.A2 s.x.dyn.syms.length s.c2, .slice s.A3 s.x.dyn.relas.length s.c3, .int .i64 s.x.apart] 31)).alloc (.cells #[.slice s.A1 s.x.dyn.needed.length s.c1, .string s.x.dyn.soname, .string s.x.dyn.run, .slice s.A2 s.x.dyn.syms.length s.c2, .slice s.A3 s.x.dyn.relas.length s.c3] 29)).cell? ⟨w.heap.size + 1, 2, none⟩ = some (.string s.x.dyn.run) := hbd.cell (i := 2) rfl
  have d3 : ((w.alloc (.cells #[.int .u16 (s.x.type : Nat), .int .u64 (s.x.entry : Nat), .string s.x.interp, .slice s.At s.x.text.length s.ct, .slice s.Ad s.x.data.length s.cd, .int .u64 (s.x.more : Nat), .bool s.x.dynamic, .slice s.A1 s.x.dyn.needed.length s.c1, .string s.x.dyn.soname, .string s.x.dyn.run, .slice s.A2 s.x.dyn.syms.length s.c2, .slice s.A3 s.x.dyn.relas.length s.c3, .int .i64 s.x.apart] 31)).alloc (.cells #[.slice s.A1 s.x.dyn.needed.length s.c1, .string s.x.dyn.soname, .string s.x.dyn.run, .slice s.A2 s.x.dyn.syms.length s.c2, .slice s.A3 s.x.dyn.relas.length s.c3] 29)).cell? ⟨w.heap.size + 1, 3, none⟩ = some (.slice s.A2 s.x.dyn.syms.length s.c2) := hbd.cell (i := 3) rfl
  have d4 : ((w.alloc (.cells #[.int .u16 (s.x.type : Nat), .int .u64 (s.x.entry : Nat), .string s.x.interp, .slice s.At s.x.text.length s.ct, .slice s.Ad s.x.data.length s.cd, .int .u64 (s.x.more : Nat), .bool s.x.dynamic, .slice s.A1 s.x.dyn.needed.length s.c1, .string s.x.dyn.soname, .string s.x.dyn.run, .slice s.A2 s.x.dyn.syms.length s.c2, .slice s.A3 s.x.dyn.relas.length s.c3, .int .i64 s.x.apart] 31)).alloc (.cells #[.slice s.A1 s.x.dyn.needed.length s.c1, .string s.x.dyn.soname, .string s.x.dyn.run, .slice s.A2 s.x.dyn.syms.length s.c2, .slice s.A3 s.x.dyn.relas.length s.c3] 29)).cell? ⟨w.heap.size + 1, 4, none⟩ = some (.slice s.A3 s.x.dyn.relas.length s.c3) := hbd.cell (i := 4) rfl
  obtain ⟨m1, m2, m3, m4, m5, m6, m7, m8, m9, m10⟩ := hm
  have Hb1 := hide hb1
  have Hx := hide hx
  have H9 := hide m9
  have H10 := hide m10
  obtain ⟨L0, hL0⟩ : ∃ L0, large0 s.x = L0 := ⟨_, rfl⟩
  have HL0 := hide hL0
  have hLb : L0 ≤ 36028797018963968 := by rw [← hL0]; unfold large0; omega
  have hnv : ((s.x.text.length : Nat) : Int) + (s.x.data.length : Nat) + (s.x.interp.size : Nat) + (s.x.dyn.soname.size : Nat) + (s.x.dyn.run.size : Nat) + 40 * (s.x.dyn.syms.length : Nat) + 30 * (s.x.dyn.relas.length : Nat) + 16 * (s.x.dyn.needed.length : Nat) = (L0 : Int) := by rw [← hL0]; unfold large0; omega
  have Hnv := hide hnv
  show Calls _ _ #[.agg #[.int .u16 (s.x.type : Nat), .int .u64 (s.x.entry : Nat), .string s.x.interp, .slice s.At s.x.text.length s.ct, .slice s.Ad s.x.data.length s.cd, .int .u64 (s.x.more : Nat), .bool s.x.dynamic, .slice s.A1 s.x.dyn.needed.length s.c1, .string s.x.dyn.soname, .string s.x.dyn.run, .slice s.A2 s.x.dyn.syms.length s.c2, .slice s.A3 s.x.dyn.relas.length s.c3, .int .i64 s.x.apart]] w _
  clear hb1 hbx hbd e1 hx h m9 m10 hL0 hnv
  go_enter Tryz.func6, Tryz.ntmps6
  go_upto_region 3 with fail
  obtain ⟨W, hW⟩ : ∃ W, ((w.alloc (.cells #[.int .u16 (s.x.type : Nat), .int .u64 (s.x.entry : Nat), .string s.x.interp, .slice s.At s.x.text.length s.ct, .slice s.Ad s.x.data.length s.cd, .int .u64 (s.x.more : Nat), .bool s.x.dynamic, .slice s.A1 s.x.dyn.needed.length s.c1, .string s.x.dyn.soname, .string s.x.dyn.run, .slice s.A2 s.x.dyn.syms.length s.c2, .slice s.A3 s.x.dyn.relas.length s.c3, .int .i64 s.x.apart] 31)).alloc (.cells #[.slice s.A1 s.x.dyn.needed.length s.c1, .string s.x.dyn.soname, .string s.x.dyn.run, .slice s.A2 s.x.dyn.syms.length s.c2, .slice s.A3 s.x.dyn.relas.length s.c3] 29)) = W := ⟨_, rfl⟩
  rw [hW] at d0 d3
  have Hb1' : Hid (Below w.heap.size w W) := hide (by rw [← hW]; exact unhide Hb1)
  have Hx' : Hid (XqM W B s) := hide (by rw [← hW]; exact unhide Hx)
  rw [unhide Hnv, hW]
  obtain ⟨N, hN⟩ : ∃ N, s.x.dyn.needed.length = N := ⟨_, rfl⟩
  obtain ⟨M, hM⟩ : ∃ M, s.x.dyn.syms.length = M := ⟨_, rfl⟩
  obtain ⟨A1, hA1⟩ : ∃ A, s.A1 = A := ⟨_, rfl⟩
  obtain ⟨A2, hA2⟩ : ∃ A, s.A2 = A := ⟨_, rfl⟩
  rw [hN, hA1] at d0
  rw [hM, hA2] at d3
  have HN := hide hN
  have HM := hide hM
  have HrN : Hid (Rd W B 1 A1 N (s.x.dyn.needed.map Value.string)) := hide (by have h9 := (unhide Hx').dyn.needed; rw [show s.q.A1 = s.A1 from rfl, hA1, show s.q.d.needed = s.x.dyn.needed from rfl, hN] at h9; exact h9)
  have HrM : Hid (Rd W B 5 A2 M (symC s.x.dyn.syms)) := hide (by have h9 := (unhide Hx').dyn.syms; rw [show s.q.A2 = s.A2 from rfl, hA2, show s.q.d.syms = s.x.dyn.syms from rfl, hM] at h9; exact h9)
  have hNb : N ≤ 140737488355328 := by omega
  have hMb : M ≤ 140737488355328 := by omega
  clear hW hN hM hA1 hA2 d1 d2 d4 a0 a1 a2 a3 a4 a5 a6 a7 a8 a9 a10 a11 a12 Hb1 Hx Hnv m1 m2 m3 m4 m5 m6 m7 m8
  go_upto_block 0 with fail
  go_cut [4] (fun nv wx => ∃ n : Nat, nv = .int .i64 n ∧ n ≤ 144115188075855872 ∧ (n ≤ 524288 → L0 + sumN s.x.dyn.needed = n) ∧ W = wx)
  case first =>
    go_wp2_with fail
    go_loopg [4, 5] N (fun gk nv iv wr => ∃ i n : Nat, gk = N - i ∧ i ≤ N ∧ iv = .int .i64 i ∧ nv = .int .i64 n ∧ n ≤ 144115188075855872 ∧ (L0 + sumN (s.x.dyn.needed.take i) = n) ∧ W = wr)
    case atStart => exact ⟨0, _, by omega, by omega, rfl, rfl, by omega, by simp [sumN], rfl⟩
    case round =>
    obtain ⟨i, n, hgk, hi, rfl, rfl, hn, hsum, rfl⟩ := hrel
    have Hgk := hide hgk
    have Hsum := hide hsum
    clear hgk hsum
    by_cases hlt : i < N
    · have ilt : (i : Int) < (N : Int) := by omega
      by_cases hle : n ≤ 524288
      · have nle : (n : Int) ≤ 524288 := by omega
        obtain ⟨x, hx⟩ : ∃ x, s.x.dyn.needed[i]? = some x := ⟨_, List.getElem?_eq_getElem (by rw [unhide HN]; exact hlt)⟩
        have hxs := (unhide H9) x (List.mem_of_getElem? hx)
        obtain ⟨b1, o1, hA, -, st⟩ := (unhide HrN).at_ (k := i) (u := .string x) (by simp [hx])
        subst hA
        have Hs := hide (sumN_next hx)
        have hn2 : n + x.size ≤ 144115188075855872 := by omega
        clear hx hxs
        go_wp2_with fail
        go_roundg (N - (i + 1))
        case measure => have := unhide Hgk; omega
        case rel => exact ⟨i + 1, n + x.size, rfl, by omega, by go_num, by go_num, hn2, by have := unhide Hs; have := unhide Hsum; omega, rfl⟩
      · have nle : ¬ (n : Int) ≤ 524288 := by omega
        go_wp2_with fail
        go_meet
        case rel => exact ⟨n, rfl, hn, fun e => absurd e hle, rfl⟩
    · have ilt : ¬ (i : Int) < (N : Int) := by omega
      have hiN : i = N := by omega
      have Hfin : Hid (n ≤ 524288 → L0 + sumN s.x.dyn.needed = n) := hide (by have h9 := unhide Hsum; rw [List.take_of_length_le (by rw [unhide HN, hiN]; exact Nat.le_refl _)] at h9; exact fun _ => h9)
      clear hiN
      go_wp2_with fail
      go_meet
      case rel => exact ⟨n, rfl, hn, unhide Hfin, rfl⟩
  case rest =>
    obtain ⟨n1, rfl, hn1, hc1, rfl⟩ := hcut
    have Hc1 := hide hc1
    clear hc1
    go_upto_block 2 with fail
    go_cut [4] (fun nv wx => ∃ n : Nat, nv = .int .i64 n ∧ n ≤ 144115188075855872 ∧ (n ≤ 524288 → n1 + sumN (Mk.names s.x.dyn.syms) = n) ∧ W = wx)
    case first =>
      go_wp2_with fail
      go_loopg [4, 6] M (fun gk nv iv wr => ∃ i n : Nat, gk = M - i ∧ i ≤ M ∧ iv = .int .i64 i ∧ nv = .int .i64 n ∧ n ≤ 144115188075855872 ∧ (n1 + sumN ((Mk.names s.x.dyn.syms).take i) = n) ∧ W = wr)
      case atStart => exact ⟨0, _, by omega, by omega, rfl, rfl, hn1, by simp [sumN], rfl⟩
      case round =>
      obtain ⟨i, n, hgk, hi, rfl, rfl, hn, hsum, rfl⟩ := hrel
      have Hgk := hide hgk
      have Hsum := hide hsum
      clear hgk hsum
      by_cases hlt : i < M
      · have ilt : (i : Int) < (M : Int) := by omega
        by_cases hle : n ≤ 524288
        · have nle : (n : Int) ≤ 524288 := by omega
          obtain ⟨y, hy⟩ : ∃ y, s.x.dyn.syms[i]? = some y := ⟨_, List.getElem?_eq_getElem (by rw [unhide HM]; exact hlt)⟩
          obtain ⟨x, hxe⟩ : ∃ x, y.name = x := ⟨_, rfl⟩
          have hxs := (unhide H10) y (List.mem_of_getElem? hy)
          have hx : (Mk.names s.x.dyn.syms)[i]? = some x := by unfold Mk.names; rw [List.getElem?_map, hy, ← hxe]; rfl
          obtain ⟨b1, o1, hA, -, st, -⟩ := mksym_at (unhide HrM) hy
          rw [hxe] at st hxs
          subst hA
          clear hy hxe
          have Hs := hide (sumN_next hx)
          have hn2 : n + x.size ≤ 144115188075855872 := by omega
          clear hx hxs
          go_wp2_with fail
          go_roundg (M - (i + 1))
          case measure => have := unhide Hgk; omega
          case rel => exact ⟨i + 1, n + x.size, rfl, by omega, by go_num, by go_num, hn2, by have := unhide Hs; have := unhide Hsum; omega, rfl⟩
        · have nle : ¬ (n : Int) ≤ 524288 := by omega
          go_wp2_with fail
          go_meet
          case rel => exact ⟨n, rfl, hn, fun e => absurd e hle, rfl⟩
      · have ilt : ¬ (i : Int) < (M : Int) := by omega
        have hiN : i = M := by omega
        have Hfin : Hid (n ≤ 524288 → n1 + sumN (Mk.names s.x.dyn.syms) = n) := hide (by have h9 := unhide Hsum; rw [List.take_of_length_le (by rw [show (Mk.names s.x.dyn.syms).length = M from by unfold Mk.names; rw [List.length_map]; exact unhide HM, hiN]; exact Nat.le_refl _)] at h9; exact fun _ => h9)
        clear hiN
        go_wp2_with fail
        go_meet
        case rel => exact ⟨n, rfl, hn, unhide Hfin, rfl⟩
    case rest =>
      obtain ⟨n2, rfl, hn2, hc2, rfl⟩ := hcut
      have Hc2 := hide hc2
      clear hc2
      by_cases hbig : 524288 < n2
      · have hbi : (524288 : Int) < (n2 : Int) := by omega
        go_wp2_with fail
        go_ret
        exact ⟨true, by first | rfl | simp [hbig], unhide Hb1', fun e => by cases e⟩
      · have hbi : ¬ (524288 : Int) < (n2 : Int) := by omega
        go_wp2_with fail
        go_ret
        refine ⟨false, by first | rfl | simp [hbig], unhide Hb1', fun _ => ?_⟩
        have h2 := (unhide Hc2) (by omega)
        have h1 := (unhide Hc1) (by omega)
        unfold LgOk
        rw [unhide HL0]
        omega
end Go.Proofs.YtnbecdahfgkffaaGreat
namespace Go.Proofs.YtnbecdahfgkffaaGreat
open Go.RowKit
set_option maxRecDepth 100000 in
set_option maxHeartbeats 1000000 in
theorem set_yes (g0 : Nat) (m c B : Nat) (b : List UInt8) (p s x : Nat) (w : World) (hB : B ≤ w.heap.size) (hb : Rd w B 1 (some ⟨g0, 0, none⟩) m (bys b)) (hm : m ≤ 4294967296) (hs : s = 1 ∨ s = 2 ∨ s = 4 ∨ s = 8) (h : p + s ≤ m) (hx : x < 18446744073709551616) :
    Calls Tryz.prog 113 #[.slice (some ⟨g0, 0, none⟩) m c, .int .u64 p, .int .i64 s, .int .u64 x] w fun e w' => ∃ A' c', e = .returned (.tuple #[.slice A' m c', .int .i64 0]) ∧ w'.ownsRow w.heap.size 5 1 (.slice A' m c') m (bys (setK b p x s)) ∧ Below w.heap.size w w' := by
  have hbl : b.length = m := by simpa [bys] using hb.len1
  have hs8 : s ≤ 8 := by omega
  have hs0 : 0 < s := by omega
  have Hck := hide (check_yes (some ⟨g0, 0, none⟩) m c p s w (by unfold maxLen; omega) (by omega) (by omega) (by omega) (by omega))
  have Hb := hide hb
  have Hbl := hide hbl
  clear hbl hb hs
  go_enter Tryz.func113, Tryz.ntmps113
  go_wp2_with (first
    | (go_at_call 119; refine (unhide Hck).mono ?_; rintro e w1 ⟨rfl, hb1⟩; have Hb1 := hide hb1; clear hb1)
    | (go_at_call 125; refine (clone_any _ m c B b _ (Nat.le_trans hB (unhide Hb1).size) ((unhide Hb).below ((unhide Hb1).mono hB)) hm (by simp)).mono ?_; rintro e w2 ⟨A', c', rfl, hown, hb2⟩; obtain ⟨g, rfl, hg1, hg2⟩ := own_some hown (by omega); have Hown := hide (own_base hown (unhide Hb1).size); have Hb2 := hide ((unhide Hb1).trans (hb2.mono (unhide Hb1).size)); have hg3 := (unhide Hb1).size; clear hown hb2))
  go_loopg [23] s (fun gk i wr => ∃ k : Nat, gk = s - k ∧ k ≤ s ∧ i = .int .i64 k ∧ wr.ownsRow w.heap.size 5 1 (.slice (some ⟨g, 0, none⟩) m c') m (bys (setK b p x k)) ∧ Below w.heap.size w wr)
  case atStart => exact ⟨0, by omega, by omega, rfl, unhide Hown, unhide Hb2⟩
  case round =>
  clear Hown Hb2
  obtain ⟨k, hgk, hk, rfl, hown, hb2⟩ := hrel
  have Hgk := hide hgk
  have Hown := hide hown
  have Hb2 := hide hb2
  clear hown hb2 hgk
  rcases Nat.lt_or_ge k s with hlt | hge
  case inr =>
    obtain rfl : k = s := by omega
    go_wp2
    go_ret2
    exact ⟨_, _, rfl, unhide Hown, unhide Hb2⟩
  obtain ⟨z, hz⟩ : ∃ z, (setK b p x k)[p + k]? = some z := ⟨_, List.getElem?_eq_getElem (by rw [setK_len, unhide Hbl]; omega)⟩
  have hset := own_set (i := p + k) (unhide Hown) (.int .u8 (UInt8.ofNat (x / 256 ^ k % 256)).toNat)
  rw [bys_set] at hset
  have hc2 := own_cell (unhide Hown) (bys_at hz)
  have hf2 := own_free (unhide Hown) (p + k)
  obtain ⟨hg3, hg4, hg5⟩ := own_at (unhide Hown)
  have hy3 : (UInt8.ofNat (x / 256 ^ k % 256)).toNat = x / 256 ^ k % 256 := by simp
  rw [show (setK b p x k).set (p + k) (UInt8.ofNat (x / 256 ^ k % 256)) = setK b p x (k + 1) from rfl, hy3] at hset
  have Hset := hide hset
  clear hset hy3 hz
  go_wp2
  go_roundg (s - (k + 1))
  case measure => have := unhide Hgk; omega
  case rel =>
    refine ⟨k + 1, rfl, by omega, by go_num, ?_, (unhide Hb2).setCell hg3 _⟩
    have e : ((x : Int) / 2 ^ (8 * k) % 256) = ((x / 256 ^ k % 256 : Nat) : Int) := by
      have h2 : (256 : Nat) ^ k = 2 ^ (8 * k) := by rw [Nat.pow_mul]
      rw [h2]
      push_cast
      rfl
    rw [e]
    exact unhide Hset
end Go.Proofs.YtnbecdahfgkffaaGreat
namespace Go.Proofs.YtnbecdahfgkffaaGreat
open Go.RowKit
section
variable {P : Program} {t e : TypeId} {size bytes : Nat}
def KeptK (P : Program) (e : TypeId) (size : Nat) (w w' : World) (A : Option Addr) (n c : Nat) (A' : Option Addr) (c' : Nat) : Prop :=
  ((A' = A ∧ c' = c) ∨ ∀ k, bk A' = some k → w.heap.size ≤ k) ∧ ∀ n0 base0 xs0, n0 ≤ n → w.ownsRow base0 e size (.slice A n0 c) n0 xs0 → w'.ownsRow base0 e size (.slice A n0 c) n0 xs0
theorem run_app_keep (T : SlTy P t e size bytes) (w w' : World) (base : Nat) (ty : TypeId) (A : Option Addr) (n c : Nat) (xs : List Value) (hown : w.ownsRow base e size (.slice A n c) n xs)
    (B : Nat) (As : Option Addr) (m cs : Nat) (news : List Value) (hr : Rd w B size As m news) (h1 : ∀ u ∈ news, u.oneCell' = true) (hm : 0 < m)
    (hb : (n + m) * bytes ≤ 140737488355328) (hbase : base ≤ w.heap.size) (A' : Option Addr) (c' : Nat)
    (hrun : (Builtin.append_ #[t, t] ty #[.slice A n c, .slice As m cs]).run P w = .ok (.slice A' (n + m) c') w') : KeptK P e size w w' A n c A' c' := by
  obtain ⟨ht, ⟨i, z, hi, hz, hs, hby, hzs⟩, hsz, hbp⟩ := T
  have h63 : n + m ≤ maxLen := by
    have : (n + m) * 1 ≤ (n + m) * bytes := Nat.mul_le_mul_left _ hbp
    unfold maxLen
    omega
  have hsmall : n + m ≤ 9223372036854775807 := by simp only [maxLen] at h63; omega
  subst hs hby
  have hnl := hr.1
  obtain ⟨ad, rfl, hcells⟩ : ∃ ad, As = some ad ∧ ∀ j u, news[j]? = some u → w.cell? (ad.add j) = some u := by
    rcases hr.2 with rfl | ⟨b, off, rfl, _, hc⟩
    · simp only [List.length_nil] at hnl
      have := Nat.mul_pos hm hsz
      omega
    · exact ⟨_, rfl, fun j u hu => by rw [Addr.add_lit]; exact hc j u hu⟩
  rcases hown.2 with ⟨e1, hn0⟩ | ⟨g, cap, cur, e1, hbg, hg, hnc, hcm, hcs, htake⟩
  · subst hn0
    injection e1 with e1 e2 e3
    subst e1 e3
    have hx : xs = [] := List.eq_nil_of_length_eq_zero (by simpa using hown.1)
    subst hx
    rw [run_append_nil (P := P) w t ty e i z ht hi hz ad m cs news hnl hcells (by omega) (by omega) (by have hb := hb; simp only [Nat.zero_add] at hb; omega)] at hrun
    injection hrun with e4 e5
    injection e4 with e4 e6 e7
    subst e4
    refine ⟨.inr fun k hk => by injection hk with hk; have h9 : w.heap.size = k := hk; omega, fun n0 base0 xs0 h0 h2 => ?_⟩
    have : n0 = 0 := by omega
    subst this
    have : xs0 = [] := List.eq_nil_of_length_eq_zero (by simpa using h2.1)
    subst this
    exact World.ownsRow_nil _ _ _ _
  · injection e1 with e1 e2 e3
    subst e1 e3
    by_cases hroom : n + m ≤ c
    · have hfit : n * i.size + news.length ≤ cur.size := by rw [hnl, hcs, ← Nat.add_mul]; exact Nat.mul_le_mul_right _ hroom
      rw [run_append_room (P := P) w t ty e i ht hi g n c cur hg ad m cs news hnl hcells h1 hroom hfit] at hrun
      injection hrun with e4 e5
      injection e4 with e4 e6 e7
      subst e4 e7 e5
      refine ⟨.inl ⟨rfl, rfl⟩, fun n0 base0 xs0 h0 h2 => ⟨h2.1, ?_⟩⟩
      rcases h2.2 with ⟨e8, -⟩ | ⟨g2, cap2, cur2, e8, hbg2, hg2, hnc2, hcm2, hcs2, htake2⟩
      · injection e8 with e8; cases e8
      · injection e8 with e8 e9 e10
        injection e8 with e8
        injection e8 with e8
        subst e8 e10
        rw [hg] at hg2
        injection hg2 with hg2
        injection hg2 with hg2
        subst hg2
        refine .inr ⟨g, c, _, rfl, hbg2, setRow_heap w g cur _ e _ hg, hnc2, hcm2, ?_, ?_⟩
        · simp only [List.size_toArray, List.length_append, List.length_take, List.length_drop, Array.length_toList]
          omega
        · have h3 : n0 * i.size ≤ n * i.size := Nat.mul_le_mul_right _ h0
          rw [← htake2]
          simp only [List.append_assoc]
          rw [List.take_append_of_le_length (by rw [List.length_take, Array.length_toList]; omega), List.take_take, Nat.min_eq_left h3]
    · have holds : ∀ j u, xs[j]? = some u → w.cell? ((⟨g, 0, none⟩ : Addr).add j) = some u := hown.cells (g := g) rfl
      rw [run_append_grow (P := P) w t ty e i z ht hi hz ⟨g, 0, none⟩ n c xs hown.1 holds ad m cs news hnl hcells (by omega) (by omega) (growslice_fits (by omega) hb)] at hrun
      injection hrun with e4 e5
      injection e4 with e4 e6 e7
      subst e4 e5
      refine ⟨.inr fun k hk => by injection hk with hk; have h9 : w.heap.size = k := hk; omega, fun n0 base0 xs0 h0 h2 => ?_⟩
      exact own_below h2 ((below_drew' (Below.refl _ _)).alloc (Nat.le_refl _) _)
theorem wpList_appKk (T : SlTy P t e size bytes) {w : World} {ops : Array Oper} {rest : List Oper} {o : Oper} {a : Act} {Q : Exit → Act → World → Prop} (hgd : o.guard = none) (s x : Operand)
    (ho : o.op = .call { callee := .builtin .append, args := #[s, x], argTypes := #[t, t] })
    (base : Nat) (A : Option Addr) (n c : Nat) (xs : List Value) (hs : a.eval s = .slice A n c) (hown : w.ownsRow base e size (.slice A n c) n xs)
    (B : Nat) (As : Option Addr) (m cs : Nat) (news : List Value) (hx : a.eval x = .slice As m cs) (hr : Rd w B size As m news) (h1 : ∀ u ∈ news, u.oneCell' = true) (hm : 0 < m)
    (hb : (n + m) * bytes ≤ 140737488355328) (hbase : base ≤ w.heap.size)
    (h : ∀ A' c' w', w'.ownsRow base e size (.slice A' (n + m) c') (n + m) (xs ++ news) → w.grownBy w' (Value.slice A n c).ownBlock → (∀ k, (Value.slice A' (n + m) c').ownBlock = some k → (Value.slice A n c).ownBlock = some k ∨ w.heap.size ≤ k) → KeptK P e size w w' A n c A' c' → wpList P ops Q rest (a.put o.dst (.slice A' (n + m) c')) w') : wpList P ops Q (o :: rest) a w := by
  refine wpList_plain hgd fun K hK => ?_
  obtain ⟨v', w', hrun, h2, h3, h4⟩ := run_app T w base o.type (.slice A n c) n xs hown B As m cs news hr h1 hb hbase
  obtain ⟨A', c', rfl⟩ := own_form h2
  have h5 := run_app_keep T w w' base o.type A n c xs hown B As m cs news hr h1 hm hb hbase A' c' hrun
  unfold Oper.wp execOp
  simp only [ho, resolve, invoke, builtin, Sem.run_bind, Sem.run_pure, Result.andThen_ok, List.map_toArray, List.map_cons, List.map_nil, hs, hx, hrun]
  exact hK _ _ (h A' c' w' h2 h3 h4 h5)
structure OldK (e : TypeId) (size : Nat) (w : World) (base : Nat) (A : Option Addr) (n c : Nat) (xs : List Value) (A1 : Option Addr) (n1 c1 : Nat) : Prop where
  own : w.ownsRow base e size (.slice A n c) n xs
  at_ : (A1 = A ∧ c1 = c ∧ n ≤ n1) ∨ ∀ k, bk A = some k → bk A1 ≠ some k
variable {w w' : World} {base n c n1 c1 n2 c2 : Nat} {A A1 A2 : Option Addr} {xs : List Value}
theorem OldK.refl (h : w.ownsRow base e size (.slice A n c) n xs) : OldK e size w base A n c xs A n c := ⟨h, .inl ⟨rfl, rfl, Nat.le_refl _⟩⟩
theorem OldK.below (h : OldK e size w base A n c xs A1 n1 c1) (hb : Below w.heap.size w w') : OldK e size w' base A n c xs A1 n1 c1 := ⟨own_below h.own hb, h.at_⟩
theorem OldK.set (h : OldK e size w base A n c xs A1 n1 c1) {p : Addr} (hp : bk A ≠ some p.block) (u : Value) : OldK e size (w.setCell p u) base A n c xs A1 n1 c1 := ⟨own_setG h.own hp u, h.at_⟩
theorem OldK.app (h : OldK e size w base A n c xs A1 n1 c1) (hn : n1 ≤ n2) (hg : w.grownBy w' (Value.slice A1 n1 c1).ownBlock) (hat : ∀ k, (Value.slice A2 n2 c2).ownBlock = some k → (Value.slice A1 n1 c1).ownBlock = some k ∨ w.heap.size ≤ k) (hk : KeptK P e size w w' A1 n1 c1 A2 c2) : OldK e size w' base A n c xs A2 n2 c2 := by
  rw [own_bk] at hg
  simp only [own_bk] at hat
  have hlt := own_bklt h.own
  rcases h.at_ with ⟨rfl, rfl, h1⟩ | h1
  · refine ⟨hk.2 n base xs h1 h.own, ?_⟩
    rcases hk.1 with ⟨h2, h3⟩ | h2
    · exact .inl ⟨h2, h3, by omega⟩
    · exact .inr fun k e1 e2 => by have := h2 k e2; have := (hlt k e1).2; omega
  · refine ⟨own_grownG h.own hg h1, .inr fun k e1 e2 => ?_⟩
    rcases hat k e2 with h2 | h2
    · exact h1 k e1 h2
    · have := (hlt k e1).2; omega
end
end Go.Proofs.YtnbecdahfgkffaaGreat
namespace Go.Proofs.YtnbecdahfgkffaaGreat
open Go.RowKit
theorem lbs_len' (k : Nat) (l : List Nat) : (Mk.lbs k l).length = k * l.length := by
  induction l with
  | nil => simp [Mk.lbs]
  | cons x r ih => rw [Mk.lbs, List.length_append, Cl.lb_len, ih, List.length_cons, Nat.mul_succ]; omega
theorem pad_lt8 (f : List UInt8) : (Mk.pad 8 f).length < f.length + 8 := by
  unfold Mk.pad
  rw [List.length_append, zs_len]
  have := gap_lt (m := 8) (n := f.length) (by omega)
  omega
set_option maxRecDepth 100000 in
set_option maxHeartbeats 8000000 in
theorem pnumber_any (t : TypeId) (g o : Nat) (l : List Value) (base : Nat) (A : Option Addr) (n c : Nat) (xs : List UInt8) (kv ov m cv s : Nat) (vs : List Nat) (w : World) (h : FiM w t g o l base A n c xs) (hbase : base ≤ w.heap.size)
    (hr : Rd w w.heap.size 1 (some ⟨kv, ov, none⟩) m (u64s vs)) (hbg : kv ≠ g) (hbA : bk A ≠ some kv) (hv : ∀ v ∈ vs, v < 18446744073709551616) (hs : s = 1 ∨ s = 2 ∨ s = 4 ∨ s = 8) (hn : n ≤ 17592186044416) (hm : m ≤ 1048576) :
    Calls Tryz.prog 72 #[.pointer (some ⟨g, o, none⟩), .int .i64 s, .slice (some ⟨kv, ov, none⟩) m cv] w fun e w' => e = .returned (.tuple #[]) ∧ ∃ A' c', FiE t g o l base A w w' A' (n + s * m) c' (xs ++ Mk.lbs s vs) ∧ OldK 5 1 w' base A n c (bys xs) A' (n + s * m) c' := by
  have hvl : vs.length = m := by have := hr.1; simp [u64s] at this; omega
  have hs8 : s ≤ 8 := by omega
  have hsp : 0 < s := by omega
  obtain ⟨i, hi, hz0, hz1, hz2⟩ := info_parts byteInfo
  have Hi := hide hi
  have Hz0 := hide hz0
  have Hz1 := hide hz1
  have Hz2 := hide hz2
  have H := hide h
  have Hr := hide hr
  have Hbg := hide hbg
  have HbA := hide hbA
  have Hv := hide hv
  have Hs := hide hs
  have Hvl := hide hvl
  clear h hr hbg hbA hv hs hvl hi hz0 hz1 hz2
  go_enter Tryz.func72, Tryz.ntmps72
  go_wp2_with fail
  go_loopg [12] m (fun gk iv wr => ∃ (j : Nat) (A1 : Option Addr) (c1 : Nat), gk = m - j ∧ j ≤ m ∧ iv = .int .i64 j ∧ FiE t g o l base A w wr A1 (n + s * j) c1 (xs ++ Mk.lbs s (vs.take j)) ∧ OldK 5 1 wr base A n c (bys xs) A1 (n + s * j) c1)
  case atStart => exact ⟨0, A, c, by omega, by omega, rfl, by simpa [Mk.lbs] using FiE.refl (unhide H), OldK.refl (unhide H).row⟩
  case round =>
  obtain ⟨j, A1, c1, hgk, hj, rfl, hE, hK⟩ := hrel
  have hne := (unhide H).ne
  have Hne := hide hne
  have HK := hide hK
  have Hgk := hide hgk
  have hsz := hE.size
  have HE := hide hE
  clear hgk hE hK hne
  rcases Nat.lt_or_ge j m with hlt | hge
  · obtain ⟨x, hx⟩ : ∃ x, vs[j]? = some x := ⟨_, List.getElem?_eq_getElem (by rw [unhide Hvl]; exact hlt)⟩
    have hx64 := (unhide Hv) x (List.mem_of_getElem? hx)
    obtain ⟨b1, o1, hA1, hb1, st⟩ := ((unhide HE).rdK (unhide Hr) (Nat.le_refl _) (fun e => (unhide Hbg) (by injection e)) (fun k e => by injection e with e; exact e ▸ unhide HbA)).at_ (k := j) (u := .int .u64 (x : Nat)) (by simp [u64s, hx])
    injection hA1 with hA1
    injection hA1 with hA1 hA2
    subst hA1 hA2
    have Hx := hide hx
    have hsj : s * j ≤ 8388608 := Nat.le_trans (Nat.mul_le_mul hs8 (by omega)) (by omega : 8 * 1048576 ≤ 8388608)
    have hji : (j : Int) < (m : Int) := by omega
    clear hx
    go_wp2_with (at_make; refine wpList_make_full _ rfl _ _ 24 rfl wr.heap.size 5 i (.int .u8 0) 1 Tryz.underlying24 (unhide Hi) (unhide Hz0) (unhide Hz1) _ _ _ _ s rfl (by rfl) rfl (by rfl) (by rw [unhide Hz2]; omega) (by unfold maxLen; omega) (Nat.le_refl _) ?_; intro w1 hown hgrow; rw [zerosN] at hown; have hb1 := (Below.refl wr.heap.size wr).grown hgrow (Nat.le_refl _) (fun k hk => by cases hk); have Hown := hide hown; have Hb1 := hide hb1; clear hown hgrow hb1)
    have ho := unhide Hown
    have KS := hide (set_yes wr.heap.size s s w1.heap.size (List.replicate s 0) 0 s x w1 (Nat.le_refl _) (Rd.of_own ho) (by omega) (unhide Hs) (by omega) hx64)
    clear ho
    refine (unhide KS).mono ?_
    rintro e w2 ⟨A2, c2, rfl, ho2, hb2⟩
    rw [setK_all] at ho2
    have hs1 := (unhide Hb1).size
    have hb12 := (unhide Hb1).trans (hb2.mono hs1)
    have hE2 := (unhide HE).then_ hb12
    have y0 := hE2.m.cell
    have z0 := hE2.m.blk.free o
    have HK2 := hide ((unhide HK).below hb12)
    have HE2 := hide hE2
    have Ho2 := hide ho2
    have hs2 := hb12.size
    clear KS ho2 hb2 hb12 hE2 HE
    go_wp2_with (at_builtin; refine wpList_appKk byteTy rfl _ _ rfl base A1 (n + s * j) c1 _ rfl (unhide HE2).m.row w2.heap.size A2 s c2 (bys (Cl.lb x s)) rfl (Rd.of_own (unhide Ho2)) (bys_one _) hsp (by omega) (by omega) ?_; intro A3 c3 w3 ho3 hg3 ha3 hk3; have HK3 := hide (((unhide HK2).app (by omega) hg3 ha3 hk3).set (p := ⟨g, o, none⟩) (unhide Hne) (.slice A3 (n + s * j + s) c3)); clear hk3; obtain ⟨hb3, hE3⟩ := (unhide HE2).more (Below.refl _ _) (show Grew _ w3 base _ _ (n + s * j + s) (xs ++ Mk.lbs s (vs.take j) ++ Cl.lb x s) from ⟨by rw [bys_app]; exact ho3, hg3, ha3⟩); have z2 := hb3.cell (unhide HE2).m.at_; have z3 := hb3.free o; have HE3 := hide hE3; clear ho3 hg3 ha3 hb3 hE3 y0 z0)
    go_roundg (m - (j + 1))
    case measure => have := unhide Hgk; omega
    case rel => exact ⟨j + 1, A3, c3, rfl, by omega, by go_num, by
      have h9 := unhide HE3
      rw [List.take_add_one, unhide Hx, Option.toList_some, lbs_snoc, ← List.append_assoc, Nat.mul_succ, ← Nat.add_assoc]
      exact h9, by rw [Nat.mul_succ, ← Nat.add_assoc]; exact unhide HK3⟩
  · obtain rfl : j = m := by omega
    have ige : ¬ (j : Int) < (j : Int) := by omega
    have hE := unhide HE
    rw [List.take_of_length_le (by rw [unhide Hvl]; omega)] at hE
    have HE3 := hide hE
    clear hE HE
    go_wp2_with fail
    go_end0
    exact ⟨rfl, A1, c1, unhide HE3, unhide HK⟩
theorem modTm (a n r : Nat) (h : a % n = r) : (a : Int).tmod (n : Int) = (r : Int) := by rw [modT, h]
set_option maxRecDepth 100000 in
set_option maxHeartbeats 8000000 in
theorem ppad_any (t : TypeId) (g o : Nat) (l : List Value) (base : Nat) (A : Option Addr) (n c m : Nat) (xs : List UInt8) (w : World) (h : FiM w t g o l base A n c xs) (hbase : base ≤ w.heap.size) (hn : n ≤ 17592186044416) (hm0 : 0 < m) (hm : m ≤ 4096) :
    Calls Tryz.prog 31 #[.pointer (some ⟨g, o, none⟩), .int .i64 m] w fun e w' => e = .returned (.tuple #[]) ∧ ∃ A' n' c', FiE t g o l base A w w' A' n' c' (Mk.pad m xs) := by
  have hlen := h.len
  have hpe : Mk.pad m xs = xs ++ Mk.zs (Mk.gap m n) := by unfold Mk.pad; rw [hlen]
  rw [hpe]
  have hgl : Mk.gap m n < m := gap_lt hm0
  have hgn : ∀ k, k < Mk.gap m n → (n + k) % m ≠ 0 := fun k hk => gap_next hm0 hk
  have hge : (n + Mk.gap m n) % m = 0 := gap_end hm0
  generalize Mk.gap m n = G at *
  have H := hide h
  have Hgn := hide hgn
  have Hge := hide hge
  have hm1 : ((m : Nat) : Int) ≠ 0 := by omega
  clear h hgn hge hpe hlen
  go_enter Tryz.func31, Tryz.ntmps31
  go_wp2_with fail
  go_loopg [] G (fun gk wr => ∃ (k : Nat) (A1 : Option Addr) (c1 : Nat), gk = G - k ∧ k ≤ G ∧ FiE t g o l base A w wr A1 (n + k) c1 (xs ++ Mk.zs k))
  case atStart => exact ⟨0, A, c, by omega, by omega, by simpa [Mk.zs] using FiE.refl (unhide H)⟩
  case round =>
  obtain ⟨k, A1, c1, hgk, hk, hE⟩ := hrel
  have Hgk := hide hgk
  have y0 := hE.m.cell
  have hsz := hE.size
  have HE := hide hE
  clear hgk hE
  rcases Nat.lt_or_ge k G with hlt | hge
  · obtain ⟨r, hr⟩ : ∃ r, (n + k) % m = r := ⟨_, rfl⟩
    have hr0 : ((r : Int) != 0) = true := by
      have := (unhide Hgn) k hlt
      rw [bne_iff_ne]
      omega
    have hrm := modTm _ _ _ hr
    obtain ⟨v, hv⟩ : ∃ v, n + k = v := ⟨_, rfl⟩
    rw [hv] at y0 hrm
    have hE := unhide HE
    rw [hv] at hE
    have HE2 := hide hE
    have Hv := hide hv
    have hv2 : v ≤ 17592186048512 := by omega
    clear HE hE hr hv
    go_wp2_with (at_builtin; refine wpList_app byteTy rfl _ _ rfl base (.slice A1 v c1) v _ rfl ((unhide HE2).m.row.alloc (.cells #[.int .u8 0] 5)) (wr.heap.size + 1) (some ⟨wr.heap.size, 0, none⟩) 1 1 (bys [0]) rfl (litA _) (bys_one _) (by omega) (by simp; omega) ?_; intro A2 c2 w2 ho2 hg2 ha2; obtain ⟨hb2, hE2⟩ := (unhide HE2).more ((Below.refl _ _).alloc (Nat.le_refl _) (.cells #[.int .u8 0] 5)) (show Grew _ w2 base _ _ (v + 1) (xs ++ Mk.zs k ++ [0]) from ⟨by rw [bys_app]; exact ho2, hg2, ha2⟩); have z2 := hb2.cell (unhide HE2).m.at_; have z3 := hb2.free o; have HE3 := hide hE2; clear ho2 hg2 ha2 hb2 hE2 y0)
    have h3 := unhide HE3
    rw [List.append_assoc, zs_snoc] at h3
    have HE4 := hide h3
    clear h3 HE3
    go_roundg (G - (k + 1))
    case measure => have := unhide Hgk; omega
    case rel => exact ⟨k + 1, A2, c2, rfl, by omega, by rw [show n + (k + 1) = v + 1 from by have := unhide Hv; omega]; exact unhide HE4⟩
  · obtain rfl : k = G := by omega
    have hrm := modTm _ _ _ (unhide Hge)
    have hr0 : (((0 : Nat) : Int) != 0) = false := rfl
    obtain ⟨v, hv⟩ : ∃ v, n + k = v := ⟨_, rfl⟩
    rw [hv] at y0 hrm
    have Hv := hide hv
    have hv2 : v ≤ 17592186048512 := by omega
    clear hv Hge
    go_wp2_with fail
    go_end0
    exact ⟨rfl, A1, n + k, c1, unhide HE⟩
set_option maxRecDepth 100000 in
set_option maxHeartbeats 8000000 in
theorem pput_any (t : TypeId) (g o : Nat) (l : List Value) (base : Nat) (A : Option Addr) (n c : Nat) (xs : List UInt8) (Ab : Option Addr) (m cb : Nat) (b : List UInt8) (w : World) (h : FiM w t g o l base A n c xs) (hbase : base ≤ w.heap.size) (hn : n ≤ 4294967296) (hm : m ≤ 4294967296)
    (hr : Rd w w.heap.size 1 Ab m (bys b)) (hbg : bk Ab ≠ some g) (hbA : ∀ k, bk Ab = some k → bk A ≠ some k) :
    Calls Tryz.prog 28 #[.pointer (some ⟨g, o, none⟩), .slice Ab m cb] w fun e w' => ∃ A' n' c', e = .returned (.int .u64 ((Mk.pad 8 xs).length : Nat)) ∧ FiE t g o l base A w w' A' n' c' (Mk.pad 8 xs ++ b) := by
  have hpl := pad_lt8 xs
  have hxl := h.len
  have KP := hide (ppad_any t g o l base A n c 8 xs w h hbase (by omega) (by omega) (by omega))
  have Hr := hide hr
  have Hbg := hide hbg
  have HbA := hide hbA
  clear h hr hbg hbA
  go_enter Tryz.func28, Tryz.ntmps28
  go_wp2_with fail
  refine (unhide KP).mono ?_
  rintro e w1 ⟨rfl, A1, n1, c1, hE⟩
  have hl1 := hE.m.len
  have y0 := hE.m.cell
  have z0 := hE.m.blk.free o
  have hsz := hE.size
  rw [hl1] at hpl
  have hn1 : n1 ≤ 4294967304 := by omega
  have Hl1 := hide hl1
  have HE := hide hE
  clear KP hE hl1 hxl hpl
  go_wp2_with (at_builtin; refine wpList_app byteTy rfl _ _ rfl base (.slice A1 n1 c1) n1 _ rfl (unhide HE).m.row w.heap.size Ab m cb (bys b) rfl ((unhide HE).rdK (unhide Hr) (Nat.le_refl _) (unhide Hbg) (unhide HbA)) (bys_one _) (by omega) (by omega) ?_; intro A2 c2 w2 ho2 hg2 ha2; obtain ⟨hb2, hE2⟩ := (unhide HE).more (Below.refl _ _) (show Grew _ w2 base _ _ (n1 + m) (Mk.pad 8 xs ++ b) from ⟨by rw [bys_app]; exact ho2, hg2, ha2⟩); have z2 := hb2.cell (unhide HE).m.at_; have z3 := hb2.free o; have HE3 := hide hE2; clear ho2 hg2 ha2 hb2 hE2 y0 z0)
  go_ret
  rw [unhide Hl1]
  exact ⟨A2, n1 + m, c2, rfl, unhide HE3⟩
set_option maxRecDepth 100000 in
set_option maxHeartbeats 8000000 in
theorem ptext_any (t : TypeId) (g o : Nat) (l : List Value) (base : Nat) (A : Option Addr) (n c : Nat) (xs : List UInt8) (s : ByteArray) (w : World) (h : FiM w t g o l base A n c xs) (hbase : base ≤ w.heap.size) (hn : n ≤ 35184372088832) (hs : s.size ≤ 4294967296) :
    Calls Tryz.prog 71 #[.pointer (some ⟨g, o, none⟩), .string s] w fun e w' => ∃ A' n' c', e = .returned (.int .u64 (Mk.place xs s : Nat)) ∧ FiE t g o l base A w w' A' n' c' (Mk.put xs s) := by
  have hlen := h.len
  by_cases h0 : s.size = 0
  · have hq := toList_empty h0
    have hE := FiE.refl h
    have e1 : Mk.place xs s = 0 := by unfold Mk.place; rw [if_pos h0]
    have e2 : Mk.put xs s = xs := by unfold Mk.put; rw [if_pos h0]
    rw [e1, e2]
    have HE := hide hE
    clear hE e1 e2 h hlen h0
    go_enter Tryz.func71, Tryz.ntmps71
    go_wp2_with fail
    go_ret
    exact ⟨A, n, c, rfl, unhide HE⟩
  have hq := toList_some h0
  have e1 : Mk.place xs s = n := by unfold Mk.place; rw [if_neg h0, hlen]
  have e2 : Mk.put xs s = xs ++ s.data.toList ++ [0] := by unfold Mk.put; rw [if_neg h0]
  rw [e1, e2]
  have y0 := h.cell
  have H := hide h
  clear e1 e2 h hlen h0
  go_enter Tryz.func71, Tryz.ntmps71
  go_wp2_with (first
    | (at_builtin; refine wpList_appS rfl _ _ rfl base (.slice A n c) n xs rfl (unhide H).row s rfl (by omega) (by omega) ?_; intro A1 c1 w1 hG; have hgs := hG.kept.size; have HG := hide hG; clear hG y0)
    | (at_builtin; refine wpList_app byteTy rfl _ _ rfl base (.slice A1 (n + s.size) c1) (n + s.size) _ rfl ((unhide HG).own.alloc (.cells #[.int .u8 0] 5)) (w1.heap.size + 1) (some ⟨w1.heap.size, 0, none⟩) 1 1 (bys [0]) rfl (litA _) (bys_one _) (by omega) (by simp; omega) ?_; intro A2 c2 w2 ho2 hg2 ha2; obtain ⟨hb2, hE2⟩ := (unhide H).app ((unhide HG).trans (Grew.after ((Below.refl _ _).alloc (Nat.le_refl _) (.cells #[.int .u8 0] 5)) (show Grew _ w2 base (.slice A1 (n + s.size) c1) (.slice A2 (n + s.size + 1) c2) (n + s.size + 1) (xs ++ s.data.toList ++ [0]) from ⟨by rw [bys_app]; exact ho2, hg2, ha2⟩))); have z2 := hb2.cell (unhide H).at_; have z3 := hb2.free o; have HE2 := hide hE2; clear ho2 hg2 ha2 hb2 hE2))
  go_ret
  exact ⟨A2, n + s.size + 1, c2, rfl, unhide HE2⟩
end Go.Proofs.YtnbecdahfgkffaaGreat
namespace Go.Proofs.YtnbecdahfgkffaaGreat
open Go.RowKit
section
variable {t : TypeId} {g o base n1 c1 : Nat} {l : List Value} {A A1 : Option Addr} {w w1 w2 : World} {xs1 : List UInt8}
theorem FiE.number (h : FiE t g o l base A w w1 A1 n1 c1 xs1) (hb : Below w1.heap.size w1 w2) (hbase : base ≤ w.heap.size) {kv m cv s : Nat} {sv : Int} {vs : List Nat} {us : List Value} (hkv : w1.heap.size ≤ kv) (hr : Rd w2 w2.heap.size 1 (some ⟨kv, 0, none⟩) m us) (hu : us = u64s vs) (hv : ∀ v ∈ vs, v < 18446744073709551616) (hsv : sv = (s : Nat)) (hs : s = 1 ∨ s = 2 ∨ s = 4 ∨ s = 8) (hn : n1 ≤ 17592186044416) (hm : m ≤ 1048576) :
    Calls Tryz.prog 72 #[.pointer (some ⟨g, o, none⟩), .int .i64 sv, .slice (some ⟨kv, 0, none⟩) m cv] w2 fun e w3 => e = .returned (.tuple #[]) ∧ ∃ A' c', FiE t g o l base A w w3 A' (n1 + s * m) c' (xs1 ++ Mk.lbs s vs) ∧ FiE t g o (l.set o (.slice A1 n1 c1)) base A1 w2 w3 A' (n1 + s * m) c' (xs1 ++ Mk.lbs s vs) := by
  subst hsv hu
  have h2 := h.m.below hb
  have hg := h.m.blk.lt
  have hlt := h.m.lt
  refine (pnumber_any t g o _ base A1 n1 c1 xs1 kv 0 m cv s vs w2 h2 (Nat.le_trans hbase (Nat.le_trans h.size hb.size)) hr (by omega) (fun e => by have := (hlt kv e).2; omega) hv hs hn hm).mono ?_
  rintro e w3 ⟨rfl, A', c', hE, -⟩
  exact ⟨rfl, A', c', (h.then_ hb).trans hE, hE⟩
end
theorem lit1 (w : World) (a : Int) : Rd (w.alloc (.cells #[.int .u64 a] 23)) (w.alloc (.cells #[.int .u64 a] 23)).heap.size 1 (some ⟨w.heap.size, 0, none⟩) 1 [.int .u64 a] := by
  rw [show (w.alloc (.cells #[.int .u64 a] 23)).heap.size = w.heap.size + 1 by simp]
  exact Rd.rowF (n := 1) (size := 1) rfl
theorem lit2 (w : World) (a b : Int) : Rd (w.alloc (.cells #[.int .u64 a, .int .u64 b] 23)) (w.alloc (.cells #[.int .u64 a, .int .u64 b] 23)).heap.size 1 (some ⟨w.heap.size, 0, none⟩) 2 [.int .u64 a, .int .u64 b] := by
  rw [show (w.alloc (.cells #[.int .u64 a, .int .u64 b] 23)).heap.size = w.heap.size + 1 by simp]
  exact Rd.rowF (n := 2) (size := 1) rfl
theorem below_al (w : World) (c : Obj) : Below w.heap.size w (w.alloc c) := (Below.refl _ _).alloc (Nat.le_refl _) _
set_option maxRecDepth 100000 in
set_option maxHeartbeats 8000000 in
theorem prelas_any (A : Option Addr) (n c B : Nat) (l : List Mk.Rel) (w : World) (hB : B ≤ w.heap.size) (h : Rd w B 4 A n (mrC l)) (hl : l.length = n) (hn : n ≤ 65536) (ho : ∀ r ∈ l, MrOk r) :
    Calls Tryz.prog 77 #[.slice A n c] w fun e w' => ∃ A' c', e = .returned (.slice A' (24 * n) c') ∧ w'.ownsRow w.heap.size 5 1 (.slice A' (24 * n) c') (24 * n) (bys (Mk.relsB l)) ∧ Below w.heap.size w w' := by
  have hb1 := below_al w (.cells #[.slice none 0 0] 71)
  have hbl := Blk.new w 71 [.slice none 0 0]
  have hs1 : (w.alloc (.cells #[.slice none 0 0] 71)).heap.size = w.heap.size + 1 := by simp
  have hF0 : FiM (w.alloc (.cells #[.slice none 0 0] 71)) 71 w.heap.size 0 [.slice none 0 0] w.heap.size none 0 0 [] := ⟨hbl, rfl, World.ownsRow_nil _ _ _ _, by simp [bk]⟩
  have hr1 := h.below (hb1.mono hB)
  have Hr := hide hr1
  have HF0 := hide (FiE.refl hF0)
  have Hb1 := hide hb1
  have Hl := hide hl
  have Ho := hide ho
  have Hs1 := hide hs1
  clear h hl ho hb1 hbl hs1 hF0 hr1
  go_enter Tryz.func77, Tryz.ntmps77
  go_wp2_with fail
  generalize w.alloc (.cells #[.slice none 0 0] 71) = W1 at *
  go_loopg [10] n (fun gk iv wr => ∃ (j : Nat) (A1 : Option Addr) (c1 : Nat), gk = n - j ∧ j ≤ n ∧ iv = .int .i64 j ∧ FiE 71 w.heap.size 0 [.slice none 0 0] w.heap.size none W1 wr A1 (24 * j) c1 (Mk.relsB (l.take j)))
  case atStart => exact ⟨0, none, 0, by omega, by omega, rfl, by simpa [Mk.relsB] using unhide HF0⟩
  case round =>
  obtain ⟨j, A1, c1, hgk, hj, rfl, hE⟩ := hrel
  have Hgk := hide hgk
  have hsz := hE.size
  have hW1 := unhide Hs1
  have hbw := hE.below (B := w.heap.size) (Nat.le_refl _) (fun k hk => by cases hk) (by omega)
  have HE := hide hE
  have Hbw := hide hbw
  clear hgk hE hbw HF0
  rcases Nat.lt_or_ge j n with hlt | hge
  · obtain ⟨x, hx⟩ : ∃ x, l[j]? = some x := ⟨_, List.getElem?_eq_getElem (by rw [unhide Hl]; exact hlt)⟩
    have hxo := (unhide Ho) x (List.mem_of_getElem? hx)
    have ho1 := hxo.off
    have ho2 := hxo.type
    obtain ⟨b1, o1, hA1, hb1, st0, st1, st2, st3⟩ := mkrel_at ((unhide Hr).below ((unhide Hbw).mono hB)) hx
    subst hA1
    have ilt : (j : Int) < (n : Int) := by omega
    have Hx := hide hx
    have hb2 := below_al wr (.cells #[.int .u64 (x.off : Nat), .int .u32 (x.type : Nat), .int .i64 x.sym, .int .i64 x.add] 141)
    have hbx := Blk.new wr 141 [.int .u64 (x.off : Nat), .int .u32 (x.type : Nat), .int .i64 x.sym, .int .i64 x.add]
    have hsx : (wr.alloc (.cells #[.int .u64 (x.off : Nat), .int .u32 (x.type : Nat), .int .i64 x.sym, .int .i64 x.add] 141)).heap.size = wr.heap.size + 1 := by simp
    have Hb2 := hide hb2
    have Hbx : Hid (Blk (wr.alloc (.cells #[.int .u64 (x.off : Nat), .int .u32 (x.type : Nat), .int .i64 x.sym, .int .i64 x.add] 141)) wr.heap.size 141 [.int .u64 (x.off : Nat), .int .u32 (x.type : Nat), .int .i64 x.sym, .int .i64 x.add]) := hide hbx
    have Hsx := hide hsx
    clear hx hxo hb2 hbx hsx hb1
    go_wp2_with fail
    have H1 := hide (lit1 (wr.alloc (.cells #[.int .u64 (x.off : Nat), .int .u32 (x.type : Nat), .int .i64 x.sym, .int .i64 x.add] 141)) (x.off : Nat))
    rw [unhide Hsx] at H1
    have KN1 := hide ((unhide HE).number (w2 := (wr.alloc (.cells #[.int .u64 (x.off : Nat), .int .u32 (x.type : Nat), .int .i64 x.sym, .int .i64 x.add] 141)).alloc (.cells #[.int .u64 (x.off : Nat)] 23)) ((unhide Hb2).alloc (by simp) _) (by omega) (kv := wr.heap.size + 1) (m := 1) (cv := 1) (s := 8) (sv := 8) (vs := [x.off]) (by omega) (unhide H1) rfl (by intro v hv; simp at hv; subst hv; exact ho1) rfl (by omega) (by omega) (by omega))
    have Hbx2 := hide ((unhide Hbx).alloc (.cells #[.int .u64 (x.off : Nat)] 23))
    go_wp2_with fail
    refine (unhide KN1).mono ?_
    rintro e w3 ⟨rfl, A3, c3, hE3, hD3⟩
    have hkA : bk A1 ≠ some wr.heap.size := fun e => by have := ((unhide HE).m.lt _ e).2; omega
    have hbx3 := hD3.blk (unhide Hbx2) (by omega) hkA
    have z1 := hbx3.cell (i := 1) rfl
    have z2 := hbx3.cell (i := 2) rfl
    have hs3 := hD3.size
    have hs3' : wr.heap.size + 2 ≤ w3.heap.size := by have := hD3.size; simp at this; omega
    have HkA3 := hide (show bk A3 ≠ some wr.heap.size from fun e => by
      rcases hD3.at_ _ e with h9 | h9
      · exact hkA h9
      · have h8 : wr.heap.size + 2 ≤ wr.heap.size := by simpa using h9
        omega)
    have Hbx3 := hide hbx3
    have HE3 := hide hE3
    have H2 := hide (lit2 w3 (x.type : Nat) (IntKind.u64.wrap x.sym))
    have KN2 := hide ((unhide HE3).number (w2 := w3.alloc (.cells #[.int .u64 (x.type : Nat), .int .u64 (IntKind.u64.wrap x.sym)] 23)) (below_al _ _) (by omega) (kv := w3.heap.size) (m := 2) (cv := 2) (s := 4) (sv := 4) (vs := [x.type, Mk.word x.sym]) (by omega) (unhide H2) (by rw [word_cast]; rfl) (by intro v hv; simp at hv; rcases hv with rfl | rfl; exact Nat.lt_trans ho2 (by omega); exact word_lt _) rfl (by omega) (by omega) (by omega))
    have Hbx4 := hide ((unhide Hbx3).alloc (.cells #[.int .u64 (x.type : Nat), .int .u64 (IntKind.u64.wrap x.sym)] 23))
    clear hE3 hD3 hbx3 hs3 KN1 H1 Hbx2 HE Hbx Hb2
    go_wp2_with fail
    refine (unhide KN2).mono ?_
    rintro e w4 ⟨rfl, A4, c4, hE4, hD4⟩
    have hbx5 := hD4.blk (unhide Hbx4) (by omega) (unhide HkA3)
    have z3 := hbx5.cell (i := 3) rfl
    have hs4 := hD4.size
    have HE4 := hide hE4
    have H3 := hide (lit1 w4 (IntKind.u64.wrap x.add))
    have KN3 := hide ((unhide HE4).number (w2 := w4.alloc (.cells #[.int .u64 (IntKind.u64.wrap x.add)] 23)) (below_al _ _) (by omega) (kv := w4.heap.size) (m := 1) (cv := 1) (s := 8) (sv := 8) (vs := [Mk.word x.add]) (by omega) (unhide H3) (by rw [word_cast]; rfl) (by intro v hv; simp at hv; subst hv; exact word_lt _) rfl (by omega) (by omega) (by omega))
    clear hE4 hD4 hbx5 hs4 KN2 H2 Hbx3 Hbx4 HE3 z1 z2
    go_wp2_with fail
    refine (unhide KN3).mono ?_
    rintro e w5 ⟨rfl, A5, c5, hE5, -⟩
    have HE5 := hide hE5
    clear hE5 KN3 H3 HE4 z3
    go_wp2_with fail
    go_roundg (n - (j + 1))
    case measure => have := unhide Hgk; omega
    case rel => exact ⟨j + 1, A5, c5, rfl, by omega, by go_num, by
      have h9 := unhide HE5
      rw [relsB_next (unhide Hx), Nat.mul_succ]
      simpa [Mk.relB, Mk.lbs, List.append_assoc, Nat.add_assoc] using h9⟩
  · obtain rfl : j = n := by omega
    have ige : ¬ (j : Int) < (j : Int) := by omega
    have y0 := (unhide HE).m.cell
    have hE := unhide HE
    rw [List.take_of_length_le (by rw [unhide Hl]; omega)] at hE
    have HE3 := hide hE
    clear hE HE
    go_wp2_with fail
    go_ret
    exact ⟨A1, c1, rfl, (unhide HE3).m.row, (unhide Hb1).trans (unhide Hbw)⟩
end Go.Proofs.YtnbecdahfgkffaaGreat
namespace Go.Proofs.YtnbecdahfgkffaaGreat
open Go.RowKit
section
variable {t t2 : TypeId} {g o base g2 o2 base2 n1 c1 n2 c2 n3 c3 : Nat} {l l2 : List Value} {A A1 A2 A3 : Option Addr} {w w1 w2 w3 : World} {xs1 xs2 xs3 : List UInt8}
theorem FiM.aside (h : FiM w1 t g o l base A1 n1 c1 xs1) (E : FiE t2 g2 o2 l2 base2 A2 w1 w2 A3 n3 c3 xs3) (h1 : g ≠ g2) (h2 : bk A2 ≠ some g) (h3 : bk A1 ≠ some g2) (h4 : ∀ k, bk A1 = some k → bk A2 ≠ some k) :
    FiM w2 t g o l base A1 n1 c1 xs1 ∧ ∀ k, bk A1 = some k → bk A3 ≠ some k := by
  obtain ⟨r1, r2⟩ := E.own h.row h3 h4
  exact ⟨⟨E.blk h.blk h1 h2, h.at_, r1, h.ne⟩, r2⟩
theorem FiE.aside (h : FiE t g o l base A w w1 A1 n1 c1 xs1) (E : FiE t2 g2 o2 l2 base2 A2 w1 w2 A3 n3 c3 xs3) (hg2 : w.heap.size ≤ g2) (hA2 : ∀ k, bk A2 = some k → w.heap.size ≤ k) (h1 : g ≠ g2) (h2 : bk A2 ≠ some g) (h3 : bk A1 ≠ some g2) (h4 : ∀ k, bk A1 = some k → bk A2 ≠ some k) :
    FiE t g o l base A w w2 A1 n1 c1 xs1 ∧ ∀ k, bk A1 = some k → bk A3 ≠ some k := by
  obtain ⟨m1, m2⟩ := h.m.aside E h1 h2 h3 h4
  refine ⟨⟨m1, E.os.trans h.os, E.tape.trans h.tape, E.output.trans h.output, Nat.le_trans h.size E.size, fun k hk e1 e2 => (E.block k (Nat.lt_of_lt_of_le hk h.size) (fun e => by omega) (fun e => by have := hA2 k e; omega)).trans (h.block k hk e1 e2), h.at_⟩, m2⟩
end
structure SyS (tt : TypeId) (gt ot bt gF : Nat) (lt : List Value) (A0 : Option Addr) (w wr : World) (ts fs : List UInt8) (L : Option (Nat × TypeId × List Value)) : Prop where
  tx : ∃ At nt ct Af cf, FiE tt gt ot lt bt A0 w wr At nt ct ts ∧ FiM wr 71 gF 0 [.slice Af fs.length cf] w.heap.size Af fs.length cf fs ∧ (∀ k, bk Af = some k → bk At ≠ some k) ∧ bk At ≠ some gF ∧ (∀ p, L = some p → Blk wr p.1 p.2.1 p.2.2 ∧ p.1 ≠ gF ∧ w.heap.size ≤ p.1 ∧ bk At ≠ some p.1 ∧ bk Af ≠ some p.1)
  hgF : w.heap.size ≤ gF
  hgt : gt < w.heap.size
  hbt : bt ≤ w.heap.size
section
variable {tt : TypeId} {gt ot bt gF : Nat} {lt : List Value} {A0 : Option Addr} {w wr w' : World} {ts fs : List UInt8} {L : Option (Nat × TypeId × List Value)}
theorem SyS.size (h : SyS tt gt ot bt gF lt A0 w wr ts fs L) : w.heap.size ≤ wr.heap.size := by
  obtain ⟨At, nt, ct, Af, cf, T, -⟩ := h.tx
  exact T.size
theorem SyS.calm (h : SyS tt gt ot bt gF lt A0 w wr ts fs L) (hb : Below wr.heap.size wr w') : SyS tt gt ot bt gF lt A0 w w' ts fs L := by
  obtain ⟨At, nt, ct, Af, cf, T, F, d1, d2, d3⟩ := h.tx
  exact ⟨⟨At, nt, ct, Af, cf, T.then_ hb, F.below hb, d1, d2, fun p hp => ⟨(d3 p hp).1.belowSz hb, (d3 p hp).2⟩⟩, h.hgF, h.hgt, h.hbt⟩
theorem SyS.drop (h : SyS tt gt ot bt gF lt A0 w wr ts fs L) : SyS tt gt ot bt gF lt A0 w wr ts fs none := by
  obtain ⟨At, nt, ct, Af, cf, T, F, d1, d2, d3⟩ := h.tx
  exact ⟨⟨At, nt, ct, Af, cf, T, F, d1, d2, fun p hp => by cases hp⟩, h.hgF, h.hgt, h.hbt⟩
theorem SyS.lay (h : SyS tt gt ot bt gF lt A0 w wr ts fs L) (t3 : TypeId) (l3 : List Value) : SyS tt gt ot bt gF lt A0 w (wr.alloc (.cells l3.toArray t3)) ts fs (some (wr.heap.size, t3, l3)) := by
  have hb : Below wr.heap.size wr (wr.alloc (.cells l3.toArray t3)) := below_al _ _
  obtain ⟨At, nt, ct, Af, cf, T, F, d1, d2, d3⟩ := h.tx
  refine ⟨⟨At, nt, ct, Af, cf, T.then_ hb, F.below hb, d1, d2, fun p hp => ?_⟩, h.hgF, h.hgt, h.hbt⟩
  injection hp with hp
  subst hp
  refine ⟨Blk.new wr t3 l3, fun e => ?_, T.size, fun e => ?_, fun e => ?_⟩
  · have := F.blk.lt; simp at e; omega
  · have := (T.m.lt _ e).2; simp at this
  · have := (F.lt _ e).2; simp at this
theorem SyS.text {At : Option Addr} {nt ct : Nat} {s : ByteArray} {At' : Option Addr} {nt' ct' : Nat} {ts' : List UInt8} (h1 : ∃ Af cf, FiE tt gt ot lt bt A0 w wr At nt ct ts ∧ FiM wr 71 gF 0 [.slice Af fs.length cf] w.heap.size Af fs.length cf fs ∧ (∀ k, bk Af = some k → bk At ≠ some k) ∧ bk At ≠ some gF ∧ (∀ p, L = some p → Blk wr p.1 p.2.1 p.2.2 ∧ p.1 ≠ gF ∧ w.heap.size ≤ p.1 ∧ bk At ≠ some p.1 ∧ bk Af ≠ some p.1)) (hgF : w.heap.size ≤ gF) (hgt : gt < w.heap.size) (hbt : bt ≤ w.heap.size) (E : FiE tt gt ot (lt.set ot (.slice At nt ct)) bt At wr w' At' nt' ct' ts') : SyS tt gt ot bt gF lt A0 w w' ts' fs L := by
  obtain ⟨Af, cf, T, F, d1, d2, d3⟩ := h1
  obtain ⟨F', d1'⟩ := F.aside E (by omega) d2 (fun e => by have := (F.lt _ e).1; omega) d1
  have hF := F.blk.lt
  refine ⟨⟨At', nt', ct', Af, cf, T.trans E, F', d1', fun e => ?_, fun p hp => ?_⟩, hgF, hgt, hbt⟩
  · rcases E.at_ _ e with h9 | h9
    · exact d2 h9
    · omega
  · obtain ⟨q1, q2, q3, q4, q5⟩ := d3 p hp
    refine ⟨E.blk q1 (by omega) q4, q2, q3, fun e => ?_, q5⟩
    rcases E.at_ _ e with h9 | h9
    · exact q4 h9
    · have := q1.lt; omega
theorem SyS.callText (h : SyS tt gt ot bt gF lt A0 w wr ts fs L) (hts : ts.length ≤ 35184372088832) (s : ByteArray) (hs : s.size ≤ 4294967296) :
    Calls Tryz.prog 71 #[.pointer (some ⟨gt, ot, none⟩), .string s] wr fun e w' => e = .returned (.int .u64 (Mk.place ts s : Nat)) ∧ SyS tt gt ot bt gF lt A0 w w' (Mk.put ts s) fs L := by
  obtain ⟨At, nt, ct, Af, cf, T, F, d⟩ := h.tx
  have hl := T.m.len
  refine (ptext_any tt gt ot _ bt At nt ct ts s wr T.m (Nat.le_trans h.hbt T.size) (by omega) hs).mono ?_
  rintro e w' ⟨A', n', c', rfl, E⟩
  exact ⟨rfl, SyS.text (s := s) ⟨Af, cf, T, F, d⟩ h.hgF h.hgt h.hbt E⟩
theorem SyS.callNumber (h : SyS tt gt ot bt gF lt A0 w wr ts fs L) {w2 : World} (hb : Below wr.heap.size wr w2) {kv m cv s : Nat} {sv : Int} {vs : List Nat} {us : List Value} (hkv : wr.heap.size ≤ kv) (hr : Rd w2 w2.heap.size 1 (some ⟨kv, 0, none⟩) m us) (hu : us = u64s vs) (hv : ∀ v ∈ vs, v < 18446744073709551616) (hsv : sv = (s : Nat)) (hs : s = 1 ∨ s = 2 ∨ s = 4 ∨ s = 8) (hn : fs.length ≤ 17592186044416) (hm : m ≤ 1048576) :
    Calls Tryz.prog 72 #[.pointer (some ⟨gF, 0, none⟩), .int .i64 sv, .slice (some ⟨kv, 0, none⟩) m cv] w2 fun e w3 => e = .returned (.tuple #[]) ∧ SyS tt gt ot bt gF lt A0 w w3 ts (fs ++ Mk.lbs s vs) L := by
  subst hsv hu
  obtain ⟨At, nt, ct, Af, cf, T, F, d1, d2, d3⟩ := h.tx
  have F2 := F.below hb
  have T2 := T.then_ hb
  have hlt := F.lt
  have hgl := F.blk.lt
  have hvl : vs.length = m := by have := hr.1; simp [u64s] at this; omega
  refine (pnumber_any _ gF 0 _ w.heap.size Af fs.length cf fs kv 0 m cv s vs w2 F2 T2.size hr (by omega) (fun e => by have := (hlt kv e).2; omega) hv hs hn hm).mono ?_
  rintro e w3 ⟨rfl, A', c', E, -⟩
  have hnl : fs.length + s * m = (fs ++ Mk.lbs s vs).length := by rw [List.length_append, lbs_len', hvl]
  rw [hnl] at E
  obtain ⟨T3, d4⟩ := T2.aside E h.hgF (fun k hk => (hlt k hk).1) (by have := h.hgt; have := h.hgF; omega) (fun e => by have := (hlt _ e).1; have := h.hgt; omega) d2 (fun k h1 h2 => d1 k h2 h1)
  refine ⟨rfl, ⟨⟨At, nt, ct, A', c', T3, E.m, fun k h1 h2 => d4 k h2 h1, d2, fun p hp => ?_⟩, h.hgF, h.hgt, h.hbt⟩⟩
  obtain ⟨q1, q2, q3, q4, q5⟩ := d3 p hp
  refine ⟨E.blk (q1.belowSz hb) q2 q5, q2, q3, q4, fun e => ?_⟩
  rcases E.at_ _ e with h9 | h9
  · exact q5 h9
  · have := (q1.belowSz hb).lt; omega
end
end Go.Proofs.YtnbecdahfgkffaaGreat
namespace Go.Proofs.YtnbecdahfgkffaaGreat
open Go.RowKit
theorem SyS.bel {tt : TypeId} {gt ot bt gF B : Nat} {lt : List Value} {A0 : Option Addr} {w wr : World} {ts fs : List UInt8} {L : Option (Nat × TypeId × List Value)} (h : SyS tt gt ot bt gF lt A0 w wr ts fs L) (h1 : B ≤ gt) (h2 : ∀ k, bk A0 = some k → B ≤ k) (h3 : B ≤ w.heap.size) : Below B w wr := by
  obtain ⟨At, nt, ct, Af, cf, T, -⟩ := h.tx
  exact T.below h1 h2 h3
theorem SyS.cell {tt : TypeId} {gt ot bt gF k i : Nat} {t3 : TypeId} {lt l3 : List Value} {A0 : Option Addr} {w wr : World} {ts fs : List UInt8} {v : Value} (h : SyS tt gt ot bt gF lt A0 w wr ts fs (some (k, t3, l3))) (hi : l3[i]? = some v) : wr.cell? ⟨k, i, none⟩ = some v := by
  obtain ⟨At, nt, ct, Af, cf, T, F, d1, d2, d3⟩ := h.tx
  exact (d3 _ rfl).1.cell hi
theorem SyS.bind {tt : TypeId} {gt ot bt gF : Nat} {lt : List Value} {A0 : Option Addr} {w wr : World} {ts ts' fs fs' : List UInt8} {L : Option (Nat × TypeId × List Value)} (h : SyS tt gt ot bt gF lt A0 w wr ts fs L) (h1 : ts = ts') (h2 : fs = fs') : SyS tt gt ot bt gF lt A0 w wr ts' fs' L := by subst h1 h2; exact h
set_option maxRecDepth 100000 in
set_option maxHeartbeats 16000000 in
theorem psymbols_any (tt : TypeId) (gt ot bt : Nat) (lt : List Value) (At : Option Addr) (nt ct : Nat) (ts : List UInt8) (A : Option Addr) (m c B : Nat) (l : List Dy.Sym) (w : World) (hB : B ≤ w.heap.size) (h : Rd w B 5 A m (symC l)) (hl : l.length = m) (h64 : m ≤ 64) (hsy : ∀ s ∈ l, SyOk s) (hnm : ∀ s ∈ l, s.name.size ≤ 4294967296)
    (hT : FiM w tt gt ot lt bt At nt ct ts) (hts : ts.length ≤ 1099511627776) (hbt : bt ≤ w.heap.size) (hBg : B ≤ gt) (hBb : B ≤ bt) :
    Calls Tryz.prog 73 #[.slice A m c, .func (.func 71) #[.pointer (some ⟨gt, ot, none⟩)] #[]] w fun e w' => ∃ A' c' At' nt' ct', e = .returned (.slice A' (24 * (m + 1)) c') ∧ w'.ownsRow w.heap.size 5 1 (.slice A' (24 * (m + 1)) c') (24 * (m + 1)) (bys (Mk.symsB ts l)) ∧ FiE tt gt ot lt bt At w w' At' nt' ct' (Mk.puts ts (Mk.names l)) ∧ ∀ k, bk A' = some k → bk At' ≠ some k := by
  obtain ⟨i, hi, hz0, hz1, hz2⟩ := info_parts byteInfo
  have Hi := hide hi
  have Hz0 := hide hz0
  have Hz1 := hide hz1
  have Hz2 := hide hz2
  have hgt := hT.blk.lt
  have hlt := hT.lt
  have H := hide h
  have Hl := hide hl
  have Hsy := hide hsy
  have Hnm := hide hnm
  have HT := hide hT
  have Hlt := hide hlt
  clear h hl hsy hnm hT hlt hi hz0 hz1 hz2
  go_enter Tryz.func73, Tryz.ntmps73
  go_wp2_with (at_make; refine wpList_make_full _ rfl _ _ 24 rfl w.heap.size 5 i (.int .u8 0) 1 Tryz.underlying24 (unhide Hi) (unhide Hz0) (unhide Hz1) _ _ _ _ 24 rfl rfl rfl rfl (by rw [unhide Hz2]; omega) (by unfold maxLen; omega) (Nat.le_refl _) ?_; intro w1 hown hgrow; rw [zerosN] at hown; have hb1 := (Below.refl w.heap.size w).grown hgrow (Nat.le_refl _) (fun k hk => by cases hk); have Hown := hide hown; have Hb1 := hide hb1; clear hown hgrow hb1)
  have hs1 := (unhide Hb1).size
  have hS0 : SyS tt gt ot bt w1.heap.size lt At w (w1.alloc (.cells #[.slice (some ⟨w.heap.size, 0, none⟩) 24 24] 71)) ts (Mk.zs 24) none := by
    have hb2 : Below w1.heap.size w1 (w1.alloc (.cells #[.slice (some ⟨w.heap.size, 0, none⟩) 24 24] 71)) := below_al _ _
    have hlt1 := own_bklt (unhide Hown)
    refine ⟨⟨At, nt, ct, some ⟨w.heap.size, 0, none⟩, 24, (FiE.refl (unhide HT)).then_ ((unhide Hb1).trans (hb2.mono hs1)), ⟨Blk.new w1 _ _, rfl, own_below (unhide Hown) hb2, fun e => ?_⟩, fun k h1 h2 => ?_, fun e => ?_, fun p hp => by cases hp⟩, hs1, hgt, hbt⟩
    · have := (hlt1 _ e).2; omega
    · have h3 := (hlt1 k h1).1
      have h4 := ((unhide Hlt) k h2).2
      omega
    · have := ((unhide Hlt) _ e).2; omega
  have HS0 := hide hS0
  generalize (w1.alloc (.cells #[.slice (some ⟨w.heap.size, 0, none⟩) 24 24] 71)) = W1 at *
  generalize w1.heap.size = gF at *
  clear hS0
  go_wp2_with fail
  go_loopg [14] m (fun gk iv wr => ∃ j : Nat, gk = m - j ∧ j ≤ m ∧ iv = .int .i64 j ∧ SyS tt gt ot bt gF lt At w wr (Mk.puts ts (Mk.names (l.take j))) (Mk.zs 24 ++ Mk.symRows ts (l.take j)) none)
  case atStart => exact ⟨0, by omega, by omega, rfl, by simpa [Mk.puts, Mk.names, Mk.symRows] using unhide HS0⟩
  case round =>
  clear HS0 Hown Hb1
  obtain ⟨j, hgk, hj, rfl, hS⟩ := hrel
  have Hgk := hide hgk
  have hsz := hS.size
  have hbB := hS.bel hBg (fun k hk => by have := ((unhide Hlt) k hk).1; omega) hB
  have HS := hide hS
  have HbB := hide hbB
  clear hgk hS hbB
  rcases Nat.lt_or_ge j m with hlt | hge
  · obtain ⟨x, hx⟩ : ∃ x, l[j]? = some x := ⟨_, List.getElem?_eq_getElem (by rw [unhide Hl]; exact hlt)⟩
    have hxo := (unhide Hsy) x (List.mem_of_getElem? hx)
    have hxn := (unhide Hnm) x (List.mem_of_getElem? hx)
    have ho1 := hxo.value
    have ho2 := hxo.size
    have ho3 := hxo.bind
    obtain ⟨b1, o1, hA1, hb1, st0, st1, st2, st3, st4⟩ := mksym_at ((unhide H).below (unhide HbB)) hx
    have Hsx := hide (symRows_next (t := ts) hx)
    have Hpx := hide (puts_next (t := ts) hx)
    have htj : (Mk.puts ts (Mk.names (l.take j))).length ≤ 1374389534784 := by
      have h8 := puts_le (t := ts) (l := Mk.names (l.take j)) (fun s hs => by
        unfold Mk.names at hs
        obtain ⟨y, hy, rfl⟩ := List.mem_map.1 hs
        exact (unhide Hnm) y (List.mem_of_mem_take hy))
      have h9 : (Mk.names (l.take j)).length ≤ 64 := by unfold Mk.names; rw [List.length_map, List.length_take]; omega
      have h7 : (Mk.names (l.take j)).length * 4294967297 ≤ 64 * 4294967297 := Nat.mul_le_mul_right _ h9
      omega
    generalize Mk.puts ts (Mk.names (l.take j)) = tj at *
    have hfj : (Mk.zs 24 ++ Mk.symRows ts (l.take j)).length ≤ 1560 := by
      rw [List.length_append, zs_len, symRows_len, List.length_take]
      omega
    obtain ⟨fj, hfe⟩ : ∃ fj, Mk.zs 24 ++ Mk.symRows ts (l.take j) = fj := ⟨_, rfl⟩
    have Hfe := hide hfe
    rw [hfe] at hfj HS
    subst hA1
    have ilt : (j : Int) < (m : Int) := by omega
    have Hx := hide hx
    have hSl := (unhide HS).lay 48 [.string x.name, .int .u64 (x.value : Nat), .int .u64 (x.size : Nat), .int .u8 (x.bind : Nat), .bool x.isdef]
    have HSl : Hid (SyS tt gt ot bt gF lt At w (wr.alloc (.cells #[.string x.name, .int .u64 (x.value : Nat), .int .u64 (x.size : Nat), .int .u8 (x.bind : Nat), .bool x.isdef] 48)) tj fj (some (wr.heap.size, 48, [.string x.name, .int .u64 (x.value : Nat), .int .u64 (x.size : Nat), .int .u8 (x.bind : Nat), .bool x.isdef]))) := hide hSl
    have KT := hide ((unhide HSl).callText (by omega) x.name hxn)
    clear hx hxo hb1 hfe hSl hxn HS
    go_wp2_with fail
    refine (unhide KT).mono ?_
    rintro e w5 ⟨rfl, hS5⟩
    have hpv : Mk.place tj x.name ≤ 1374389534784 := by unfold Mk.place; split <;> omega
    obtain ⟨pv, hpe⟩ : ∃ pv, Mk.place tj x.name = pv := ⟨_, rfl⟩
    have Hpe := hide hpe
    rw [hpe] at hpv ⊢
    have H1 := hide (lit1 w5 (pv : Nat))
    have KN1 := hide (hS5.callNumber (w2 := w5.alloc (.cells #[.int .u64 (pv : Nat)] 23)) (below_al _ _) (kv := w5.heap.size) (m := 1) (cv := 1) (s := 4) (sv := 4) (vs := [pv]) (Nat.le_refl _) (unhide H1) rfl (by intro v hv; simp at hv; subst hv; omega) rfl (by omega) (by omega) (by omega))
    clear hS5 KT hpe HSl
    go_wp2_with fail
    refine (unhide KN1).mono ?_
    rintro e w6 ⟨rfl, hS6⟩
    have z3 := hS6.cell (i := 3) rfl
    have HS6 := hide hS6
    clear hS6 KN1 H1
    have hf6 : (fj ++ Mk.lbs 4 [pv]).length ≤ 1700 := by rw [List.length_append, lbs_len']; simp; omega
    go_wp2_with fail
    have H2 := hide (lit2 w6 ((x.bind : Nat) * 16) 0)
    have KN2 := hide ((unhide HS6).callNumber (w2 := w6.alloc (.cells #[.int .u64 ((x.bind : Nat) * 16), .int .u64 0] 23)) (below_al _ _) (kv := w6.heap.size) (m := 2) (cv := 2) (s := 1) (sv := 1) (vs := [x.bind * 16, 0]) (Nat.le_refl _) (unhide H2) rfl (by intro v hv; simp at hv; omega) rfl (by omega) (by omega) (by omega))
    refine (unhide KN2).mono ?_
    rintro e w7 ⟨rfl, hS7⟩
    have z4 := hS7.cell (i := 4) rfl
    have HS7 := hide hS7
    clear hS7 KN2 H2 HS6 z3
    have hf7 : (fj ++ Mk.lbs 4 [pv] ++ Mk.lbs 1 [x.bind * 16, 0]).length ≤ 1800 := by rw [List.length_append, lbs_len']; simp at hf6 ⊢; omega
    obtain ⟨df, hdf⟩ : ∃ df, x.isdef = df := ⟨_, rfl⟩
    rw [hdf] at z4
    cases df
    case false =>
      have HdF := hide hdf
      clear hdf
      have H3 := hide (lit1 w7 0)
      have KN3 := hide ((unhide HS7).callNumber (w2 := w7.alloc (.cells #[.int .u64 0] 23)) (below_al _ _) (kv := w7.heap.size) (m := 1) (cv := 1) (s := 2) (sv := 2) (vs := [0]) (Nat.le_refl _) (unhide H3) rfl (by intro v hv; simp at hv; omega) rfl (by omega) (by omega) (by omega))
      go_wp2_with fail
      refine (unhide KN3).mono ?_
      rintro e w8 ⟨rfl, hS8⟩
      have z1 := hS8.cell (i := 1) rfl
      have z2 := hS8.cell (i := 2) rfl
      have hf8 : (fj ++ Mk.lbs 4 [pv] ++ Mk.lbs 1 [x.bind * 16, 0] ++ Mk.lbs 2 [0]).length ≤ 1900 := by rw [List.length_append, lbs_len']; simp at hf7 ⊢; omega
      have H4 := hide (lit2 w8 (x.value : Nat) (x.size : Nat))
      have KN4 := hide (hS8.callNumber (w2 := w8.alloc (.cells #[.int .u64 (x.value : Nat), .int .u64 (x.size : Nat)] 23)) (below_al _ _) (kv := w8.heap.size) (m := 2) (cv := 2) (s := 8) (sv := 8) (vs := [x.value, x.size]) (Nat.le_refl _) (unhide H4) rfl (by intro v hv; simp at hv; rcases hv with rfl | rfl <;> assumption) rfl (by omega) (by omega) (by omega))
      clear hS8 KN3 H3 HS7 z4
      go_wp2_with fail
      refine (unhide KN4).mono ?_
      rintro e w9 ⟨rfl, hS9⟩
      have HS9 := hide hS9
      clear hS9 KN4 H4 z1 z2
      go_wp2_with fail
      go_roundg (m - (j + 1))
      case measure => have := unhide Hgk; omega
      case rel => exact ⟨j + 1, rfl, by omega, by go_num, (unhide HS9).drop.bind (unhide Hpx).symm (by rw [unhide Hsx, ← List.append_assoc, unhide Hfe, unhide Hpe]; simp [Mk.symB, Mk.lbs, List.append_assoc, unhide HdF])⟩
    case true =>
      have HdF := hide hdf
      clear hdf
      have H3 := hide (lit1 w7 1)
      have KN3 := hide ((unhide HS7).callNumber (w2 := w7.alloc (.cells #[.int .u64 1] 23)) (below_al _ _) (kv := w7.heap.size) (m := 1) (cv := 1) (s := 2) (sv := 2) (vs := [1]) (Nat.le_refl _) (unhide H3) rfl (by intro v hv; simp at hv; omega) rfl (by omega) (by omega) (by omega))
      go_wp2_with fail
      refine (unhide KN3).mono ?_
      rintro e w8 ⟨rfl, hS8⟩
      have z1 := hS8.cell (i := 1) rfl
      have z2 := hS8.cell (i := 2) rfl
      have hf8 : (fj ++ Mk.lbs 4 [pv] ++ Mk.lbs 1 [x.bind * 16, 0] ++ Mk.lbs 2 [1]).length ≤ 1900 := by rw [List.length_append, lbs_len']; simp at hf7 ⊢; omega
      have H4 := hide (lit2 w8 (x.value : Nat) (x.size : Nat))
      have KN4 := hide (hS8.callNumber (w2 := w8.alloc (.cells #[.int .u64 (x.value : Nat), .int .u64 (x.size : Nat)] 23)) (below_al _ _) (kv := w8.heap.size) (m := 2) (cv := 2) (s := 8) (sv := 8) (vs := [x.value, x.size]) (Nat.le_refl _) (unhide H4) rfl (by intro v hv; simp at hv; rcases hv with rfl | rfl <;> assumption) rfl (by omega) (by omega) (by omega))
      clear hS8 KN3 H3 HS7 z4
      go_wp2_with fail
      refine (unhide KN4).mono ?_
      rintro e w9 ⟨rfl, hS9⟩
      have HS9 := hide hS9
      clear hS9 KN4 H4 z1 z2
      go_wp2_with fail
      go_roundg (m - (j + 1))
      case measure => have := unhide Hgk; omega
      case rel => exact ⟨j + 1, rfl, by omega, by go_num, (unhide HS9).drop.bind (unhide Hpx).symm (by rw [unhide Hsx, ← List.append_assoc, unhide Hfe, unhide Hpe]; simp [Mk.symB, Mk.lbs, List.append_assoc, unhide HdF])⟩
  · obtain rfl : j = m := by omega
    have ige : ¬ (j : Int) < (j : Int) := by omega
    have hS := unhide HS
    rw [List.take_of_length_le (by rw [unhide Hl]; omega)] at hS
    obtain ⟨At', nt', ct', Af, cf, T, F, d1, d2, -⟩ := hS.tx
    have y0 := F.cell
    have hfl : (Mk.zs 24 ++ Mk.symRows ts l).length = 24 * (j + 1) := by rw [List.length_append, zs_len, symRows_len, unhide Hl]; omega
    rw [hfl] at y0 F
    have HF := hide F
    have HT2 := hide T
    have Hd1 := hide d1
    clear HS hS T F d1 d2 hfl
    go_wp2_with fail
    go_ret
    exact ⟨Af, cf, rfl, (unhide HF).row, At', ⟨nt', ct', unhide HT2⟩, unhide Hd1⟩
end Go.Proofs.YtnbecdahfgkffaaGreat
namespace Go.Proofs.YtnbecdahfgkffaaGreat
open Go.RowKit
theorem wp_make_full {P : Program} {w : World} {o : Oper} {a : Act} {K : Act → World → Prop} {Q : Exit → Act → World → Prop}
    (l c : Operand) (t : TypeId) (hop : o.op = Op.makeSlice t l c)
    (base : Nat) (e : TypeId) (i : TypeInfo) (z : Value) (size : Nat) (h1 : P.underlying t = some (.slice e)) (h2 : P.info? e = some i) (h3 : i.zero = some z) (h4 : i.size = size)
    (kl kc : IntKind) (L C : Int) (n : Nat) (hl : a.eval l = .int kl L) (hc : a.eval c = .int kc C) (hL : L = (n : Int)) (hC : C = (n : Int)) (b2 : i.bytes * n ≤ 281474976710656) (b3 : n ≤ maxLen) (b4 : base ≤ w.heap.size)
    (hK : ∀ w', w'.ownsRow base e size (.slice (some ⟨w.heap.size, 0, none⟩) n n) n (madeCells z.cells (n * size)).toList → w.grownBy w' none → K (a.put o.dst (.slice (some ⟨w.heap.size, 0, none⟩) n n)) w') :
    o.wp P a w K Q := by
  obtain ⟨w', hrun, r1, r2⟩ := run_make_full (P := P) w base t e i z size h1 h2 h3 h4 kl kc n b2 b3 b4
  subst hL
  subst hC
  unfold Oper.wp
  simp [execOp, hop, hl, hc, hrun, Result.andThen]
  exact hK w' r1 r2
theorem zeros64 (s : Nat) : (madeCells (Value.int .u64 0).cells (s * 1)).toList = u64s (List.replicate s 0) := by
  simp [u64s, Value.cells, toList_madeCells_one]
theorem u64Inf5 : (Tryz.prog.info? 23).map (fun i => (i.zero, i.size, i.bytes)) = some (some (.int .u64 0), 1, 8) := by kernel_rfl
theorem own_kept {w w' : World} {base n c size : Nat} {A : Option Addr} {e : TypeId} {xs : List Value} (h : w.ownsRow base e size (.slice A n c) n xs) (hg : w.grownBy w' none) : w'.ownsRow base e size (.slice A n c) n xs :=
  own_below h ((Below.refl _ _).grown hg (Nat.le_refl _) (fun k hk => by cases hk))
def hdAt (l : List Dy.Sym) (n i : Nat) : List Nat := (List.range n).map fun b => Mk.next l n b i
def lkAt (l : List Dy.Sym) (i : Nat) : List Nat := (List.range (l.length + 1)).map fun q => if q ≤ i then 0 else Mk.linkOf l (q - 1)
theorem hd_start (l : List Dy.Sym) (n : Nat) : hdAt l n l.length = List.replicate n 0 := by
  unfold hdAt Mk.next
  rw [List.drop_length, List.eq_replicate_iff]
  refine ⟨by simp, fun b hb => ?_⟩
  obtain ⟨c, -, rfl⟩ := List.mem_map.1 hb
  rfl
theorem lk_start (l : List Dy.Sym) : lkAt l l.length = List.replicate (l.length + 1) 0 := by
  unfold lkAt
  rw [List.eq_replicate_iff]
  refine ⟨by simp, fun b hb => ?_⟩
  obtain ⟨c, hc, rfl⟩ := List.mem_map.1 hb
  rw [List.mem_range] at hc
  rw [if_pos (by omega)]
theorem lk_end (l : List Dy.Sym) : lkAt l 0 = Mk.links l := by
  unfold lkAt Mk.links
  rw [List.range_succ_eq_map, List.map_cons, List.map_map, if_pos (Nat.le_refl 0)]
  congr 1
theorem next_step {l : List Dy.Sym} {i : Nat} {x : Dy.Sym} (h : l[i]? = some x) (n b : Nat) : Mk.next l n b i = if Mk.hashOf x % n = b then i + 1 else Mk.next l n b (i + 1) := by
  obtain ⟨hi, hx⟩ := List.getElem?_eq_some_iff.1 h
  unfold Mk.next
  rw [List.drop_eq_getElem_cons hi, hx, Mk.nextL]
theorem hd_step {l : List Dy.Sym} {i : Nat} {x : Dy.Sym} (h : l[i]? = some x) (n : Nat) : hdAt l n i = (hdAt l n (i + 1)).set (Mk.hashOf x % n) (i + 1) := by
  apply List.ext_getElem?
  intro b
  unfold hdAt
  by_cases hb : b < n
  · by_cases e : Mk.hashOf x % n = b
    · rw [e, List.getElem?_set_self (by simpa using hb), List.getElem?_map, List.getElem?_range hb, Option.map_some, next_step h, if_pos e]
    · rw [List.getElem?_set_ne e, List.getElem?_map, List.getElem?_map, List.getElem?_range hb, Option.map_some, Option.map_some, next_step h, if_neg e]
  · rw [List.getElem?_eq_none (by simp; omega), List.getElem?_eq_none (by simp; omega)]
theorem lk_step {l : List Dy.Sym} {i : Nat} {x : Dy.Sym} (h : l[i]? = some x) : lkAt l i = (lkAt l (i + 1)).set (i + 1) (Mk.next l (Mk.buckets l) (Mk.hashOf x % Mk.buckets l) (i + 1)) := by
  obtain ⟨hi, hx⟩ := List.getElem?_eq_some_iff.1 h
  apply List.ext_getElem?
  intro q
  unfold lkAt
  by_cases hq : q < l.length + 1
  · by_cases e : i + 1 = q
    · subst e
      rw [List.getElem?_set_self (by simpa using hq), List.getElem?_map, List.getElem?_range hq, Option.map_some, if_neg (by omega)]
      unfold Mk.linkOf
      rw [Nat.add_sub_cancel, h]
    · rw [List.getElem?_set_ne e, List.getElem?_map, List.getElem?_map, List.getElem?_range hq, Option.map_some, Option.map_some]
      by_cases h1 : q ≤ i
      · rw [if_pos h1, if_pos (by omega)]
      · rw [if_neg h1, if_neg (by omega)]
  · rw [List.getElem?_eq_none (by simp; omega), List.getElem?_eq_none (by simp; omega)]
theorem u64s_set (l : List Nat) (k v : Nat) : u64s (l.set k v) = (u64s l).set k (.int .u64 (v : Nat)) := by unfold u64s; rw [List.map_set]
theorem next_le (l : List Dy.Sym) (n b i : Nat) : Mk.next l n b i ≤ l.length := by
  unfold Mk.next
  have : ∀ (r : List Dy.Sym) (i : Nat), Mk.nextL n b r i ≤ i + r.length := by
    intro r
    induction r with
    | nil => intro i; simp [Mk.nextL]
    | cons s r ih =>
      intro i
      rw [Mk.nextL]
      have := ih (i + 1)
      rw [List.length_cons]
      split <;> omega
  by_cases h : i ≤ l.length
  · have := this (l.drop i) i
    rw [List.length_drop] at this
    omega
  · rw [List.drop_eq_nil_of_le (by omega)]
    exact Nat.zero_le _
theorem linkOf_le (l : List Dy.Sym) (i : Nat) : Mk.linkOf l i ≤ l.length := by
  unfold Mk.linkOf
  split
  · omega
  · exact next_le _ _ _ _
set_option maxRecDepth 100000 in
set_option maxHeartbeats 16000000 in
theorem phashes_any (A : Option Addr) (m c B : Nat) (l : List Dy.Sym) (w : World) (hB : B ≤ w.heap.size) (h : Rd w B 5 A m (symC l)) (hl : l.length = m) (h64 : m ≤ 64) (hnm : ∀ s ∈ l, s.name.size ≤ 4294967296) :
    Calls Tryz.prog 74 #[.slice A m c] w fun e w' => ∃ A' n' c', e = .returned (.slice A' n' c') ∧ w'.ownsRow w.heap.size 5 1 (.slice A' n' c') n' (bys (Mk.hashB l)) ∧ Below w.heap.size w w' := by
  obtain ⟨q, hq⟩ : ∃ q, m / 2 + 1 = q := ⟨_, rfl⟩
  have hq2 : (m : Int).tdiv 2 = ((m / 2 : Nat) : Int) := by rw [Int.tdiv_eq_ediv_of_nonneg (by omega)]; omega
  have hq3 : ((m / 2 : Nat) : Int) + 1 = (q : Int) := by omega
  have hq4 : (m : Int) / 2 + 1 = (q : Int) := by omega
  have hwm : IntKind.i64.wrap ((m : Int) + 1) = (m : Int) + 1 := by rw [IntKind.wrap_i64]; omega
  have hq64 : q ≤ 33 := by omega
  obtain ⟨i, hi, hz0, hz1, hz2⟩ := info_parts u64Inf5
  have Hi := hide hi
  have Hz0 := hide hz0
  have Hz1 := hide hz1
  have Hz2 := hide hz2
  have H := hide h
  have Hl := hide hl
  have Hnm := hide hnm
  have Hq := hide hq
  clear h hl hnm hi hz0 hz1 hz2 hq
  go_enter Tryz.func74, Tryz.ntmps74
  go_upto_region 2 with fail
  go_cut [4, 5] (fun bv lv wx => ∃ kb kl, bv = .slice (some ⟨kb, 0, none⟩) q q ∧ lv = .slice (some ⟨kl, 0, none⟩) (m + 1) (m + 1) ∧ Below w.heap.size w wx ∧ wx.ownsRow w.heap.size 23 1 (.slice (some ⟨kb, 0, none⟩) q q) q (u64s (List.replicate q 0)) ∧ wx.ownsRow w.heap.size 23 1 (.slice (some ⟨kl, 0, none⟩) (m + 1) (m + 1)) (m + 1) (u64s (List.replicate (m + 1) 0)) ∧ kb ≠ kl)
  case first =>
    refine wp_region_noPanic ?_
    refine wp_region_held_drew (S := fun W => Below w.heap.size w W) (by kernel_rfl) (below_drew' (Below.refl _ _)) (fun HS0 => ?_)
    refine takeD (i := 0) (d := some 13) (v := ?_) rfl rfl (by kernel_rfl) (by kernel_rfl) (by kernel_rfl) (fun _ _ _ h => h) (Or.inl ⟨by rfl, ?y0⟩) HS0 ?_
    case y0 => (intro w' hSw; (try dsimp only at hSw); go_simp; (try with_reducible rfl))
    simp only [Act.put, List.setIfInBounds_toArray, List.set_cons_zero, List.set_cons_succ]
    refine takeD (i := 2) (d := some 15) (v := ?_) rfl rfl (by kernel_rfl) (by kernel_rfl) (by kernel_rfl) (fun _ _ _ h => h) (Or.inl ⟨by rfl, ?y2⟩) HS0 ?_
    case y2 => (intro w' hSw; (try dsimp only at hSw); go_simp; (try with_reducible rfl))
    simp only [Act.put, List.setIfInBounds_toArray, List.set_cons_zero, List.set_cons_succ]
    refine takeD (i := 3) (d := some 16) (v := ?_) rfl rfl (by kernel_rfl) (by kernel_rfl) (by kernel_rfl) (fun _ _ _ h => h) (Or.inl ⟨by rfl, ?y3⟩) HS0 ?_
    case y3 => (intro w' hSw; (try dsimp only at hSw); go_simp; (try with_reducible rfl))
    simp only [Act.put, List.setIfInBounds_toArray, List.set_cons_zero, List.set_cons_succ]
    refine takeD (i := 4) (d := some 17) (v := .int .i64 ((m + 1 : Nat) : Int)) rfl rfl (by kernel_rfl) (by kernel_rfl) (by kernel_rfl) (fun _ _ _ h => h) (Or.inl ⟨by rfl, ?y4⟩) HS0 ?_
    case y4 => (intro w' hSw; (try dsimp only at hSw); go_simp; (try rw [hwm]); (try rfl))
    simp only [Act.put, List.setIfInBounds_toArray, List.set_cons_zero, List.set_cons_succ]
    refine wpAnyH_ready (rs := [1, 5]) (by kernel_rfl) (by simp) ?_
    refine AllReadyH.cons (i := 1) rfl (fun K hK => ?_) (AllReadyH.cons (i := 5) rfl (fun K hK => ?_) AllReadyH.nil)
    · skip
      rw [if_pos (by rfl)]
      refine wp_make_full _ _ 94 rfl w.heap.size 23 i (.int .u64 0) 1 Tryz.underlying94 (unhide Hi) (unhide Hz0) (unhide Hz1) _ _ _ _ (q) rfl rfl rfl rfl (by rw [unhide Hz2]; omega) (by unfold maxLen; omega) (Nat.le_refl _) ?_
      intro v1 hov1 hgv1
      rw [zeros64] at hov1
      show K (Act.put _ (some 14) _) _
      have hbv1 := (below_drew' (Below.refl w.heap.size w)).grown hgv1 (Below.size (below_drew' (Below.refl w.heap.size w))) (fun k hk => by cases hk)
      refine hK.out _ _ hbv1 (fun hHeld => ?_)
      clear hK K HS0
      have HS0 := hHeld
      clear hHeld
      (try simp only [Act.put, List.setIfInBounds_toArray, List.set_cons_zero, List.set_cons_succ])
      refine takeD (i := 6) (d := some 4) (v := ?_) rfl rfl (by kernel_rfl) (by kernel_rfl) (by kernel_rfl) (fun _ _ _ h => h) (Or.inl ⟨by rfl, ?y6⟩) HS0 ?_
      case y6 => (intro w' hSw; (try dsimp only at hSw); go_simp; (try with_reducible rfl))
      simp only [Act.put, List.setIfInBounds_toArray, List.set_cons_zero, List.set_cons_succ]
      refine wpAnyH_ready (rs := [5]) (by kernel_rfl) (by simp) ?_
      refine AllReadyH.cons (i := 5) rfl (fun K hK => ?_) AllReadyH.nil
      rw [if_pos (by rfl)]
      refine wp_make_full _ _ 94 rfl w.heap.size 23 i (.int .u64 0) 1 Tryz.underlying94 (unhide Hi) (unhide Hz0) (unhide Hz1) _ _ _ _ (m + 1) rfl rfl rfl rfl (by rw [unhide Hz2]; omega) (by unfold maxLen; omega) (Below.size hbv1) ?_
      intro v2 hov2 hgv2
      rw [zeros64] at hov2
      show K (Act.put _ (some 18) _) _
      have hbv2 := (hbv1).grown hgv2 (Below.size (hbv1)) (fun k hk => by cases hk)
      refine hK.out _ _ hbv2 (fun hHeld => ?_)
      clear hK K HS0
      have HS0 := hHeld
      clear hHeld
      (try simp only [Act.put, List.setIfInBounds_toArray, List.set_cons_zero, List.set_cons_succ])
      have hlt := (own_bklt hov1 _ rfl).2
      have hov1 := own_kept hov1 hgv2
      refine takeD (i := 7) (d := some 5) (v := ?_) rfl rfl (by kernel_rfl) (by kernel_rfl) (by kernel_rfl) (fun _ _ _ h => h) (Or.inl ⟨by rfl, ?y7⟩) HS0 ?_
      case y7 => (intro w' hSw; (try dsimp only at hSw); go_simp; (try with_reducible rfl))
      simp only [Act.put, List.setIfInBounds_toArray, List.set_cons_zero, List.set_cons_succ]
      refine wpAnyH_done (by kernel_rfl) ?_ _
      refine NoPanic.normal ?_
      go_wp2_with fail
      go_meet
      case rel => exact ⟨_, _, rfl, rfl, hbv2, hov1, hov2, Nat.ne_of_lt hlt⟩
    · skip
      rw [if_pos (by rfl)]
      refine wp_make_full _ _ 94 rfl w.heap.size 23 i (.int .u64 0) 1 Tryz.underlying94 (unhide Hi) (unhide Hz0) (unhide Hz1) _ _ _ _ (m + 1) rfl rfl rfl rfl (by rw [unhide Hz2]; omega) (by unfold maxLen; omega) (Nat.le_refl _) ?_
      intro v1 hov1 hgv1
      rw [zeros64] at hov1
      show K (Act.put _ (some 18) _) _
      have hbv1 := (below_drew' (Below.refl w.heap.size w)).grown hgv1 (Below.size (below_drew' (Below.refl w.heap.size w))) (fun k hk => by cases hk)
      refine hK.out _ _ hbv1 (fun hHeld => ?_)
      clear hK K HS0
      have HS0 := hHeld
      clear hHeld
      (try simp only [Act.put, List.setIfInBounds_toArray, List.set_cons_zero, List.set_cons_succ])
      refine wpAnyH_ready (rs := [1]) (by kernel_rfl) (by simp) ?_
      refine AllReadyH.cons (i := 1) rfl (fun K hK => ?_) AllReadyH.nil
      rw [if_pos (by rfl)]
      refine wp_make_full _ _ 94 rfl w.heap.size 23 i (.int .u64 0) 1 Tryz.underlying94 (unhide Hi) (unhide Hz0) (unhide Hz1) _ _ _ _ (q) rfl rfl rfl rfl (by rw [unhide Hz2]; omega) (by unfold maxLen; omega) (Below.size hbv1) ?_
      intro v2 hov2 hgv2
      rw [zeros64] at hov2
      show K (Act.put _ (some 14) _) _
      have hbv2 := (hbv1).grown hgv2 (Below.size (hbv1)) (fun k hk => by cases hk)
      refine hK.out _ _ hbv2 (fun hHeld => ?_)
      clear hK K HS0
      have HS0 := hHeld
      clear hHeld
      (try simp only [Act.put, List.setIfInBounds_toArray, List.set_cons_zero, List.set_cons_succ])
      have hlt := (own_bklt hov1 _ rfl).2
      have hov1 := own_kept hov1 hgv2
      refine takeD (i := 6) (d := some 4) (v := ?_) rfl rfl (by kernel_rfl) (by kernel_rfl) (by kernel_rfl) (fun _ _ _ h => h) (Or.inl ⟨by rfl, ?y6⟩) HS0 ?_
      case y6 => (intro w' hSw; (try dsimp only at hSw); go_simp; (try with_reducible rfl))
      simp only [Act.put, List.setIfInBounds_toArray, List.set_cons_zero, List.set_cons_succ]
      refine takeD (i := 7) (d := some 5) (v := ?_) rfl rfl (by kernel_rfl) (by kernel_rfl) (by kernel_rfl) (fun _ _ _ h => h) (Or.inl ⟨by rfl, ?y7⟩) HS0 ?_
      case y7 => (intro w' hSw; (try dsimp only at hSw); go_simp; (try with_reducible rfl))
      simp only [Act.put, List.setIfInBounds_toArray, List.set_cons_zero, List.set_cons_succ]
      refine wpAnyH_done (by kernel_rfl) ?_ _
      refine NoPanic.normal ?_
      go_wp2_with fail
      go_meet
      case rel => exact ⟨_, _, rfl, rfl, hbv2, hov2, hov1, Nat.ne_of_gt hlt⟩
  case rest =>
    obtain ⟨kb, kl, rfl, rfl, hbw, hob, hol, hne⟩ := hcut
    have hql : Mk.buckets l = q := by unfold Mk.buckets; rw [unhide Hl, unhide Hq]
    have hst : List.replicate q 0 = hdAt l q m := by rw [← unhide Hl, hd_start]
    have hst2 : List.replicate (m + 1) 0 = lkAt l m := by
      have h9 := lk_start l
      rw [unhide Hl] at h9
      exact h9.symm
    rw [hst] at hob
    rw [hst2] at hol
    have Hql := hide hql
    have Hbw := hide hbw
    have Hob := hide hob
    have Hol := hide hol
    clear hst hst2 hql hbw hob hol
    go_wp2_with fail
    go_loopg [6] m (fun gk iv wr => ∃ i : Nat, gk = i ∧ i ≤ m ∧ iv = .int .i64 i ∧ Below w.heap.size w wr ∧ wr.ownsRow w.heap.size 23 1 (.slice (some ⟨kb, 0, none⟩) q q) q (u64s (hdAt l q i)) ∧ wr.ownsRow w.heap.size 23 1 (.slice (some ⟨kl, 0, none⟩) (m + 1) (m + 1)) (m + 1) (u64s (lkAt l i)))
    case atStart => exact ⟨m, rfl, Nat.le_refl _, rfl, unhide Hbw, unhide Hob, unhide Hol⟩
    case round =>
    clear Hbw Hob Hol
    obtain ⟨i', hgk, hi, rfl, hbw, hob, hol⟩ := hrel
    have Hgk := hide hgk
    have Hbw := hide hbw
    have Hob := hide hob
    have Hol := hide hol
    have hws := hbw.size
    clear hgk hbw hob hol
    rcases Nat.eq_zero_or_pos i' with h0 | hpos
    · subst h0
      have hb1 := below_al wr (.cells #[.slice none 0 0] 71)
      have hbl := Blk.new wr 71 [.slice none 0 0]
      have hs1 : (wr.alloc (.cells #[.slice none 0 0] 71)).heap.size = wr.heap.size + 1 := by simp
      have hF0 : FiM (wr.alloc (.cells #[.slice none 0 0] 71)) 71 wr.heap.size 0 [.slice none 0 0] wr.heap.size none 0 0 [] := ⟨hbl, rfl, World.ownsRow_nil _ _ _ _, by simp [bk]⟩
      have H1 := lit2 (wr.alloc (.cells #[.slice none 0 0] 71)) (q : Nat) ((m : Nat) + 1)
      rw [hs1] at H1
      have hnn : ∀ v ∈ [q, m + 1], v < 18446744073709551616 := by intro v hv; simp at hv; rcases hv with rfl | rfl <;> omega
      have KN1 := hide ((FiE.refl hF0).number (w2 := (wr.alloc (.cells #[.slice none 0 0] 71)).alloc (.cells #[.int .u64 (q : Nat), .int .u64 ((m : Nat) + 1)] 23)) (below_al _ _) (by omega) (kv := wr.heap.size + 1) (m := 2) (cv := 2) (s := 4) (sv := 4) (vs := [q, m + 1]) (by omega) H1 rfl hnn rfl (by omega) (by omega) (by omega))
      have hsA : wr.heap.size + 2 = ((wr.alloc (.cells #[.slice none 0 0] 71)).alloc (.cells #[.int .u64 (q : Nat), .int .u64 ((m : Nat) + 1)] 23)).heap.size := by simp
      have HbA := hide (hb1.alloc (by simp) (.cells #[.int .u64 (q : Nat), .int .u64 ((m : Nat) + 1)] 23))
      have Hs1 := hide hs1
      have hm32 : ¬ ((m : Int) + 1 < 0) := by omega
      have hqn : (q : Int) < 4294967296 := by omega
      clear hb1 hbl hs1 hF0 H1 hnn hsA
      go_wp2_with fail
      refine (unhide KN1).mono ?_
      rintro e w4 ⟨rfl, A4, c4, hE4, -⟩
      have hbw4 : Below wr.heap.size wr w4 := ((below_al wr (.cells #[.slice none 0 0] 71))).trans ((hE4.below (B := wr.heap.size) (Nat.le_refl _) (fun k hk => by cases hk) (by rw [unhide Hs1]; omega)))
      have hob4 := own_below (unhide Hob) hbw4
      have hol4 := own_below (unhide Hol) hbw4
      have hq40 : hdAt l q 0 = Mk.heads l := by unfold hdAt Mk.heads; rw [unhide Hql]
      rw [hq40] at hob4
      rw [lk_end] at hol4
      have hbkb := (own_at (unhide Hob)).2.1
      have hbkl := (own_at (unhide Hol)).2.1
      have hlt4 := hE4.m.lt
      have hsz4 := hbw4.size
      have hn4 : ∀ v ∈ Mk.heads l, v < 18446744073709551616 := by
        intro v hv
        unfold Mk.heads at hv
        obtain ⟨b, -, rfl⟩ := List.mem_map.1 hv
        have := next_le l (Mk.buckets l) b 0
        rw [unhide Hl] at this
        omega
      have hn5 : ∀ v ∈ Mk.links l, v < 18446744073709551616 := by
        intro v hv
        unfold Mk.links at hv
        rcases List.mem_cons.1 hv with rfl | hv
        · omega
        · obtain ⟨b, -, rfl⟩ := List.mem_map.1 hv
          have := linkOf_le l b
          rw [unhide Hl] at this
          omega
      have KN2 := hide (pnumber_any _ _ _ _ _ A4 8 c4 _ kb 0 q q 4 (Mk.heads l) w4 hE4.m (by omega) (Rd.of_own hob4) (by omega) (fun e => by have := (hlt4 kb e).1; omega) hn4 (by omega) (by omega) (by omega))
      have HE4 := hide hE4
      have Hol4 := hide hol4
      have Hn5 := hide hn5
      clear hbw4 hob4 hol4 hlt4 hE4 hn4 hn5 KN1 HbA hq40
      go_wp2_with fail
      refine (unhide KN2).mono ?_
      rintro e w5 ⟨rfl, A5, c5, hE5, -⟩
      have hE45 := (unhide HE4).trans hE5
      have hlt5 := hE5.m.lt
      have hrl := Rd.of_own (unhide Hol4)
      have hrl5 : Rd w5 w5.heap.size 1 (some ⟨kl, 0, none⟩) (m + 1) (u64s (Mk.links l)) := (hE5.rdK hrl (Nat.le_refl _) (fun e => by injection e with e; have h9 : kl = wr.heap.size := e; omega) (fun k e1 e2 => by injection e1 with e1; have h9 : kl = k := e1; have := ((unhide HE4).m.lt k e2).1; omega)).more hE5.size
      have KN3 := hide (pnumber_any _ _ _ _ _ A5 _ c5 _ kl 0 (m + 1) (m + 1) 4 (Mk.links l) w5 hE5.m (by have := hE5.size; omega) hrl5 (by omega) (fun e => by have := (hlt5 kl e).1; omega) (unhide Hn5) (by omega) (by omega) (by omega))
      have HE45 := hide hE45
      clear hE5 hE45 hlt5 hrl hrl5 KN2 HE4 Hol4
      go_wp2_with fail
      refine (unhide KN3).mono ?_
      rintro e w6 ⟨rfl, A6, c6, hE6, -⟩
      have hE := (unhide HE45).trans hE6
      have y0 := hE.m.cell
      have HE := hide hE
      clear hE6 hE KN3 HE45
      go_wp2_with fail
      go_ret
      refine ⟨A6, 8 + 4 * q + 4 * (m + 1), c6, rfl, ?_, ?_⟩
      · have h9 := (unhide HE).m.row
        have e9 : Mk.hashB l = [] ++ Mk.lbs 4 [q, m + 1] ++ Mk.lbs 4 (Mk.heads l) ++ Mk.lbs 4 (Mk.links l) := by
          unfold Mk.hashB
          rw [unhide Hql, unhide Hl]
          simp [Mk.lbs]
        rw [e9]
        exact own_base h9 (by omega)
      · exact (unhide Hbw).trans ((below_al wr _).trans ((unhide HE).below (B := wr.heap.size) (Nat.le_refl _) (fun k hk => by cases hk) (by rw [unhide Hs1]; omega)) |>.mono hws)
    · obtain ⟨j, rfl⟩ : ∃ j, i' = j + 1 := ⟨i' - 1, by omega⟩
      obtain ⟨x, hx⟩ : ∃ x, l[j]? = some x := ⟨_, List.getElem?_eq_getElem (by rw [unhide Hl]; omega)⟩
      obtain ⟨b1, o1, hA1, hb1, st0, -⟩ := mksym_at ((unhide H).below ((unhide Hbw).mono hB)) hx
      have KH := hide (hash_any x.name wr ((unhide Hnm) x (List.mem_of_getElem? hx)))
      have Hhd := hide (hd_step hx q)
      have Hlk := hide (lk_step hx)
      rw [unhide Hql] at Hlk
      subst hA1
      have Hx := hide hx
      have hj1 : ((j + 1 : Nat) : Int) - 1 = (j : Int) := by omega
      have hj2 : (0 : Int) < ((j + 1 : Nat) : Int) := by omega
      clear hx hb1
      go_wp2_with fail
      refine (unhide KH).mono ?_
      rintro e w3 ⟨rfl, hb3⟩
      have hws3 := hb3.size
      have hob3 := own_below (unhide Hob) hb3
      have hol3 := own_below (unhide Hol) hb3
      have hbw3 := (unhide Hbw).trans (hb3.mono hws)
      obtain ⟨hv, hhv⟩ : ∃ hv, Dy.hash x.name.data.toList = hv := ⟨_, rfl⟩
      have hhv2 : Mk.hashOf x = hv := hhv
      rw [hhv]
      rw [hhv2] at Hhd Hlk
      obtain ⟨kk, hkk⟩ : ∃ kk, hv % q = kk := ⟨_, rfl⟩
      rw [hkk] at Hhd Hlk
      have hkm := modTm _ _ _ hkk
      have hkq : kk < q := by rw [← hkk]; exact Nat.mod_lt _ (by omega)
      obtain ⟨v, hvv⟩ : ∃ v, Mk.next l q kk (j + 1) = v := ⟨_, rfl⟩
      have hv64 : v ≤ 64 := by have := next_le l q kk (j + 1); rw [unhide Hl] at this; omega
      have yb := own_cell hob3 (i := kk) (u := .int .u64 (v : Nat)) (by
        unfold u64s hdAt
        rw [List.getElem?_map, List.getElem?_map, List.getElem?_range hkq, ← hvv]
        rfl)
      rw [hvv] at Hlk
      obtain ⟨z, hz⟩ : ∃ z : Nat, (lkAt l (j + 1))[j + 1]? = some z := ⟨_, List.getElem?_eq_getElem (by unfold lkAt; rw [List.length_map, List.length_range, unhide Hl]; omega)⟩
      have yl := own_cell hol3 (i := j + 1) (u := .int .u64 (z : Nat)) (by unfold u64s; rw [List.getElem?_map, hz]; rfl)
      have zl := own_free hol3 (j + 1)
      have hol4 := own_set (i := j + 1) hol3 (.int .u64 (v : Nat))
      have hob4 := own_setG hob3 (p := ⟨kl, j + 1, none⟩) (fun e => hne (by injection e)) (.int .u64 (v : Nat))
      have yb2 := own_cell hob4 (i := kk) (u := .int .u64 (v : Nat)) (by
        unfold u64s hdAt
        rw [List.getElem?_map, List.getElem?_map, List.getElem?_range hkq, ← hvv]
        rfl)
      have zb2 := own_free hob4 kk
      have hob5 := own_set (i := kk) hob4 (.int .u64 ((j + 1 : Nat) : Int))
      have hol5 := own_setG hol4 (p := ⟨kb, kk, none⟩) (fun e => hne (by injection e with e; exact e.symm)) (.int .u64 ((j + 1 : Nat) : Int))
      rw [← u64s_set, ← unhide Hhd] at hob5
      rw [← u64s_set, ← unhide Hlk] at hol5
      have hbw5 := (hbw3.setCell (p := ⟨kl, j + 1, none⟩) (own_at hol3).1 (.int .u64 (v : Nat))).setCell (p := ⟨kb, kk, none⟩) (own_at hob3).1 (.int .u64 ((j + 1 : Nat) : Int))
      have Hob5 := hide hob5
      have Hol5 := hide hol5
      have Hbw5 := hide hbw5
      have hki : ((kk : Nat) : Int) < (q : Int) := by omega
      have hji : ((j + 1 : Nat) : Int) < (m : Int) + 1 := by omega
      have hq0 : ((q : Nat) : Int) ≠ 0 := by omega
      have hq32 : IntKind.u32.wrap (q : Int) = (q : Int) := by rw [IntKind.wrap_u32]; omega
      have hvb : hv < 4294967296 := by rw [← hhv]; exact Nat.lt_trans (Dy.hash_lt _) (by omega)
      clear hb3 hob3 hol3 hbw3 hhv hhv2 hkk hvv hz hol4 hob4 hob5 hol5 hbw5 KH Hbw Hob Hol
      go_wp2_with fail
      go_roundg j
      case measure => have := unhide Hgk; omega
      case rel => exact ⟨j, rfl, by omega, by go_num, unhide Hbw5, unhide Hob5, unhide Hol5⟩
end Go.Proofs.YtnbecdahfgkffaaGreat
namespace Go.Proofs.YtnbecdahfgkffaaGreat
open Go.RowKit
theorem spec_cellsP {w : World} {g : Nat} {s : Xq} (h : Blk w g 66 s.l) : w.cell? ⟨g, 0, none⟩ = some (.int .u16 (s.x.type : Nat)) ∧ w.cell? ⟨g, 1, none⟩ = some (.int .u64 (s.x.entry : Nat)) ∧ w.cell? ⟨g, 2, none⟩ = some (.string s.x.interp) ∧ w.cell? ⟨g, 3, none⟩ = some (.slice s.At s.x.text.length s.ct) ∧ w.cell? ⟨g, 4, none⟩ = some (.slice s.Ad s.x.data.length s.cd) ∧ w.cell? ⟨g, 5, none⟩ = some (.int .u64 (s.x.more : Nat)) ∧ w.cell? ⟨g, 6, none⟩ = some (.bool s.x.dynamic) ∧ w.cell? ⟨g, 7, none⟩ = some (.slice s.A1 s.x.dyn.needed.length s.c1) ∧ w.cell? ⟨g, 8, none⟩ = some (.string s.x.dyn.soname) ∧ w.cell? ⟨g, 9, none⟩ = some (.string s.x.dyn.run) ∧ w.cell? ⟨g, 10, none⟩ = some (.slice s.A2 s.x.dyn.syms.length s.c2) ∧ w.cell? ⟨g, 11, none⟩ = some (.slice s.A3 s.x.dyn.relas.length s.c3) ∧ w.cell? ⟨g, 12, none⟩ = some (.int .i64 s.x.apart) :=
  ⟨h.cell (i := 0) rfl, h.cell (i := 1) rfl, h.cell (i := 2) rfl, h.cell (i := 3) rfl, h.cell (i := 4) rfl, h.cell (i := 5) rfl, h.cell (i := 6) rfl, h.cell (i := 7) rfl, h.cell (i := 8) rfl, h.cell (i := 9) rfl, h.cell (i := 10) rfl, h.cell (i := 11) rfl, h.cell (i := 12) rfl⟩
set_option maxRecDepth 100000 in
set_option maxHeartbeats 8000000 in
theorem pbase_any (s : Xq) (w : World) : Calls Tryz.prog 27 #[.agg s.l.toArray] w fun e w' => e = .returned (.int .u64 (Mk.base s.x : Nat)) ∧ Below w.heap.size w w' := by
  have hb1 : Below w.heap.size w (w.alloc (.cells #[.int .u16 (s.x.type : Nat), .int .u64 (s.x.entry : Nat), .string s.x.interp, .slice s.At s.x.text.length s.ct, .slice s.Ad s.x.data.length s.cd, .int .u64 (s.x.more : Nat), .bool s.x.dynamic, .slice s.A1 s.x.dyn.needed.length s.c1, .string s.x.dyn.soname, .string s.x.dyn.run, .slice s.A2 s.x.dyn.syms.length s.c2, .slice s.A3 s.x.dyn.relas.length s.c3, .int .i64 s.x.apart] 66)) := (Below.refl _ _).alloc (Nat.le_refl _) _
  have y0 : (w.alloc (.cells #[.int .u16 (s.x.type : Nat), .int .u64 (s.x.entry : Nat), .string s.x.interp, .slice s.At s.x.text.length s.ct, .slice s.Ad s.x.data.length s.cd, .int .u64 (s.x.more : Nat), .bool s.x.dynamic, .slice s.A1 s.x.dyn.needed.length s.c1, .string s.x.dyn.soname, .string s.x.dyn.run, .slice s.A2 s.x.dyn.syms.length s.c2, .slice s.A3 s.x.dyn.relas.length s.c3, .int .i64 s.x.apart] 66)).cell? ⟨w.heap.size, 0, none⟩ = some (.int .u16 (s.x.type : Nat)) := (Blk.new w 66 s.l).cell (i := 0) rfl
  have Hb1 := hide hb1
  have Hba := hide (show Mk.base s.x = if s.x.type = 2 then 4194304 else 0 from rfl)
  show Calls _ _ #[.agg #[.int .u16 (s.x.type : Nat), .int .u64 (s.x.entry : Nat), .string s.x.interp, .slice s.At s.x.text.length s.ct, .slice s.Ad s.x.data.length s.cd, .int .u64 (s.x.more : Nat), .bool s.x.dynamic, .slice s.A1 s.x.dyn.needed.length s.c1, .string s.x.dyn.soname, .string s.x.dyn.run, .slice s.A2 s.x.dyn.syms.length s.c2, .slice s.A3 s.x.dyn.relas.length s.c3, .int .i64 s.x.apart]] w _
  clear hb1
  by_cases h : s.x.type = 2
  · have q1 : ((s.x.type : Int) == 2) = true := by rw [h]; rfl
    have He := hide (show Mk.base s.x = 4194304 by rw [unhide Hba, if_pos h])
    clear h
    go_enter Tryz.func27, Tryz.ntmps27
    go_wp2_with fail
    go_ret
    exact ⟨by rw [unhide He]; rfl, unhide Hb1⟩
  · have q1 : ((s.x.type : Int) == 2) = false := by rw [beq_eq_false_iff_ne]; omega
    have He := hide (show Mk.base s.x = 0 by rw [unhide Hba, if_neg h])
    clear h
    go_enter Tryz.func27, Tryz.ntmps27
    go_wp2_with fail
    go_ret
    exact ⟨by rw [unhide He]; rfl, unhide Hb1⟩
set_option maxRecDepth 100000 in
set_option maxHeartbeats 8000000 in
theorem pempty_any (s : Xq) (w : World) (ho : DqOk s.q) : Calls Tryz.prog 68 #[.agg #[.slice s.A1 s.x.dyn.needed.length s.c1, .string s.x.dyn.soname, .string s.x.dyn.run, .slice s.A2 s.x.dyn.syms.length s.c2, .slice s.A3 s.x.dyn.relas.length s.c3]] w fun e w' => e = .returned (.bool (Mk.empty s.x.dyn)) ∧ Below w.heap.size w w' := by
  have hb1 : Below w.heap.size w (w.alloc (.cells #[.slice s.A1 s.x.dyn.needed.length s.c1, .string s.x.dyn.soname, .string s.x.dyn.run, .slice s.A2 s.x.dyn.syms.length s.c2, .slice s.A3 s.x.dyn.relas.length s.c3] 29)) := (Below.refl _ _).alloc (Nat.le_refl _) _
  have hbl := Blk.new w 29 [.slice s.A1 s.x.dyn.needed.length s.c1, .string s.x.dyn.soname, .string s.x.dyn.run, .slice s.A2 s.x.dyn.syms.length s.c2, .slice s.A3 s.x.dyn.relas.length s.c3]
  have y0 : (w.alloc (.cells #[.slice s.A1 s.x.dyn.needed.length s.c1, .string s.x.dyn.soname, .string s.x.dyn.run, .slice s.A2 s.x.dyn.syms.length s.c2, .slice s.A3 s.x.dyn.relas.length s.c3] 29)).cell? ⟨w.heap.size, 0, none⟩ = some (.slice s.A1 s.x.dyn.needed.length s.c1) := hbl.cell (i := 0) rfl
  have y1 : (w.alloc (.cells #[.slice s.A1 s.x.dyn.needed.length s.c1, .string s.x.dyn.soname, .string s.x.dyn.run, .slice s.A2 s.x.dyn.syms.length s.c2, .slice s.A3 s.x.dyn.relas.length s.c3] 29)).cell? ⟨w.heap.size, 1, none⟩ = some (.string s.x.dyn.soname) := hbl.cell (i := 1) rfl
  have y2 : (w.alloc (.cells #[.slice s.A1 s.x.dyn.needed.length s.c1, .string s.x.dyn.soname, .string s.x.dyn.run, .slice s.A2 s.x.dyn.syms.length s.c2, .slice s.A3 s.x.dyn.relas.length s.c3] 29)).cell? ⟨w.heap.size, 2, none⟩ = some (.string s.x.dyn.run) := hbl.cell (i := 2) rfl
  have y3 : (w.alloc (.cells #[.slice s.A1 s.x.dyn.needed.length s.c1, .string s.x.dyn.soname, .string s.x.dyn.run, .slice s.A2 s.x.dyn.syms.length s.c2, .slice s.A3 s.x.dyn.relas.length s.c3] 29)).cell? ⟨w.heap.size, 3, none⟩ = some (.slice s.A2 s.x.dyn.syms.length s.c2) := hbl.cell (i := 3) rfl
  have y4 : (w.alloc (.cells #[.slice s.A1 s.x.dyn.needed.length s.c1, .string s.x.dyn.soname, .string s.x.dyn.run, .slice s.A2 s.x.dyn.syms.length s.c2, .slice s.A3 s.x.dyn.relas.length s.c3] 29)).cell? ⟨w.heap.size, 4, none⟩ = some (.slice s.A3 s.x.dyn.relas.length s.c3) := hbl.cell (i := 4) rfl
  have n1 : s.x.dyn.needed.length ≤ 4294967296 := ho.n1
  have n2 : s.x.dyn.syms.length ≤ 4294967296 := ho.n2
  have n3 : s.x.dyn.relas.length ≤ 4294967296 := ho.n3
  have Hb1 := hide hb1
  have Hem := hide (show Mk.empty s.x.dyn = (decide (s.x.dyn.needed.length + s.x.dyn.syms.length + s.x.dyn.relas.length = 0) && (decide (s.x.dyn.soname.size = 0) && decide (s.x.dyn.run.size = 0))) from rfl)
  clear hb1 hbl ho
  by_cases h : s.x.dyn.needed.length + s.x.dyn.syms.length + s.x.dyn.relas.length = 0
  · have q1 : ((s.x.dyn.needed.length : Int) + (s.x.dyn.syms.length : Int) + (s.x.dyn.relas.length : Int) == 0) = true := by rw [beq_iff_eq]; omega
    have He := hide (show Mk.empty s.x.dyn = (decide (s.x.dyn.soname.size = 0) && decide (s.x.dyn.run.size = 0)) by rw [unhide Hem, decide_eq_true h, Bool.true_and])
    clear h
    by_cases h1 : s.x.dyn.soname.size = 0
    · have q2 := toList_empty h1
      by_cases h2 : s.x.dyn.run.size = 0
      · have q3 := toList_empty h2
        have He2 := hide (show Mk.empty s.x.dyn = true by rw [unhide He]; simp [h1, h2])
        clear h1 h2
        go_enter Tryz.func68, Tryz.ntmps68
        go_wp2_with fail
        go_ret
        exact ⟨by rw [unhide He2]; rfl, unhide Hb1⟩
      · have q3 := toList_some h2
        have He2 := hide (show Mk.empty s.x.dyn = false by rw [unhide He]; simp [h1, h2])
        clear h1 h2
        go_enter Tryz.func68, Tryz.ntmps68
        go_wp2_with fail
        go_ret
        exact ⟨by rw [unhide He2]; rfl, unhide Hb1⟩
    · have q2 := toList_some h1
      have He2 := hide (show Mk.empty s.x.dyn = false by rw [unhide He]; simp [h1])
      clear h1
      go_enter Tryz.func68, Tryz.ntmps68
      go_wp2_with fail
      go_ret
      exact ⟨by rw [unhide He2]; rfl, unhide Hb1⟩
  · have q1 : ((s.x.dyn.needed.length : Int) + (s.x.dyn.syms.length : Int) + (s.x.dyn.relas.length : Int) == 0) = false := by rw [beq_eq_false_iff_ne]; omega
    have He2 := hide (show Mk.empty s.x.dyn = false by rw [unhide Hem, decide_eq_false h, Bool.false_and])
    clear h
    go_enter Tryz.func68, Tryz.ntmps68
    go_wp2_with fail
    go_ret
    exact ⟨by rw [unhide He2]; rfl, unhide Hb1⟩
end Go.Proofs.YtnbecdahfgkffaaGreat
namespace Go.Proofs.YtnbecdahfgkffaaGreat
open Go.RowKit
section
variable {P : Program} {t e : TypeId} {size bytes : Nat}
theorem rd_src (T : SlTy P t e size bytes) {w : World} {B : Nat} {A : Option Addr} {m : Nat} {xs : List Value} (h : Rd w B size A m xs) (hm : 0 < m) : ∃ ad, A = some ad ∧ ∀ j u, xs[j]? = some u → w.cell? (ad.add j) = some u := by
  rcases h.2 with rfl | ⟨b, off, rfl, _, hc⟩
  · exfalso
    have h1 := h.1
    simp only [List.length_nil] at h1
    have := Nat.mul_pos hm T.hsz
    omega
  · exact ⟨_, rfl, fun j u hu => by rw [Addr.add_lit]; exact hc j u hu⟩
theorem run_appG (T : SlTy P t e size bytes) (w : World) (ty : TypeId) (A : Option Addr) (n B : Nat) (olds : List Value) (hr : Rd w B size A n olds) (B2 : Nat) (A2 : Option Addr) (m c : Nat) (news : List Value) (hr2 : Rd w B2 size A2 m news)
    (h1 : ∀ u ∈ news, u.oneCell' = true) (hb : (n + m) * bytes ≤ 140737488355328) :
    ∃ v' w', (Builtin.append_ #[t, t] ty #[.slice A n n, .slice A2 m c]).run P w = .ok v' w' ∧ ((m = 0 ∧ v' = .slice A n n ∧ w' = w) ∨ (0 < m ∧ w'.ownsRow w.heap.size e size v' (n + m) (olds ++ news) ∧ w.grownBy w' none)) := by
  have T' := T
  obtain ⟨ht, ⟨i, z, hi, hz, hs, hby, hzs⟩, hsz, hbp⟩ := T
  have h63 : n + m ≤ maxLen := by
    have : (n + m) * 1 ≤ (n + m) * bytes := Nat.mul_le_mul_left _ hbp
    unfold maxLen
    omega
  rcases Nat.eq_zero_or_pos m with rfl | hm
  · have hn0 : news = [] := List.eq_nil_of_length_eq_zero (by simpa using hr2.1)
    subst hn0
    refine ⟨_, _, ?_, .inl ⟨rfl, rfl, rfl⟩⟩
    cases A2 with
    | none => exact run_append_nothing w t t ty e i ht hi A n n (Nat.le_refl _) _ (Src.ofNil w ht c)
    | some a => exact run_append_nothing w t t ty e i ht hi A n n (Nat.le_refl _) _ (Src.ofSlice w ht a 0 c [] (by simp) (by simp) (by simp))
  · obtain ⟨ad, rfl, hc2⟩ := rd_src T' hr2 hm
    cases A with
    | some b0 =>
      have hc : ∀ j u, olds[j]? = some u → w.cell? (b0.add j) = some u := by
        intro j u hu
        rcases hr.2 with rfl | ⟨b, off, ha, _, hc⟩
        · simp at hu
        · injection ha with ha
          subst ha
          rw [Addr.add_lit]
          exact hc j u hu
      obtain ⟨v', w', hrun, r1, r2⟩ := run_append_arg_grows (P := P) w t ty e i z size bytes ht hi hz hs hby hzs hsz b0 n n olds hr.1 hc ad m c news hr2.1 hc2 (by omega) h63 hb
      exact ⟨v', w', hrun, .inr ⟨hm, r1, r2⟩⟩
    | none =>
      have hn : n = 0 ∧ olds = [] := by
        rcases hr.2 with rfl | ⟨b, off, ha, _, _⟩
        · have h1 := hr.1
          simp only [List.length_nil] at h1
          refine ⟨?_, rfl⟩
          rcases Nat.eq_zero_or_pos n with h | h
          · exact h
          · have := Nat.mul_pos h hsz
            omega
        · cases ha
      obtain ⟨rfl, rfl⟩ := hn
      obtain ⟨v', w', hrun, r1, r2, _⟩ := run_append_own (P := P) w w.heap.size t ty e i z size bytes ht hi hz hs hby hzs hsz (.slice none 0 0) 0 [] (World.ownsRow_nil w _ e size) ad m c news hr2.1 hc2 h1 h63 hb (Nat.le_refl _)
      exact ⟨v', w', hrun, .inr ⟨hm, r1, r2⟩⟩
theorem wpList_appGo (T : SlTy P t e size bytes) {w : World} {ops : Array Oper} {rest : List Oper} {o : Oper} {a : Act} {Q : Exit → Act → World → Prop} (hgd : o.guard = none) (s x : Operand)
    (ho : o.op = .call { callee := .builtin .append, args := #[s, x], argTypes := #[t, t] })
    (A : Option Addr) (n B : Nat) (olds : List Value) (hs : a.eval s = .slice A n n) (hr : Rd w B size A n olds)
    (B2 : Nat) (A2 : Option Addr) (m c : Nat) (news : List Value) (hx : a.eval x = .slice A2 m c) (hr2 : Rd w B2 size A2 m news) (h1 : ∀ u ∈ news, u.oneCell' = true)
    (hb : (n + m) * bytes ≤ 140737488355328) (hm : 0 < m)
    (h : ∀ A' c' w', w'.ownsRow w.heap.size e size (.slice A' (n + m) c') (n + m) (olds ++ news) → Below w.heap.size w w' → wpList P ops Q rest (a.put o.dst (.slice A' (n + m) c')) w') : wpList P ops Q (o :: rest) a w := by
  refine wpList_plain hgd fun _ hK => ?_
  obtain ⟨v', w', hrun, h2⟩ := run_appG T w o.type A n B olds hr B2 A2 m c news hr2 h1 hb
  unfold Oper.wp execOp
  simp only [ho, resolve, invoke, builtin, Sem.run_bind, Sem.run_pure, Result.andThen_ok, List.map_toArray, List.map_cons, List.map_nil, hs, hx, hrun]
  rcases h2 with ⟨rfl, _⟩ | ⟨_, h3, h4⟩
  · omega
  · obtain ⟨A', c', rfl⟩ := own_form h3
    exact hK _ _ (h A' c' w' h3 ((Below.refl _ _).grown h4 (Nat.le_refl _) (fun k hk => by cases hk)))
end
end Go.Proofs.YtnbecdahfgkffaaGreat
