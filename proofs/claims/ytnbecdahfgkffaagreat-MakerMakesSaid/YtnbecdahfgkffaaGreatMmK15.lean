/- Texts of the claim LawMakerMakes (Apart3, Apart4, MkL5, MkOp, LawMakerMakes): what the functions that the statement reaches compute, and plain laws of it. Conditions: those that each theorem states. -/
import Derived.Test.YtnbecdahfgkffaaGreatMmK1
import Derived.Test.YtnbecdahfgkffaaGreatMmK6
import Derived.Test.YtnbecdahfgkffaaGreatMmK9
import Derived.Test.YtnbecdahfgkffaaGreatMmK14
import Derived.Laws.EntriesVeiled
import Derived.Deep.DeepCutAuto
import Derived.Deep.CutBlock
import Derived.Test.YtnbecdahfgkffaaGreatRows
import Derived.ProofKit
import Derived.OpenShut
import Derived.ShutString
import Derived.ChangeOld
import Derived.Below
import Derived.SliceStrings
set_option linter.unusedVariables false
set_option linter.unusedSimpArgs false
namespace Go.Proofs.YtnbecdahfgkffaaGreat
open Go.RowKit
theorem rep_at (ys : List UInt8) (mark : UInt8) {j : Nat} (h1 : ys.length ≤ j) (h2 : j < ys.length + 40) : (ys ++ List.replicate 40 mark)[j]? = some mark := by
  rw [List.getElem?_append_right h1, List.getElem?_replicate, if_pos (by omega)]
set_option maxRecDepth 100000 in
set_option maxHeartbeats 2000000 in
theorem marked_any (A : Option Addr) (n m c B : Nat) (ys : List UInt8) (mark : UInt8) (w : World) (hr : Rd w B 1 A m (bys (ys ++ List.replicate 40 mark))) (hm : m = n + 40) (hn : n ≤ 4294967296) :
    Calls Tryz.prog 41 #[.slice A m c, .int .u8 mark.toNat] w fun e w' => e = .returned (.int .i64 40) ∧ w = w' := by
  have hyl : ys.length = n := by have := hr.len1; simp [bys] at this; omega
  have Hr := hide hr
  have Hyl := hide hyl
  have hmb : m ≤ 4294967400 := by omega
  have Hm := hide hm
  clear hr hyl hm
  go_enter Tryz.func41, Tryz.ntmps41
  go_wp2_with fail
  go_loopg [5, 6] 40 (fun gk nv av wr => ∃ k j : Nat, gk = 40 - k ∧ k ≤ 40 ∧ k + j = m ∧ nv = .int .i64 k ∧ av = .int .i64 ((j : Int) - 1) ∧ w = wr)
  case atStart => exact ⟨0, m, by omega, by omega, by omega, rfl, rfl, rfl⟩
  case round =>
  obtain ⟨k, j, hgk, hk, hj, rfl, rfl, rfl⟩ := hrel
  have Hgk := hide hgk
  have Hj := hide hj
  have hm := unhide Hm
  have hjm : j ≤ m := by omega
  have hjl : k < 40 → n < j := by omega
  have Hjl := hide hjl
  clear hgk hj hm hjl
  rcases Nat.lt_or_ge k 40 with hlt | hge
  case inr =>
    obtain rfl : k = 40 := by omega
    clear hk hge
    by_cases h0 : j = 0
    · subst h0
      go_wp2_with fail
      go_ret
      exact ⟨rfl, rfl⟩
    · have h1 : (0 : Int) ≤ (j : Int) - 1 := by omega
      go_wp2_with fail
      go_ret
      exact ⟨rfl, rfl⟩
  obtain ⟨i, rfl⟩ : ∃ i, j = i + 1 := ⟨j - 1, by have := (unhide Hjl) hlt; omega⟩
  have e1 : ((i + 1 : Nat) : Int) - 1 = (i : Int) := by omega
  rw [e1]
  obtain ⟨b1, o1, rfl, _, c1⟩ := (unhide Hr).at_ (k := i) (u := .int .u8 mark.toNat) (bys_at (rep_at ys mark (by rw [unhide Hyl]; have := (unhide Hjl) hlt; omega) (by rw [unhide Hyl]; have := unhide Hm; omega)))
  have him : i < m := by omega
  have hself : (((mark.toNat : Nat) : Int) == ((mark.toNat : Nat) : Int)) = true := beq_self_eq_true _
  clear e1
  go_wp2_with fail
  go_roundg (40 - (k + 1))
  case measure => have := unhide Hgk; omega
  case rel => exact ⟨k + 1, i, rfl, by omega, by have := unhide Hj; omega, by go_num, rfl, rfl⟩
structure RB where
  A : Option Addr
  n : Nat
  c : Nat
  xs : List UInt8
abbrev RB.v (r : RB) : Value := .slice r.A r.n r.c
def RB.ok (r : RB) (w : World) (base : Nat) : Prop := w.ownsRow base 5 1 r.v r.n (bys r.xs)
theorem RB.ok.rd {r : RB} {w : World} {base : Nat} (h : r.ok w base) : Rd w w.heap.size 1 r.A r.n (bys r.xs) := Rd.of_own h
def nilSl : Value := .slice none 0 0
def done (D : List RB) (N : Nat) : List Value := D.map RB.v ++ List.replicate (N - D.length) nilSl
theorem done_at {D : List RB} {N j : Nat} {d : RB} (h : D[j]? = some d) : (done D N)[j]? = some d.v := by
  have hlt := (List.getElem?_eq_some_iff.1 h).1
  unfold done
  rw [List.getElem?_append_left (by simpa using hlt), List.getElem?_map, h]
  rfl
theorem done_next {D : List RB} {N : Nat} (h : D.length < N) : (done D N)[D.length]? = some nilSl := by
  unfold done
  rw [List.getElem?_append_right (by simp), List.length_map, Nat.sub_self, List.getElem?_replicate, if_pos (by omega)]
theorem done_set {D : List RB} {N : Nat} (h : D.length < N) (d : RB) : (done D N).set D.length d.v = done (D ++ [d]) N := by
  unfold done
  rw [show N - D.length = (N - (D.length + 1)) + 1 from by omega, List.replicate_succ, List.set_append]
  simp
structure ApS (w wr : World) (base G gl : Nat) (R D E : List RB) : Prop where
  bel : Below base w wr
  hgl : w.heap.size < gl
  size : gl < wr.heap.size
  all : Blk wr G 24 (R.map RB.v)
  was : wr.ownsRow w.heap.size 24 1 (.slice (some ⟨w.heap.size, 0, none⟩) R.length R.length) R.length (done D R.length)
  long : wr.ownsRow w.heap.size 24 1 (.slice (some ⟨gl, 0, none⟩) R.length R.length) R.length (done E R.length)
  rows : ∀ (j : Nat) r, R[j]? = some r → r.ok wr base
  ds : ∀ (j : Nat) d r, D[j]? = some d → R[j]? = some r → d.n = r.n ∧ d.xs = r.xs ∧ d.ok wr (gl + 1)
  es : ∀ (j : Nat) d r, E[j]? = some d → R[j]? = some r → d.n = r.n + 40 ∧ d.xs = r.xs ++ List.replicate 40 (UInt8.ofNat (j + 1)) ∧ d.ok wr base ∧ ∀ g, d.v.ownBlock = some g → r.v.ownBlock = some g ∨ gl + 1 ≤ g
structure ApG (w : World) (base G : Nat) (R : List RB) : Prop where
  lo : base ≤ w.heap.size
  all : Blk w G 24 (R.map RB.v)
  rows : ∀ (j : Nat) r, R[j]? = some r → r.ok w base
  len : ∀ (j : Nat) r, R[j]? = some r → r.n ≤ 4294967296
  G : ∀ (j : Nat) r, R[j]? = some r → r.v.ownBlock ≠ some G
  pair : ∀ (i j : Nat) r s, R[i]? = some r → R[j]? = some s → i ≠ j → ∀ g, r.v.ownBlock = some g → s.v.ownBlock ≠ some g
  few : R.length ≤ 200
theorem ApG.lt {w : World} {base G j : Nat} {R : List RB} (h : ApG w base G R) {r : RB} (hr : R[j]? = some r) {g : Nat} (hg : r.v.ownBlock = some g) : g < w.heap.size := ((h.rows j r hr).lt g hg).2
theorem own_setNe {w : World} {base : Nat} {e : TypeId} {size n : Nat} {v : Value} {xs : List Value} (h : w.ownsRow base e size v n xs) {p : Addr} (hp : ∀ g, v.ownBlock = some g → g ≠ p.block) (u : Value) : (w.setCell p u).ownsRow base e size v n xs := by
  refine ⟨h.1, h.2.imp id ?_⟩
  rintro ⟨g, cap, cur, e1, e2, e3, r⟩
  exact ⟨g, cap, cur, e1, e2, (heap_setCell_other _ _ _ _ (by have := hp g (by rw [e1]; rfl); omega)).trans e3, r⟩
section
variable {w wr w' : World} {base G gl : Nat} {R D E : List RB} {r d : RB}
theorem RB.ok.below {B : Nat} (h : r.ok wr B) (hb : Below wr.heap.size wr w') : r.ok w' B := own_below h hb
theorem RB.ok.lo {B : Nat} (h : r.ok wr B) {g : Nat} (hg : r.v.ownBlock = some g) : B ≤ g := (h.lt g hg).1
theorem ApS.below (h : ApS w wr base G gl R D E) (q : ApG w base G R) (hb : Below wr.heap.size wr w') : ApS w w' base G gl R D E :=
  ⟨h.bel.trans (hb.mono (by have := h.size; have := h.hgl; have := q.lo; omega)), h.hgl, Nat.lt_of_lt_of_le h.size hb.size, h.all.belowSz hb, own_below h.was hb, own_below h.long hb, fun j r hr => (h.rows j r hr).below hb,
   fun j d r h1 h2 => by obtain ⟨a, b, c⟩ := h.ds j d r h1 h2; exact ⟨a, b, c.below hb⟩,
   fun j d r h1 h2 => by obtain ⟨a, b, c, e⟩ := h.es j d r h1 h2; exact ⟨a, b, c.below hb, e⟩⟩
theorem apSnoc_at {α : Type} {l : List α} {x y : α} {j : Nat} (h : (l ++ [x])[j]? = some y) : (l[j]? = some y) ∨ (j = l.length ∧ y = x) := by
  rw [List.getElem?_append] at h
  split at h
  · exact .inl h
  · rename_i hj
    have h2 : j - l.length = 0 := by
      have := (List.getElem?_eq_some_iff.1 h).1
      simp at this
      omega
    rw [h2] at h
    exact .inr ⟨by omega, by simpa using h.symm⟩
theorem ApS.put1 (h : ApS w wr base G gl R D E) (q : ApG w base G R) (hk : R[D.length]? = some r) (hd : d.ok wr (gl + 1)) (e1 : d.n = r.n) (e2 : d.xs = r.xs) : ApS w (wr.setCell ⟨w.heap.size, D.length, none⟩ d.v) base G gl R (D ++ [d]) E := by
  have hlt := (List.getElem?_eq_some_iff.1 hk).1
  have hG := q.all.lt
  have hgl := h.hgl
  refine ⟨h.bel.setCell q.lo _, h.hgl, by simpa using h.size, h.all.other (by simp; omega) _, ?_, own_setNe h.long (fun g hg => ?_) _, fun j s hs => own_setNe (h.rows j s hs) (fun g hg => ?_) _, fun j x s h1 h2 => ?_, fun j x s h1 h2 => ?_⟩
  · rw [← done_set hlt]
    exact own_set h.was _
  · simp [Value.ownBlock] at hg
    simp
    omega
  · have := q.lt hs hg
    simp
    omega
  · rcases apSnoc_at h1 with h1 | ⟨rfl, rfl⟩
    · obtain ⟨a, b, c⟩ := h.ds j x s h1 h2
      exact ⟨a, b, own_setNe c (fun g hg => by have := c.lo hg; simp; omega) _⟩
    · rw [hk] at h2
      injection h2 with h2
      subst h2
      exact ⟨e1, e2, own_setNe hd (fun g hg => by have := hd.lo hg; simp; omega) _⟩
  · obtain ⟨a, b, c, e⟩ := h.es j x s h1 h2
    refine ⟨a, b, own_setNe c (fun g hg => ?_) _, e⟩
    rcases e g hg with h3 | h3
    · have := q.lt h2 h3; simp; omega
    · simp; omega
theorem ApS.gone (h : ApS w wr base G gl R D E) (q : ApG w base G R) (hk : R[E.length]? = some r) {mark : UInt8} {A' : Option Addr} {c' : Nat} (hg : Gone wr w' base r.A r.n r.c r.xs mark 40 A' c') : ApS w w' base G gl R D E := by
  have hG := q.all.lt
  have hgl := h.hgl
  have hsz := hg.grew.kept.size
  have hrk := q.rows _ _ hk
  have hl : base ≤ wr.heap.size := by have := h.size; have := q.lo; omega
  refine ⟨h.bel.trans (hg.grew.below hl (fun k hk' => hrk.lo hk')), h.hgl, Nat.lt_of_lt_of_le h.size hsz, hg.grew.blk (by have := h.size; omega) (q.G _ _ hk) h.all, own_grown h.was hg.grew.kept (fun g hg => ?_), own_grown h.long hg.grew.kept (fun g hg => ?_), fun j s hs => ?_, fun j x s h1 h2 => ?_, fun j x s h1 h2 => ?_⟩
  · simp [Value.ownBlock] at hg
    intro e
    have := q.lt hk e
    omega
  · simp [Value.ownBlock] at hg
    intro e
    have := q.lt hk e
    omega
  · by_cases hj : j = E.length
    · subst hj
      rw [hk] at hs
      injection hs with hs
      subst hs
      exact hg.keeps
    · exact own_grown (h.rows j s hs) hg.grew.kept (fun g hg => q.pair j E.length s r hs hk hj g hg)
  · obtain ⟨a, b, c⟩ := h.ds j x s h1 h2
    exact ⟨a, b, own_grown c hg.grew.kept (fun g hg e => by have := c.lo hg; have := q.lt hk e; omega)⟩
  · obtain ⟨a, b, c, e⟩ := h.es j x s h1 h2
    have hj : j < E.length := (List.getElem?_eq_some_iff.1 h1).1
    refine ⟨a, b, own_grown c hg.grew.kept (fun g hg e2 => ?_), e⟩
    rcases e g hg with h3 | h3
    · exact q.pair j E.length s r h2 hk (by omega) g h3 e2
    · have := q.lt hk e2; omega
theorem ApS.put2 (h : ApS w wr base G gl R D E) (q : ApG w base G R) (hk : R[E.length]? = some r) (hd : d.ok wr base) (e1 : d.n = r.n + 40) (e2 : d.xs = r.xs ++ List.replicate 40 (UInt8.ofNat (E.length + 1)))
    (e3 : ∀ g, d.v.ownBlock = some g → r.v.ownBlock = some g ∨ gl + 1 ≤ g) : ApS w (wr.setCell ⟨gl, E.length, none⟩ d.v) base G gl R D (E ++ [d]) := by
  have hlt := (List.getElem?_eq_some_iff.1 hk).1
  have hG := q.all.lt
  have hgl := h.hgl
  have hlo := q.lo
  refine ⟨h.bel.setCell (by show base ≤ gl; omega) _, h.hgl, by simpa using h.size, h.all.other (by simp; omega) _, own_setNe h.was (fun g hg => ?_) _, ?_, fun j s hs => own_setNe (h.rows j s hs) (fun g hg => ?_) _, fun j x s h1 h2 => ?_, fun j x s h1 h2 => ?_⟩
  · simp [Value.ownBlock] at hg
    simp
    omega
  · rw [← done_set hlt]
    exact own_set h.long _
  · have := q.lt hs hg
    simp
    omega
  · obtain ⟨a, b, c⟩ := h.ds j x s h1 h2
    exact ⟨a, b, own_setNe c (fun g hg => by have := c.lo hg; simp; omega) _⟩
  · rcases apSnoc_at h1 with h1 | ⟨rfl, rfl⟩
    · obtain ⟨a, b, c, e⟩ := h.es j x s h1 h2
      refine ⟨a, b, own_setNe c (fun g hg => ?_) _, e⟩
      rcases e g hg with h3 | h3
      · have := q.lt h2 h3; simp; omega
      · simp; omega
    · rw [hk] at h2
      injection h2 with h2
      subst h2
      refine ⟨e1, e2, own_setNe hd (fun g hg => ?_) _, e3⟩
      rcases e3 g hg with h3 | h3
      · have := q.lt hk h3; simp; omega
      · simp; omega
theorem ApS.drewN (h : ApS w wr base G gl R D E) (m : Nat) : ApS w (wr.drewN m) base G gl R D E := ⟨below_drewN' h.bel m, h.hgl, h.size, h.all, h.was, h.long, h.rows, h.ds, h.es⟩
structure ApX (w wr : World) (base G gl : Nat) (R D : List RB) (k : Nat) : Prop where
  bel : Below base w wr
  hgl : w.heap.size < gl
  all : Blk wr G 24 (R.map RB.v)
  was : wr.ownsRow w.heap.size 24 1 (.slice (some ⟨w.heap.size, 0, none⟩) R.length R.length) R.length (done D R.length)
  rows : ∀ (j : Nat) r, k ≤ j → R[j]? = some r → r.ok wr base
  ds : ∀ (j : Nat) d r, D[j]? = some d → R[j]? = some r → d.n = r.n ∧ d.xs = r.xs ∧ d.ok wr (gl + 1)
theorem ApS.x (h : ApS w wr base G gl R D E) : ApX w wr base G gl R D 0 := ⟨h.bel, h.hgl, h.all, h.was, fun j r _ hr => h.rows j r hr, h.ds⟩
theorem ApX.drewN {k : Nat} (h : ApX w wr base G gl R D k) (m : Nat) : ApX w (wr.drewN m) base G gl R D k := ⟨below_drewN' h.bel m, h.hgl, h.all, h.was, h.rows, h.ds⟩
theorem ApX.next {k : Nat} (h : ApX w wr base G gl R D k) : ApX w wr base G gl R D (k + 1) := ⟨h.bel, h.hgl, h.all, h.was, fun j r hj hr => h.rows j r (by omega) hr, h.ds⟩
theorem ApX.set {k g o : Nat} (h : ApX w wr base G gl R D (k + 1)) (q : ApG w base G R) (hk : R[k]? = some r) (hg : r.v.ownBlock = some g) (u : Value) : ApX w (wr.setCell ⟨g, o, none⟩ u) base G gl R D (k + 1) := by
  have h1 := q.lt hk hg
  have h2 := (q.rows _ _ hk).lo hg
  have h3 := h.hgl
  refine ⟨h.bel.setCell h2 u, h.hgl, h.all.other (fun e => q.G _ _ hk (by rw [hg]; exact congrArg some e)) _, own_setNe h.was (fun g' hg' => ?_) _, fun j s hj hs => own_setNe (h.rows j s hj hs) (fun g' hg' e => ?_) _, fun j x s h4 h5 => ?_⟩
  · simp [Value.ownBlock] at hg'
    simp
    omega
  · simp at e
    subst e
    exact q.pair j k s r hs hk (by omega) _ hg' hg
  · obtain ⟨a, b, c⟩ := h.ds j x s h4 h5
    exact ⟨a, b, own_setNe c (fun g' hg' => by have := c.lo hg'; simp; omega) _⟩
end
end Go.Proofs.YtnbecdahfgkffaaGreat
namespace Go.Proofs.YtnbecdahfgkffaaGreat
open Go.RowKit
theorem slInfo : (Tryz.prog.info? 24).map (fun i => (i.zero, i.size, i.bytes)) = some (some (.slice none 0 0), 1, 24) := by kernel_rfl
theorem done_nil (N : Nat) : (madeCells nilSl.cells (N * 1)).toList = done [] N := by
  simp [done, nilSl, Value.cells, toList_madeCells_one]
theorem xor_u8 (c : UInt8) : ∃ y : UInt8, bits BinOp.xor IntKind.u8 ((c.toNat : Nat) : Int) 255 = ((y.toNat : Nat) : Int) := by
  have h : ∀ x : Fin 256, bits BinOp.xor IntKind.u8 ((x.val : Nat) : Int) 255 = ((255 - x.val : Nat) : Int) := by decide +kernel
  have h2 := h ⟨c.toNat, c.toNat_lt⟩
  refine ⟨UInt8.ofNat (255 - c.toNat), h2.trans ?_⟩
  have : (UInt8.ofNat (255 - c.toNat)).toNat = 255 - c.toNat := by simp; omega
  rw [this]
set_option maxRecDepth 100000 in
set_option maxHeartbeats 4000000 in
theorem apart_any (G base N : Nat) (R : List RB) (w : World) (q : ApG w base G R) (hN : R.length = N) :
    Calls Tryz.prog 13 #[.slice (some ⟨G, 0, none⟩) N N] w fun e w' => e = .returned (.bool true) ∧ Below base w w' := by
  obtain ⟨i, hi, hz0, hz1, hz2⟩ := info_parts slInfo
  have Hi := hide hi
  have Hz0 := hide hz0
  have Hz1 := hide hz1
  have Hz2 := hide hz2
  have hfew := q.few
  rw [hN] at hfew
  have Q := hide q
  have HN := hide hN
  clear hi hz0 hz1 hz2 q hN
  go_enter Tryz.func13, Tryz.ntmps13
  go_wp2_with (first
    | (at_make; (with_reducible refine (@id (wpList _ _ _ _ _ w) ?_)); refine wpList_make_full _ rfl _ _ 41 rfl w.heap.size 24 i nilSl 1 Tryz.underlying41 (unhide Hi) (unhide Hz0) (unhide Hz1) _ _ _ _ N rfl rfl rfl rfl (by rw [unhide Hz2]; omega) (by unfold maxLen; omega) (Nat.le_refl _) ?_; intro w1 hown1 hg1; have hsz1 := hg1.size; have Hown1 := hide hown1; have Hg1 := hide hg1; clear hown1 hg1)
    | (at_make; (with_reducible refine (@id (wpList _ _ _ _ _ w1) ?_)); refine wpList_make_full _ rfl _ _ 41 rfl w.heap.size 24 i nilSl 1 Tryz.underlying41 (unhide Hi) (unhide Hz0) (unhide Hz1) _ _ _ _ N rfl rfl rfl rfl (by rw [unhide Hz2]; omega) (by unfold maxLen; omega) hsz1 ?_; intro w2 hown2 hg2; have Hown2 := hide hown2; have Hg2 := hide hg2; clear hown2 hg2))
  have hS0 : ApS w w2 base G w1.heap.size R [] [] := by
    have q := unhide Q
    have g1 := unhide Hg1
    have g2 := unhide Hg2
    have o1 := own_grown (unhide Hown1) g2 (fun g hg e => by cases e)
    have o2 := unhide Hown2
    rw [done_nil, ← unhide HN] at o1 o2
    have hG := q.all.lt
    refine ⟨(((Below.refl base w).grown g1 q.lo (fun k hk => by cases hk)).grown g2 (Nat.le_trans q.lo hsz1) (fun k hk => by cases hk)), (own_at (unhide Hown1)).2.1, (own_at (unhide Hown2)).2.1, ?_, o1, o2, fun j r hr => own_grown (own_grown (q.rows j r hr) g1 (fun g hg e => by cases e)) g2 (fun g hg e => by cases e), fun j d r h1 => by simp at h1, fun j d r h1 => by simp at h1⟩
    exact (g2.block _ (by omega) (fun e => by cases e)).trans ((g1.block _ hG (fun e => by cases e)).trans q.all)
  generalize hgl : w1.heap.size = gl at *
  have HS0 := hide hS0
  clear hS0 hgl Hown1 Hown2 Hg1 Hg2 Hi Hz0 Hz1 Hz2
  go_loopg [5] N (fun gk av wr => ∃ D, gk = N - D.length ∧ D.length ≤ N ∧ av = .int .i64 D.length ∧ ApS w wr base G gl R D [])
  case atStart => exact ⟨[], by simp, by simp, rfl, unhide HS0⟩
  case round =>
  clear HS0
  obtain ⟨D, hgk, hk, rfl, hS⟩ := hrel
  have Hgk := hide hgk
  have HS := hide hS
  clear hgk hS
  rcases Nat.lt_or_ge D.length N with hlt | hge
  case inl =>
    obtain ⟨r, hr⟩ : ∃ r, R[D.length]? = some r := ⟨_, List.getElem?_eq_getElem (by rw [unhide HN]; exact hlt)⟩
    have c1 := (unhide HS).all.cell (i := D.length) (u := r.v) (by simp [hr])
    have hsz := (unhide HS).size
    have hgl := (unhide HS).hgl
    have hrk := (unhide HS).rows _ _ hr
    have K := hide (copyBytes_any r.A r.n r.c wr.heap.size r.xs wr (Nat.le_refl _) hrk.rd ((unhide Q).len _ _ hr))
    have Hr := hide hr
    clear hr hrk
    go_wp2_with fail
    refine (unhide K).mono ?_
    rintro e w3 ⟨A', c', rfl, ho, hb⟩
    have hS3 := (unhide HS).below (unhide Q) hb
    have hput := hS3.put1 (d := ⟨A', r.n, c', r.xs⟩) (unhide Q) (unhide Hr) (own_base ho (by omega)) rfl rfl
    have z1 := own_free hS3.was D.length
    have z2 := own_cell hS3.was (done_next (by rw [unhide HN]; exact hlt))
    have z3 := own_at hS3.was
    have Hput := hide hput
    clear hput hS3 ho hb K c1
    go_wp2_with fail
    go_roundg (N - (D.length + 1))
    case measure => have := unhide Hgk; omega
    case rel => exact ⟨D ++ [⟨A', r.n, c', r.xs⟩], by simp, by simp; omega, by simp, unhide Hput⟩
  have HDN := hide (show D.length = N by omega)
  have d1 : decide (D.length < N) = false := by simp; omega
  clear hge
  clear Hgk hk
  go_wp2_with fail
  go_loopg [6] N (fun gk av wr => ∃ E, gk = N - E.length ∧ E.length ≤ N ∧ av = .int .i64 E.length ∧ ApS w wr base G gl R D E)
  case atStart => exact ⟨[], by simp, by simp, rfl, unhide HS⟩
  case round =>
  clear HS
  obtain ⟨E, hgk, hk, rfl, hS⟩ := hrel
  have Hgk := hide hgk
  have HS := hide hS
  clear hgk hS
  rcases Nat.lt_or_ge E.length N with hlt | hge2
  case inl =>
    obtain ⟨r, hr⟩ : ∃ r, R[E.length]? = some r := ⟨_, List.getElem?_eq_getElem (by rw [unhide HN]; exact hlt)⟩
    have c1 := (unhide HS).all.cell (i := E.length) (u := r.v) (by simp [hr])
    have hsz := (unhide HS).size
    have hgl := (unhide HS).hgl
    have hlo := (unhide Q).lo
    have hrk := (unhide HS).rows _ _ hr
    have K := goneOn_any r.A r.n r.c base r.xs (UInt8.ofNat (E.length + 1)) wr hrk ((unhide Q).len _ _ hr) (by omega)
    have e1 : (((UInt8.ofNat (E.length + 1)).toNat : Nat) : Int) = (E.length : Int) + 1 := by simp; omega
    rw [e1] at K
    replace K := hide K
    have Hr := hide hr
    clear hr hrk e1
    go_wp2_with fail
    refine (unhide K).mono ?_
    rintro e w3 ⟨A', c', rfl, hg⟩
    have hS3 := (unhide HS).gone (unhide Q) (unhide Hr) hg
    have hat : ∀ g, (Value.slice A' (r.n + 40) c').ownBlock = some g → r.v.ownBlock = some g ∨ gl + 1 ≤ g := fun g h => (hg.grew.at_ g h).imp id fun h => by omega
    have hput := hS3.put2 (d := ⟨A', r.n + 40, c', r.xs ++ List.replicate 40 (UInt8.ofNat (E.length + 1))⟩) (unhide Q) (unhide Hr) hg.grew.own rfl rfl hat
    have z1 := own_free hS3.long E.length
    have z2 := own_cell hS3.long (done_next (by rw [unhide HN]; exact hlt))
    have z3 := own_at hS3.long
    have Hput := hide hput
    clear hput hS3 hg hat K c1
    go_wp2_with fail
    go_roundg (N - (E.length + 1))
    case measure => have := unhide Hgk; omega
    case rel => exact ⟨E ++ [⟨A', r.n + 40, c', r.xs ++ List.replicate 40 (UInt8.ofNat (E.length + 1))⟩], by simp, by simp; omega, by simp, unhide Hput⟩
  have HEN := hide (show E.length = N by omega)
  have d2 : decide (E.length < N) = false := by simp; omega
  clear hge2
  clear Hgk hk
  go_wp2_with fail
  go_loopg [7] N (fun gk av wr => ∃ k : Nat, gk = N - k ∧ k ≤ N ∧ av = .int .i64 k ∧ ApS w wr base G gl R D E)
  case atStart => exact ⟨0, by omega, by omega, rfl, unhide HS⟩
  case round =>
  clear HS
  obtain ⟨k, hgk, hk, rfl, hS⟩ := hrel
  have Hgk := hide hgk
  have HS := hide hS
  clear hgk hS
  rcases Nat.lt_or_ge k N with hlt | hge3
  case inl =>
    obtain ⟨r, hr⟩ : ∃ r, R[k]? = some r := ⟨_, List.getElem?_eq_getElem (by rw [unhide HN]; exact hlt)⟩
    obtain ⟨d, hd⟩ : ∃ d, D[k]? = some d := ⟨_, List.getElem?_eq_getElem (by rw [unhide HDN]; exact hlt)⟩
    obtain ⟨e, he⟩ : ∃ e, E[k]? = some e := ⟨_, List.getElem?_eq_getElem (by rw [unhide HEN]; exact hlt)⟩
    obtain ⟨u1, u2, u3⟩ := (unhide HS).ds _ _ _ hd hr
    obtain ⟨v1, v2, v3, _⟩ := (unhide HS).es _ _ _ he hr
    have c1 := (unhide HS).all.cell (i := k) (u := r.v) (by simp [hr])
    have c2 := own_cell (unhide HS).was (done_at hd)
    have c3 := own_cell (unhide HS).long (done_at he)
    have hrk := (unhide HS).rows _ _ hr
    have hrn := (unhide Q).len _ _ hr
    have K1 : ∀ m, Calls Tryz.prog 41 #[.slice e.A e.n e.c, .int .u8 ((k : Int) + 1)] (wr.drewN m) fun e w' => e = .returned (.int .i64 40) ∧ w' = wr.drewN m := by
      intro m
      have e1 : (((UInt8.ofNat (k + 1)).toNat : Nat) : Int) = (k : Int) + 1 := by simp; omega
      rw [← e1]
      have h := v3.rd
      rw [v2] at h
      exact (marked_any e.A r.n e.n e.c wr.heap.size r.xs (UInt8.ofNat (k + 1)) (wr.drewN m) h v1 hrn).mono fun _ _ h => ⟨h.1, h.2.symm⟩
    have K2 : ∀ m, Calls Tryz.prog 11 #[.slice r.A r.n r.c, .slice d.A d.n d.c] (wr.drewN m) fun e w' => e = .returned (.bool true) ∧ ∃ j, w' = (wr.drewN m).drewN j := by
      intro m
      have h := eqBytes_any r.A d.A r.n d.n r.c d.c wr.heap.size r.xs d.xs (wr.drewN m) hrk.rd u3.rd (by unfold maxLen; omega) (by unfold maxLen; omega)
      rwa [u2, decide_eq_true rfl] at h
    replace K1 := hide K1
    replace K2 := hide K2
    clear u1 u2 u3 v1 v2 v3 hr hd he hrk hrn
    go_wp2_with fail
    go_quiet (first
      | (go_at_call 41; exact Calls.quiet_of_same ((unhide K1) _))
      | (go_at_call 11; exact Calls.quiet_of ((unhide K2) _)))
    go_wp2_with fail
    go_roundg (N - (k + 1))
    case measure => have := unhide Hgk; omega
    case rel => exact ⟨k + 1, rfl, by omega, by go_num, (unhide HS).drewN _⟩
  have d3 : decide (k < N) = false := by simp; omega
  have HX := hide (unhide HS).x
  clear hge3 HS Hgk hk
  go_wp2_with fail
  go_loopg [8] N (fun gk av wr => ∃ k : Nat, gk = N - k ∧ k ≤ N ∧ av = .int .i64 k ∧ ApX w wr base G gl R D k)
  case atStart => exact ⟨0, by omega, by omega, rfl, unhide HX⟩
  case round =>
  clear HX
  obtain ⟨k, hgk, hk, rfl, hX⟩ := hrel
  have Hgk := hide hgk
  have HX := hide hX
  clear hgk hX
  rcases Nat.lt_or_ge k N with hlt | hge4
  case inr =>
    go_wp2_with fail
    go_ret
    exact ⟨rfl, (unhide HX).bel⟩
  obtain ⟨r, hr⟩ : ∃ r, R[k]? = some r := ⟨_, List.getElem?_eq_getElem (by rw [unhide HN]; exact hlt)⟩
  have c1 := (unhide HX).all.cell (i := k) (u := .slice r.A r.n r.c) (by simp [hr])
  have hrn := (unhide Q).len _ _ hr
  have Hr := hide hr
  have hok := (unhide HX).rows _ _ (Nat.le_refl _) hr
  have hX1 := (unhide HX).next
  have Hok := hide hok
  have HX1 := hide hX1
  clear hr hok hX1 HX
  go_wp2_with fail
  go_loopg [10] r.n (fun gk av wr => ∃ (j : Nat) (ys : List UInt8), gk = r.n - j ∧ j ≤ r.n ∧ av = .int .i64 j ∧ ApX w wr base G gl R D (k + 1) ∧ RB.ok ⟨r.A, r.n, r.c, ys⟩ wr base)
  case atStart => exact ⟨0, r.xs, by omega, by omega, rfl, unhide HX1, unhide Hok⟩
  case round =>
  clear HX1 Hok c1
  obtain ⟨j, ys, hgj, hj, rfl, hX1, hok⟩ := hrel
  have Hgj := hide hgj
  have HX1 := hide hX1
  have Hok := hide hok
  clear hgj hX1 hok
  rcases Nat.lt_or_ge j r.n with hjlt | hjge
  case inl =>
    have hown : _ := unhide Hok
    unfold RB.ok RB.v at hown
    simp only at hown
    have hyl : ys.length = r.n := by have := hown.1; simpa [bys] using this
    obtain ⟨g, hA, hg1, hg2⟩ := own_some hown (by omega)
    obtain ⟨x, hx⟩ : ∃ x, ys[j]? = some x := ⟨_, List.getElem?_eq_getElem (by rw [hyl]; exact hjlt)⟩
    rw [hA] at hown
    have z1 := own_free hown j
    have z2 := own_cell hown (bys_at hx)
    obtain ⟨y, hy⟩ := xor_u8 x
    have hset := own_set (i := j) hown (.int .u8 y.toNat)
    rw [bys_set] at hset
    have hXs := (unhide HX1).set (g := g) (o := j) (unhide Q) (unhide Hr) (by show (Value.slice r.A r.n r.c).ownBlock = some g; rw [hA]; rfl) (.int .u8 y.toNat)
    have HXs := hide hXs
    have HA := hide hA
    have Hset := hide hset
    rw [hA]
    clear hown hyl hx hXs hset hA HX1 Hok
    go_wp2_with fail
    rw [← unhide HA]
    go_roundg (r.n - (j + 1))
    case measure => have := unhide Hgj; omega
    case rel => exact ⟨j + 1, ys.set j y, rfl, by omega, by go_num, unhide HXs, by show World.ownsRow _ _ _ _ (Value.slice r.A r.n r.c) _ _; rw [unhide HA]; exact unhide Hset⟩
  have d4 : decide (j < r.n) = false := by simp; omega
  clear hjge Hok Hgj hj
  go_wp2_with fail
  go_loopg [11] (N - (k + 1)) (fun gk av wr => ∃ o : Nat, gk = N - o ∧ k + 1 ≤ o ∧ o ≤ N ∧ av = .int .i64 o ∧ ApX w wr base G gl R D (k + 1))
  case atStart => exact ⟨k + 1, by omega, by omega, by omega, by go_num, unhide HX1⟩
  case round =>
  clear HX1
  obtain ⟨o, hgo, hko, ho, rfl, hX1⟩ := hrel
  have Hgo := hide hgo
  have HX1 := hide hX1
  clear hgo hX1
  rcases Nat.lt_or_ge o N with holt | hoge
  case inl =>
    obtain ⟨s, hs⟩ : ∃ s, R[o]? = some s := ⟨_, List.getElem?_eq_getElem (by rw [unhide HN]; exact holt)⟩
    obtain ⟨d, hd⟩ : ∃ d, D[o]? = some d := ⟨_, List.getElem?_eq_getElem (by rw [unhide HDN]; exact holt)⟩
    obtain ⟨u1, u2, u3⟩ := (unhide HX1).ds _ _ _ hd hs
    have hsk := (unhide HX1).rows _ _ hko hs
    have hsn := (unhide Q).len _ _ hs
    have c1 := (unhide HX1).all.cell (i := o) (u := s.v) (by simp [hs])
    have c2 := own_cell (unhide HX1).was (done_at hd)
    have K2 : ∀ m, Calls Tryz.prog 11 #[.slice s.A s.n s.c, .slice d.A d.n d.c] (wr.drewN m) fun e w' => e = .returned (.bool true) ∧ ∃ j, w' = (wr.drewN m).drewN j := by
      intro m
      have h := eqBytes_any s.A d.A s.n d.n s.c d.c wr.heap.size s.xs d.xs (wr.drewN m) hsk.rd u3.rd (by unfold maxLen; omega) (by unfold maxLen; omega)
      rwa [u2, decide_eq_true rfl] at h
    replace K2 := hide K2
    clear u1 u2 u3 hs hd hsk hsn
    go_wp2_with fail
    go_quiet ((go_at_call 11; exact Calls.quiet_of ((unhide K2) _)))
    go_wp2_with fail
    go_roundg (N - (o + 1))
    case measure => have := unhide Hgo; omega
    case rel => exact ⟨o + 1, rfl, by omega, by omega, by go_num, (unhide HX1).drewN _⟩
  have d5 : decide (o < N) = false := by simp; omega
  clear hoge Hgo hko ho
  go_wp2_with fail
  go_roundg (N - (k + 1))
  case measure => have := unhide Hgk; omega
  case rel => exact ⟨k + 1, rfl, by omega, by go_num, unhide HX1⟩
end Go.Proofs.YtnbecdahfgkffaaGreat
namespace Go.Proofs.YtnbecdahfgkffaaGreat
open Go.RowKit
theorem ApG.four {w : World} {base b2 b3 b4 : Nat} {r1 r2 r3 r4 : RB} (h3 : r3.ok w base) (h4 : r4.ok w b2) (h1 : r1.ok w b3) (h2 : r2.ok w b4) (hb : base ≤ b2) (hb2 : b2 ≤ b3) (hb3 : b3 ≤ b4) (hb4 : b4 ≤ w.heap.size)
    (l3 : ∀ g, r3.v.ownBlock = some g → g < b2) (l4 : ∀ g, r4.v.ownBlock = some g → g < b3) (l1 : ∀ g, r1.v.ownBlock = some g → g < b4) (n1 : r1.n ≤ 4294967296) (n2 : r2.n ≤ 4294967296) (n3 : r3.n ≤ 4294967296) (n4 : r4.n ≤ 4294967296) :
    ApG (w.alloc (.cells #[r1.v, r2.v, r3.v, r4.v] 24)) base w.heap.size [r1, r2, r3, r4] := by
  have hbl : Below w.heap.size w (w.alloc (.cells #[r1.v, r2.v, r3.v, r4.v] 24)) := (Below.refl _ _).alloc (Nat.le_refl _) _
  have hi : ∀ (j : Nat) r, [r1, r2, r3, r4][j]? = some r → (j = 0 ∧ r = r1) ∨ (j = 1 ∧ r = r2) ∨ (j = 2 ∧ r = r3) ∨ (j = 3 ∧ r = r4) := by
    intro j r h
    match j with
    | 0 => exact .inl ⟨rfl, by simpa using h.symm⟩
    | 1 => exact .inr (.inl ⟨rfl, by simpa using h.symm⟩)
    | 2 => exact .inr (.inr (.inl ⟨rfl, by simpa using h.symm⟩))
    | 3 => exact .inr (.inr (.inr ⟨rfl, by simpa using h.symm⟩))
    | k + 4 => simp at h
  have lt3 : ∀ g, r3.v.ownBlock = some g → base ≤ g ∧ g < b2 := fun g hg => ⟨h3.lo hg, l3 g hg⟩
  have lt4 : ∀ g, r4.v.ownBlock = some g → b2 ≤ g ∧ g < b3 := fun g hg => ⟨h4.lo hg, l4 g hg⟩
  have lt1 : ∀ g, r1.v.ownBlock = some g → b3 ≤ g ∧ g < b4 := fun g hg => ⟨h1.lo hg, l1 g hg⟩
  have lt2 : ∀ g, r2.v.ownBlock = some g → b4 ≤ g ∧ g < w.heap.size := fun g hg => h2.lt g hg
  refine ⟨by simp; omega, heap_alloc_new _ _, fun j r h => ?_, fun j r h => ?_, fun j r h e => ?_, fun i j r s hr hs hij g hg e => ?_, by simp⟩
  · rcases hi j r h with ⟨_, rfl⟩ | ⟨_, rfl⟩ | ⟨_, rfl⟩ | ⟨_, rfl⟩
    · exact own_base (own_below h1 hbl) (by omega)
    · exact own_base (own_below h2 hbl) (by omega)
    · exact own_below h3 hbl
    · exact own_base (own_below h4 hbl) hb
  · rcases hi j r h with ⟨_, rfl⟩ | ⟨_, rfl⟩ | ⟨_, rfl⟩ | ⟨_, rfl⟩ <;> assumption
  · rcases hi j r h with ⟨_, rfl⟩ | ⟨_, rfl⟩ | ⟨_, rfl⟩ | ⟨_, rfl⟩
    · have := lt1 _ e; omega
    · have := lt2 _ e; omega
    · have := lt3 _ e; omega
    · have := lt4 _ e; omega
  · rcases hi i r hr with ⟨a, rfl⟩ | ⟨a, rfl⟩ | ⟨a, rfl⟩ | ⟨a, rfl⟩ <;> rcases hi j s hs with ⟨b, rfl⟩ | ⟨b, rfl⟩ | ⟨b, rfl⟩ | ⟨b, rfl⟩
    · omega
    · have := lt1 _ hg; have := lt2 _ e; omega
    · have := lt1 _ hg; have := lt3 _ e; omega
    · have := lt1 _ hg; have := lt4 _ e; omega
    · have := lt2 _ hg; have := lt1 _ e; omega
    · omega
    · have := lt2 _ hg; have := lt3 _ e; omega
    · have := lt2 _ hg; have := lt4 _ e; omega
    · have := lt3 _ hg; have := lt1 _ e; omega
    · have := lt3 _ hg; have := lt2 _ e; omega
    · omega
    · have := lt3 _ hg; have := lt4 _ e; omega
    · have := lt4 _ hg; have := lt1 _ e; omega
    · have := lt4 _ hg; have := lt2 _ e; omega
    · have := lt4 _ hg; have := lt3 _ e; omega
    · omega
theorem XqM.more {w : World} {B B' : Nat} {s : Xq} (h : XqM w B s) (hB : B ≤ B') : XqM w B' s := ⟨h.text.more hB, h.data.more hB, h.dyn.more hB⟩
theorem ob_bk {A : Option Addr} {n c g : Nat} (h : (Value.slice A n c).ownBlock = some g) : bk A = some g := by
  cases A with
  | none => simp [Value.ownBlock] at h
  | some a => simpa [Value.ownBlock, bk] using h
theorem Mk.make_len (x : Mk.Spec) : (Mk.make x).1.length ≤ 65536 := by
  unfold Mk.make
  split
  · exact Nat.zero_le _
  · split
    · exact Nat.zero_le _
    · rename_i h
      show (Mk.file x).length ≤ _
      rw [Mk.file_len]
      omega
structure XqIn (s : Xq) : Prop where
  max : XqMax s
  type : s.x.type < 65536
  entry : s.x.entry < 18446744073709551616
  more : s.x.more < 18446744073709551616
  tc : s.x.text.length ≤ s.ct
  dc : s.x.data.length ≤ s.cd
  c1 : s.x.dyn.needed.length ≤ s.c1
  c2 : s.x.dyn.syms.length ≤ s.c2
  c3 : s.x.dyn.relas.length ≤ s.c3
  sy : ∀ y ∈ s.x.dyn.syms, y.value < 18446744073709551616 ∧ y.size < 18446744073709551616
  re : ∀ r ∈ s.x.dyn.relas, MrOk r
theorem sumN_mem {l : List ByteArray} {x : ByteArray} (h : x ∈ l) : x.size ≤ sumN l := by
  induction l with
  | nil => cases h
  | cons a r ih =>
    have e : sumN (a :: r) = a.size + sumN r := rfl
    rcases List.mem_cons.1 h with rfl | h
    · omega
    · have := ih h; omega
theorem put_up (t : List UInt8) (s : ByteArray) : (Mk.put t s).length ≤ t.length + s.size + 1 := by unfold Mk.put; split <;> simp_all <;> omega
theorem puts_up (t : List UInt8) (l : List ByteArray) : (Mk.puts t l).length ≤ t.length + sumN l + l.length := by
  induction l generalizing t with
  | nil => exact Nat.le_add_right _ _
  | cons a r ih =>
    have e : sumN (a :: r) = a.size + sumN r := rfl
    have h1 := ih (Mk.put t a)
    have h2 := put_up t a
    have e2 : Mk.puts t (a :: r) = Mk.puts (Mk.put t a) r := rfl
    rw [e2, e, List.length_cons]
    omega
theorem XqIn.fit {s : Xq} (h : XqIn s) (hl : LgOk s.x) : MkFit s := by
  unfold LgOk large0 at hl
  have hnl : (Mk.names s.x.dyn.syms).length = s.x.dyn.syms.length := by unfold Mk.names; rw [List.length_map]
  refine ⟨⟨h.type, h.entry, h.more, by omega, by omega, by omega, h.tc, h.dc, ⟨by show s.x.dyn.needed.length ≤ _; omega, by show s.x.dyn.syms.length ≤ _; omega, by show s.x.dyn.relas.length ≤ _; omega, fun y hy => ?_, fun y hy => ?_, by show s.x.dyn.soname.size ≤ _; omega, by show s.x.dyn.run.size ≤ _; omega, h.c1, h.c2, h.c3⟩⟩, by omega, by omega, ?_, h.sy, h.re⟩
  · have := sumN_mem (show y ∈ s.x.dyn.needed from hy); omega
  · have := sumN_mem (show y.name ∈ Mk.names s.x.dyn.syms from List.mem_map.2 ⟨y, hy, rfl⟩); omega
  · have h1 : (Mk.texts0 s.x.dyn).length ≤ 1 + sumN s.x.dyn.needed + s.x.dyn.needed.length := puts_up [0] _
    have h2 : (Mk.texts1 s.x.dyn).length ≤ (Mk.texts0 s.x.dyn).length + s.x.dyn.soname.size + 1 := put_up _ _
    have h3 : (Mk.texts2 s.x.dyn).length ≤ (Mk.texts1 s.x.dyn).length + s.x.dyn.run.size + 1 := put_up _ _
    have h4 : (Mk.texts3 s.x.dyn).length ≤ (Mk.texts2 s.x.dyn).length + sumN (Mk.names s.x.dyn.syms) + (Mk.names s.x.dyn.syms).length := puts_up _ _
    omega
set_option maxRecDepth 100000 in
set_option maxHeartbeats 60000000 in
theorem makes_any (s : Xq) (w : World) (h : XqM w w.heap.size s) (hin : XqIn s) :
    Calls Tryz.prog 3 #[.agg s.l.toArray] w fun e w' => e = .returned (.bool true) ∧ Below w.heap.size w w' := by
  have hb1 := below_al w (.cells #[.int .u16 (s.x.type : Nat), .int .u64 (s.x.entry : Nat), .string s.x.interp, .slice s.At s.x.text.length s.ct, .slice s.Ad s.x.data.length s.cd, .int .u64 (s.x.more : Nat), .bool s.x.dynamic, .slice s.A1 s.x.dyn.needed.length s.c1, .string s.x.dyn.soname, .string s.x.dyn.run, .slice s.A2 s.x.dyn.syms.length s.c2, .slice s.A3 s.x.dyn.relas.length s.c3, .int .i64 s.x.apart] 31)
  have e1 : (w.alloc (.cells #[.int .u16 (s.x.type : Nat), .int .u64 (s.x.entry : Nat), .string s.x.interp, .slice s.At s.x.text.length s.ct, .slice s.Ad s.x.data.length s.cd, .int .u64 (s.x.more : Nat), .bool s.x.dynamic, .slice s.A1 s.x.dyn.needed.length s.c1, .string s.x.dyn.soname, .string s.x.dyn.run, .slice s.A2 s.x.dyn.syms.length s.c2, .slice s.A3 s.x.dyn.relas.length s.c3, .int .i64 s.x.apart] 31)).heap.size = w.heap.size + 1 := by simp
  have hx : Blk (w.alloc (.cells #[.int .u16 (s.x.type : Nat), .int .u64 (s.x.entry : Nat), .string s.x.interp, .slice s.At s.x.text.length s.ct, .slice s.Ad s.x.data.length s.cd, .int .u64 (s.x.more : Nat), .bool s.x.dynamic, .slice s.A1 s.x.dyn.needed.length s.c1, .string s.x.dyn.soname, .string s.x.dyn.run, .slice s.A2 s.x.dyn.syms.length s.c2, .slice s.A3 s.x.dyn.relas.length s.c3, .int .i64 s.x.apart] 31)) w.heap.size 31 s.l := Blk.new w 31 s.l
  have hq := h.below hb1
  obtain ⟨a0, a1, a2, a3, a4, a5, a6, a7, a8, a9, a10, a11, a12⟩ := spec_cells hx
  have KL : Hid (Calls Tryz.prog 6 #[.agg #[.int .u16 (s.x.type : Nat), .int .u64 (s.x.entry : Nat), .string s.x.interp, .slice s.At s.x.text.length s.ct, .slice s.Ad s.x.data.length s.cd, .int .u64 (s.x.more : Nat), .bool s.x.dynamic, .slice s.A1 s.x.dyn.needed.length s.c1, .string s.x.dyn.soname, .string s.x.dyn.run, .slice s.A2 s.x.dyn.syms.length s.c2, .slice s.A3 s.x.dyn.relas.length s.c3, .int .i64 s.x.apart]] (w.alloc (.cells #[.int .u16 (s.x.type : Nat), .int .u64 (s.x.entry : Nat), .string s.x.interp, .slice s.At s.x.text.length s.ct, .slice s.Ad s.x.data.length s.cd, .int .u64 (s.x.more : Nat), .bool s.x.dynamic, .slice s.A1 s.x.dyn.needed.length s.c1, .string s.x.dyn.soname, .string s.x.dyn.run, .slice s.A2 s.x.dyn.syms.length s.c2, .slice s.A3 s.x.dyn.relas.length s.c3, .int .i64 s.x.apart] 31)) (LargeE s (w.alloc (.cells #[.int .u16 (s.x.type : Nat), .int .u64 (s.x.entry : Nat), .string s.x.interp, .slice s.At s.x.text.length s.ct, .slice s.Ad s.x.data.length s.cd, .int .u64 (s.x.more : Nat), .bool s.x.dynamic, .slice s.A1 s.x.dyn.needed.length s.c1, .string s.x.dyn.soname, .string s.x.dyn.run, .slice s.A2 s.x.dyn.syms.length s.c2, .slice s.A3 s.x.dyn.relas.length s.c3, .int .i64 s.x.apart] 31)))) := hide (large14_any s w.heap.size (w.alloc (.cells #[.int .u16 (s.x.type : Nat), .int .u64 (s.x.entry : Nat), .string s.x.interp, .slice s.At s.x.text.length s.ct, .slice s.Ad s.x.data.length s.cd, .int .u64 (s.x.more : Nat), .bool s.x.dynamic, .slice s.A1 s.x.dyn.needed.length s.c1, .string s.x.dyn.soname, .string s.x.dyn.run, .slice s.A2 s.x.dyn.syms.length s.c2, .slice s.A3 s.x.dyn.relas.length s.c3, .int .i64 s.x.apart] 31)) hb1.size hq hin.max)
  have KW := hide works14_any
  have HX := hide hx
  have HB := hide hb1
  have HQ := hide hq
  have HIN := hide hin
  have hs0 : w.heap.size < (w.alloc (.cells #[.int .u16 (s.x.type : Nat), .int .u64 (s.x.entry : Nat), .string s.x.interp, .slice s.At s.x.text.length s.ct, .slice s.Ad s.x.data.length s.cd, .int .u64 (s.x.more : Nat), .bool s.x.dynamic, .slice s.A1 s.x.dyn.needed.length s.c1, .string s.x.dyn.soname, .string s.x.dyn.run, .slice s.A2 s.x.dyn.syms.length s.c2, .slice s.A3 s.x.dyn.relas.length s.c3, .int .i64 s.x.apart] 31)).heap.size := by rw [e1]; omega
  show Calls _ _ #[.agg #[.int .u16 (s.x.type : Nat), .int .u64 (s.x.entry : Nat), .string s.x.interp, .slice s.At s.x.text.length s.ct, .slice s.Ad s.x.data.length s.cd, .int .u64 (s.x.more : Nat), .bool s.x.dynamic, .slice s.A1 s.x.dyn.needed.length s.c1, .string s.x.dyn.soname, .string s.x.dyn.run, .slice s.A2 s.x.dyn.syms.length s.c2, .slice s.A3 s.x.dyn.relas.length s.c3, .int .i64 s.x.apart]] w _
  clear hb1 e1 hx hq h hin
  go_enter Tryz.func3, Tryz.ntmps3
  go_wp2_with fail
  refine (unhide KL).mono ?_
  rintro e w1 ⟨r, rfl, hb1, hrl⟩
  generalize (w.alloc (.cells #[.int .u16 (s.x.type : Nat), .int .u64 (s.x.entry : Nat), .string s.x.interp, .slice s.At s.x.text.length s.ct, .slice s.Ad s.x.data.length s.cd, .int .u64 (s.x.more : Nat), .bool s.x.dynamic, .slice s.A1 s.x.dyn.needed.length s.c1, .string s.x.dyn.soname, .string s.x.dyn.run, .slice s.A2 s.x.dyn.syms.length s.c2, .slice s.A3 s.x.dyn.relas.length s.c3, .int .i64 s.x.apart] 31)) = W0 at *
  have hbw1 := (unhide HB).trans (hb1.mono (unhide HB).size)
  have hx1 := (unhide HX).belowSz hb1
  have hq1 := (unhide HQ).below (hb1.mono (by omega))
  have hs1 : w.heap.size < w1.heap.size := by have := hb1.size; omega
  have HB1 := hide hbw1
  have HX1 := hide hx1
  have HQ1 := hide hq1
  have HRL := hide hrl
  clear hb1 hbw1 hx1 hq1 hrl KL a0 a1 a2 a3 a4 a5 a6 a7 a8 a9 a10 a11 a12
  obtain ⟨a0, a1, a2, a3, a4, a5, a6, a7, a8, a9, a10, a11, a12⟩ := spec_cells (unhide HX1)
  cases r
  case true =>
    clear a0 a1 a2 a3 a4 a5 a6 a7 a8 a9 a10 a11 a12
    go_wp2_with fail
    refine ((unhide KW) _).mono ?_
    rintro e w2 ⟨rfl, hb2⟩
    have HB2 := hide ((unhide HB1).trans (hb2.mono (by omega)))
    clear hb2
    go_wp2_with fail
    go_ret
    exact ⟨rfl, unhide HB2⟩
  case false =>
    have hlg := (unhide HRL) rfl
    have hfit := (unhide HIN).fit hlg
    have Hlg := hide hlg
    unfold LgOk large0 at hlg
    have HF := hide hfit
    have l0 : s.x.text.length ≤ 1048576 := by omega
    have l00 : s.x.data.length ≤ 1048576 := by omega
    have l1 : s.x.dyn.needed.length ≤ 1048576 := by omega
    have l2 : s.x.dyn.syms.length ≤ 1048576 := by omega
    have l3 : s.x.dyn.relas.length ≤ 1048576 := by omega
    have l12 : s.x.dyn.needed.length + s.x.dyn.syms.length ≤ 1048576 := by omega
    have KC : Hid (Calls Tryz.prog 8 #[.agg #[.int .u16 (s.x.type : Nat), .int .u64 (s.x.entry : Nat), .string s.x.interp, .slice s.At s.x.text.length s.ct, .slice s.Ad s.x.data.length s.cd, .int .u64 (s.x.more : Nat), .bool s.x.dynamic, .slice s.A1 s.x.dyn.needed.length s.c1, .string s.x.dyn.soname, .string s.x.dyn.run, .slice s.A2 s.x.dyn.syms.length s.c2, .slice s.A3 s.x.dyn.relas.length s.c3, .int .i64 s.x.apart]] w1 (CopiedE s w1)) := hide (copied14_any s w.heap.size w1 (by omega) (unhide HQ1) l0 l00 l1 l2 l3)
    clear hlg hfit HRL
    go_wp2_with fail
    refine (unhide KC).mono ?_
    rintro e w2 ⟨s', hsx, rfl, hq2, ⟨hc1, hc2, hc3⟩, hb2, b2, hbb1, hbb2, hoT, hlT, hoD⟩
    obtain ⟨sx, A1, k1, A2, k2, A3, k3, A4, k4, A5, k5⟩ := s'
    obtain rfl : sx = s.x := hsx
    have hl : (Xq.l ⟨s.x, A1, k1, A2, k2, A3, k3, A4, k4, A5, k5⟩).toArray = #[.int .u16 (s.x.type : Nat), .int .u64 (s.x.entry : Nat), .string s.x.interp, .slice A1 s.x.text.length k1, .slice A2 s.x.data.length k2, .int .u64 (s.x.more : Nat), .bool s.x.dynamic, .slice A3 s.x.dyn.needed.length k3, .string s.x.dyn.soname, .string s.x.dyn.run, .slice A4 s.x.dyn.syms.length k4, .slice A5 s.x.dyn.relas.length k5, .int .i64 s.x.apart] := rfl
    rw [hl]
    have hfit2 : MkFit ⟨s.x, A1, k1, A2, k2, A3, k3, A4, k4, A5, k5⟩ := by
      have hf := unhide HF
      exact ⟨⟨hf.ok.type, hf.ok.entry, hf.ok.more, hf.ok.interp, hf.ok.text, hf.ok.data, own_capG hoT, own_capG hoD, ⟨hf.ok.dyn.n1, hf.ok.dyn.n2, hf.ok.dyn.n3, hf.ok.dyn.s1, hf.ok.dyn.s2, hf.ok.dyn.s3, hf.ok.dyn.s4, hc1, hc2, hc3⟩⟩, hf.interp, hf.data, hf.texts, hf.sy, hf.re⟩
    have hbw2 := (unhide HB1).trans (hb2.mono (by omega))
    have hx2 := (unhide HX1).belowSz hb2
    have hq20 := (unhide HQ1).below (hb2.mono (by omega))
    have hs2 : w1.heap.size ≤ w2.heap.size := hb2.size
    have hb3 := below_al w2 (.cells #[.int .u16 (s.x.type : Nat), .int .u64 (s.x.entry : Nat), .string s.x.interp, .slice A1 s.x.text.length k1, .slice A2 s.x.data.length k2, .int .u64 (s.x.more : Nat), .bool s.x.dynamic, .slice A3 s.x.dyn.needed.length k3, .string s.x.dyn.soname, .string s.x.dyn.run, .slice A4 s.x.dyn.syms.length k4, .slice A5 s.x.dyn.relas.length k5, .int .i64 s.x.apart] 31)
    have hz3 := Blk.new w2 31 [.int .u16 (s.x.type : Nat), .int .u64 (s.x.entry : Nat), .string s.x.interp, .slice A1 s.x.text.length k1, .slice A2 s.x.data.length k2, .int .u64 (s.x.more : Nat), .bool s.x.dynamic, .slice A3 s.x.dyn.needed.length k3, .string s.x.dyn.soname, .string s.x.dyn.run, .slice A4 s.x.dyn.syms.length k4, .slice A5 s.x.dyn.relas.length k5, .int .i64 s.x.apart]
    have e3 : (w2.alloc (.cells #[.int .u16 (s.x.type : Nat), .int .u64 (s.x.entry : Nat), .string s.x.interp, .slice A1 s.x.text.length k1, .slice A2 s.x.data.length k2, .int .u64 (s.x.more : Nat), .bool s.x.dynamic, .slice A3 s.x.dyn.needed.length k3, .string s.x.dyn.soname, .string s.x.dyn.run, .slice A4 s.x.dyn.syms.length k4, .slice A5 s.x.dyn.relas.length k5, .int .i64 s.x.apart] 31)).heap.size = w2.heap.size + 1 := by simp
    have HB3 := hide (hbw2.trans (hb3.mono (by omega)))
    have HX3 := hide (hx2.belowSz hb3)
    have HQ3 := hide (hq20.below (hb3.mono (by omega)))
    have HZ3 : Hid (Blk (w2.alloc (.cells #[.int .u16 (s.x.type : Nat), .int .u64 (s.x.entry : Nat), .string s.x.interp, .slice A1 s.x.text.length k1, .slice A2 s.x.data.length k2, .int .u64 (s.x.more : Nat), .bool s.x.dynamic, .slice A3 s.x.dyn.needed.length k3, .string s.x.dyn.soname, .string s.x.dyn.run, .slice A4 s.x.dyn.syms.length k4, .slice A5 s.x.dyn.relas.length k5, .int .i64 s.x.apart] 31)) w2.heap.size 31 [.int .u16 (s.x.type : Nat), .int .u64 (s.x.entry : Nat), .string s.x.interp, .slice A1 s.x.text.length k1, .slice A2 s.x.data.length k2, .int .u64 (s.x.more : Nat), .bool s.x.dynamic, .slice A3 s.x.dyn.needed.length k3, .string s.x.dyn.soname, .string s.x.dyn.run, .slice A4 s.x.dyn.syms.length k4, .slice A5 s.x.dyn.relas.length k5, .int .i64 s.x.apart]) := hide hz3
    have HC3 : Hid (XqM (w2.alloc (.cells #[.int .u16 (s.x.type : Nat), .int .u64 (s.x.entry : Nat), .string s.x.interp, .slice A1 s.x.text.length k1, .slice A2 s.x.data.length k2, .int .u64 (s.x.more : Nat), .bool s.x.dynamic, .slice A3 s.x.dyn.needed.length k3, .string s.x.dyn.soname, .string s.x.dyn.run, .slice A4 s.x.dyn.syms.length k4, .slice A5 s.x.dyn.relas.length k5, .int .i64 s.x.apart] 31)) w2.heap.size ⟨s.x, A1, k1, A2, k2, A3, k3, A4, k4, A5, k5⟩) := hide (hq2.below hb3)
    have HoT := hide (own_below hoT hb3)
    have HoD := hide (own_below hoD hb3)
    have HlT := hide hlT
    have HF2 := hide hfit2
    have hlD := (own_bklt hoD)
    have HlD : Hid (∀ k, bk A2 = some k → k < w2.heap.size) := hide (fun k hk => (hlD k hk).2)
    have KM : Hid (∀ W, Below (w2.alloc (.cells #[.int .u16 (s.x.type : Nat), .int .u64 (s.x.entry : Nat), .string s.x.interp, .slice A1 s.x.text.length k1, .slice A2 s.x.data.length k2, .int .u64 (s.x.more : Nat), .bool s.x.dynamic, .slice A3 s.x.dyn.needed.length k3, .string s.x.dyn.soname, .string s.x.dyn.run, .slice A4 s.x.dyn.syms.length k4, .slice A5 s.x.dyn.relas.length k5, .int .i64 s.x.apart] 31)).heap.size (w2.alloc (.cells #[.int .u16 (s.x.type : Nat), .int .u64 (s.x.entry : Nat), .string s.x.interp, .slice A1 s.x.text.length k1, .slice A2 s.x.data.length k2, .int .u64 (s.x.more : Nat), .bool s.x.dynamic, .slice A3 s.x.dyn.needed.length k3, .string s.x.dyn.soname, .string s.x.dyn.run, .slice A4 s.x.dyn.syms.length k4, .slice A5 s.x.dyn.relas.length k5, .int .i64 s.x.apart] 31)) W → Calls Tryz.prog 9 #[.agg #[.int .u16 (s.x.type : Nat), .int .u64 (s.x.entry : Nat), .string s.x.interp, .slice A1 s.x.text.length k1, .slice A2 s.x.data.length k2, .int .u64 (s.x.more : Nat), .bool s.x.dynamic, .slice A3 s.x.dyn.needed.length k3, .string s.x.dyn.soname, .string s.x.dyn.run, .slice A4 s.x.dyn.syms.length k4, .slice A5 s.x.dyn.relas.length k5, .int .i64 s.x.apart]] W (MkE s.x W)) := hide (fun W hW => pmake_any ⟨s.x, A1, k1, A2, k2, A3, k3, A4, k4, A5, k5⟩ w2.heap.size W (by have := hW.size; omega) ((unhide HC3).below (hW.mono (by omega))) hfit2 l12)
    have KR : Hid (∀ W, Below (w2.alloc (.cells #[.int .u16 (s.x.type : Nat), .int .u64 (s.x.entry : Nat), .string s.x.interp, .slice A1 s.x.text.length k1, .slice A2 s.x.data.length k2, .int .u64 (s.x.more : Nat), .bool s.x.dynamic, .slice A3 s.x.dyn.needed.length k3, .string s.x.dyn.soname, .string s.x.dyn.run, .slice A4 s.x.dyn.syms.length k4, .slice A5 s.x.dyn.relas.length k5, .int .i64 s.x.apart] 31)).heap.size (w2.alloc (.cells #[.int .u16 (s.x.type : Nat), .int .u64 (s.x.entry : Nat), .string s.x.interp, .slice A1 s.x.text.length k1, .slice A2 s.x.data.length k2, .int .u64 (s.x.more : Nat), .bool s.x.dynamic, .slice A3 s.x.dyn.needed.length k3, .string s.x.dyn.soname, .string s.x.dyn.run, .slice A4 s.x.dyn.syms.length k4, .slice A5 s.x.dyn.relas.length k5, .int .i64 s.x.apart] 31)) W → Calls Tryz.prog 10 #[.agg #[.int .u16 (s.x.type : Nat), .int .u64 (s.x.entry : Nat), .string s.x.interp, .slice s.At s.x.text.length s.ct, .slice s.Ad s.x.data.length s.cd, .int .u64 (s.x.more : Nat), .bool s.x.dynamic, .slice s.A1 s.x.dyn.needed.length s.c1, .string s.x.dyn.soname, .string s.x.dyn.run, .slice s.A2 s.x.dyn.syms.length s.c2, .slice s.A3 s.x.dyn.relas.length s.c3, .int .i64 s.x.apart]] W (MkE s.x W)) := hide (fun W hW => rmake14_any s w.heap.size W (by have := hW.size; omega) ((unhide HQ3).below (hW.mono (by omega))) (unhide HF))
    have hs3 : w2.heap.size < (w2.alloc (.cells #[.int .u16 (s.x.type : Nat), .int .u64 (s.x.entry : Nat), .string s.x.interp, .slice A1 s.x.text.length k1, .slice A2 s.x.data.length k2, .int .u64 (s.x.more : Nat), .bool s.x.dynamic, .slice A3 s.x.dyn.needed.length k3, .string s.x.dyn.soname, .string s.x.dyn.run, .slice A4 s.x.dyn.syms.length k4, .slice A5 s.x.dyn.relas.length k5, .int .i64 s.x.apart] 31)).heap.size := by rw [e3]; omega
    have K1 := hide ((unhide KM) _ (Below.refl _ _))
    obtain ⟨c0', c1', c2', c3', c4', c5', c6', c7', c8', c9', c10', c11', c12'⟩ := spec_cells (s := ⟨s.x, A1, k1, A2, k2, A3, k3, A4, k4, A5, k5⟩) (unhide HZ3)
    clear hl hfit2 hbw2 hx2 hq20 hb3 hz3 e3 hoT hlT hoD hq2 hc1 hc2 hc3 hb2 hlD KC a0 a1 a2 a3 a4 a5 a6 a7 a8 a9 a10 a11 a12 c0' c1' c2' c3' c4' c5' c6' c7' c8' c9' c10' c11' c12'
    go_wp2_with fail
    refine (unhide K1).mono ?_
    rintro e w4 ⟨hb4, Aa, na, ca, rfl, hoa⟩
    have hml := Mk.make_len s.x
    have hna : na ≤ 65536 := by
      have h1 := hoa.1
      simp [bys] at h1
      omega
    have Hb4 : Hid (Below (w2.alloc (.cells #[.int .u16 (s.x.type : Nat), .int .u64 (s.x.entry : Nat), .string s.x.interp, .slice A1 s.x.text.length k1, .slice A2 s.x.data.length k2, .int .u64 (s.x.more : Nat), .bool s.x.dynamic, .slice A3 s.x.dyn.needed.length k3, .string s.x.dyn.soname, .string s.x.dyn.run, .slice A4 s.x.dyn.syms.length k4, .slice A5 s.x.dyn.relas.length k5, .int .i64 s.x.apart] 31)).heap.size (w2.alloc (.cells #[.int .u16 (s.x.type : Nat), .int .u64 (s.x.entry : Nat), .string s.x.interp, .slice A1 s.x.text.length k1, .slice A2 s.x.data.length k2, .int .u64 (s.x.more : Nat), .bool s.x.dynamic, .slice A3 s.x.dyn.needed.length k3, .string s.x.dyn.soname, .string s.x.dyn.run, .slice A4 s.x.dyn.syms.length k4, .slice A5 s.x.dyn.relas.length k5, .int .i64 s.x.apart] 31)) w4) := hide hb4
    have HX4 := hide ((unhide HX3).belowSz hb4)
    have Hoa : Hid (w4.ownsRow (w2.alloc (.cells #[.int .u16 (s.x.type : Nat), .int .u64 (s.x.entry : Nat), .string s.x.interp, .slice A1 s.x.text.length k1, .slice A2 s.x.data.length k2, .int .u64 (s.x.more : Nat), .bool s.x.dynamic, .slice A3 s.x.dyn.needed.length k3, .string s.x.dyn.soname, .string s.x.dyn.run, .slice A4 s.x.dyn.syms.length k4, .slice A5 s.x.dyn.relas.length k5, .int .i64 s.x.apart] 31)).heap.size 5 1 (.slice Aa na ca) na (bys (Mk.make s.x).1)) := hide hoa
    have KR4 := hide ((unhide KR) w4 hb4)
    generalize (w2.alloc (.cells #[.int .u16 (s.x.type : Nat), .int .u64 (s.x.entry : Nat), .string s.x.interp, .slice A1 s.x.text.length k1, .slice A2 s.x.data.length k2, .int .u64 (s.x.more : Nat), .bool s.x.dynamic, .slice A3 s.x.dyn.needed.length k3, .string s.x.dyn.soname, .string s.x.dyn.run, .slice A4 s.x.dyn.syms.length k4, .slice A5 s.x.dyn.relas.length k5, .int .i64 s.x.apart] 31)) = V0 at *
    obtain ⟨a0, a1, a2, a3, a4, a5, a6, a7, a8, a9, a10, a11, a12⟩ := spec_cells (unhide HX4)
    clear hb4 hoa KR K1
    go_wp2_with fail
    refine (unhide KR4).mono ?_
    rintro e w5 ⟨hb5, Ab, nb, cb, rfl, hob⟩
    have hnb : nb ≤ 65536 := by
      have h1 := hob.1
      simp [bys] at h1
      omega
    have KE := eqBytes_any Aa Ab na nb ca cb w5.heap.size (Mk.make s.x).1 (Mk.make s.x).1 w5 ((Rd.of_own (unhide Hoa)).belowSz hb5) (Rd.of_own hob) (by unfold maxLen; omega) (by unfold maxLen; omega)
    rw [decide_eq_true rfl] at KE
    replace KE := hide KE
    have Hb5 := hide ((unhide Hb4).trans (hb5.mono (unhide Hb4).size))
    have Hoa5 := hide (own_below (unhide Hoa) hb5)
    have hee : ((Mk.make s.x).2 != (Mk.make s.x).2) = false := by simp
    clear hb5 hob KR4 a0 a1 a2 a3 a4 a5 a6 a7 a8 a9 a10 a11 a12 Hb4 HX4 Hoa
    go_wp2_with fail
    refine (unhide KE).mono ?_
    rintro e w6' ⟨rfl, j, rfl⟩
    have hb6 := below_drewN' (unhide Hb5) j
    have hoa6 := own_drewN (unhide Hoa5) j
    generalize w5.drewN j = w6 at *
    have HX6 := hide ((unhide HX3).belowSz hb6)
    have HZ6 := hide ((unhide HZ3).belowSz hb6)
    have hsz6 := hb6.size
    have KS := same14_any ⟨s.x, A1, k1, A2, k2, A3, k3, A4, k4, A5, k5⟩ s rfl w2.heap.size w6 (by omega) ((unhide HC3).below (hb6.mono (by omega))) (((unhide HQ3).below (hb6.mono (by omega))).more (by omega)) l0 l00 l1 l2 l3
    have KS6 : Hid (Calls Tryz.prog 12 #[.agg #[.int .u16 (s.x.type : Nat), .int .u64 (s.x.entry : Nat), .string s.x.interp, .slice A1 s.x.text.length k1, .slice A2 s.x.data.length k2, .int .u64 (s.x.more : Nat), .bool s.x.dynamic, .slice A3 s.x.dyn.needed.length k3, .string s.x.dyn.soname, .string s.x.dyn.run, .slice A4 s.x.dyn.syms.length k4, .slice A5 s.x.dyn.relas.length k5, .int .i64 s.x.apart], .agg #[.int .u16 (s.x.type : Nat), .int .u64 (s.x.entry : Nat), .string s.x.interp, .slice s.At s.x.text.length s.ct, .slice s.Ad s.x.data.length s.cd, .int .u64 (s.x.more : Nat), .bool s.x.dynamic, .slice s.A1 s.x.dyn.needed.length s.c1, .string s.x.dyn.soname, .string s.x.dyn.run, .slice s.A2 s.x.dyn.syms.length s.c2, .slice s.A3 s.x.dyn.relas.length s.c3, .int .i64 s.x.apart]] w6 fun e w' => e = .returned (.bool true) ∧ Below w6.heap.size w6 w') := hide KS
    have Hb6 := hide hb6
    have Hoa6 := hide hoa6
    clear hb6 hoa6 KS KE Hb5 Hoa5
    obtain ⟨a0, a1, a2, a3, a4, a5, a6, a7, a8, a9, a10, a11, a12⟩ := spec_cells (unhide HX6)
    obtain ⟨c0', c1', c2', c3', c4', c5', c6', c7', c8', c9', c10', c11', c12'⟩ := spec_cells (s := ⟨s.x, A1, k1, A2, k2, A3, k3, A4, k4, A5, k5⟩) (unhide HZ6)
    go_wp2_with fail
    refine (unhide KS6).mono ?_
    rintro e w7 ⟨rfl, hb7⟩
    have hb7' := (unhide Hb6).trans (hb7.mono (unhide Hb6).size)
    have KM7 := hide ((unhide KM) w7 hb7')
    have HZ7 := hide ((unhide HZ3).belowSz hb7')
    have Hoa7 := hide (own_below (unhide Hoa6) hb7)
    have Hb7 := hide hb7'
    clear hb7 hb7' KS6 KM Hoa6 Hb6 a0 a1 a2 a3 a4 a5 a6 a7 a8 a9 a10 a11 a12 c0' c1' c2' c3' c4' c5' c6' c7' c8' c9' c10' c11' c12'
    obtain ⟨c0', c1', c2', c3', c4', c5', c6', c7', c8', c9', c10', c11', c12'⟩ := spec_cells (s := ⟨s.x, A1, k1, A2, k2, A3, k3, A4, k4, A5, k5⟩) (unhide HZ7)
    go_wp2_with fail
    refine (unhide KM7).mono ?_
    rintro e w8 ⟨hb8, Ac, nc, cc, rfl, hoc⟩
    have hnc : nc ≤ 65536 := by
      have h1 := hoc.1
      simp [bys] at h1
      omega
    have hb8' := (unhide Hb7).trans (hb8.mono (unhide Hb7).size)
    have hoa8 := own_below (unhide Hoa7) hb8
    have hz7 := (unhide Hb7).size
    have hz8 := hb8.size
    have q8 := ApG.four (w := w8) (base := w1.heap.size) (b2 := b2) (b3 := V0.heap.size) (b4 := w7.heap.size) (r1 := ⟨Aa, na, ca, (Mk.make s.x).1⟩) (r2 := ⟨Ac, nc, cc, (Mk.make s.x).1⟩) (r3 := ⟨A1, s.x.text.length, k1, s.x.text⟩) (r4 := ⟨A2, s.x.data.length, k2, s.x.data⟩) (own_below (unhide HoT) hb8') (own_below (unhide HoD) hb8') hoa8 hoc hbb1 (by omega) (by omega) (by omega) (fun g hg => (unhide HlT) g (ob_bk hg)) (fun g hg => Nat.lt_trans ((unhide HlD) g (ob_bk hg)) hs3) (fun g hg => (own_bklt (unhide Hoa7) g (ob_bk hg)).2) (by show na ≤ _; omega) (by show nc ≤ _; omega) (by show s.x.text.length ≤ _; omega) (by show s.x.data.length ≤ _; omega)
    have KA : Hid (Calls Tryz.prog 13 #[.slice (some ⟨w8.heap.size, 0, none⟩) 4 4] (w8.alloc (.cells #[.slice Aa na ca, .slice Ac nc cc, .slice A1 s.x.text.length k1, .slice A2 s.x.data.length k2] 24)) fun e w' => e = .returned (.bool true) ∧ Below w1.heap.size (w8.alloc (.cells #[.slice Aa na ca, .slice Ac nc cc, .slice A1 s.x.text.length k1, .slice A2 s.x.data.length k2] 24)) w') := hide (apart_any _ _ 4 _ _ q8 rfl)
    have HZ8 := hide ((unhide HZ3).belowSz hb8')
    have HB8 := hide ((unhide HB3).trans (hb8'.mono (by omega)))
    clear hb8 hb8' hoa8 hoc q8 KM7 Hb7 Hoa7 HZ7 c0' c1' c2' c3' c4' c5' c6' c7' c8' c9' c10' c11' c12'
    obtain ⟨c0', c1', c2', c3', c4', c5', c6', c7', c8', c9', c10', c11', c12'⟩ := spec_cells (s := ⟨s.x, A1, k1, A2, k2, A3, k3, A4, k4, A5, k5⟩) (unhide HZ8)
    go_wp2_with fail
    refine (unhide KA).mono ?_
    rintro e w9 ⟨rfl, hb9⟩
    have HB9 := hide (((unhide HB8).alloc (unhide HB8).size _).trans (hb9.mono (by omega)))
    clear hb9 KA HB8 c0' c1' c2' c3' c4' c5' c6' c7' c8' c9' c10' c11' c12'
    go_wp2_with fail
    refine ((unhide KW) _).mono ?_
    rintro e w10 ⟨rfl, hb10⟩
    have HB10 := hide ((unhide HB9).trans (hb10.mono (unhide HB9).size))
    clear hb10
    go_wp2_with fail
    go_ret
    exact ⟨rfl, unhide HB10⟩
end Go.Proofs.YtnbecdahfgkffaaGreat
namespace Go.Proofs.YtnbecdahfgkffaaGreat
open Go.RowKit Go.ChangeShapes Go.WideShapes Go.Joins Go.Deep
theorem specTys : ∃ fs, Tryz.prog.underlying 31 = some (.struct fs) ∧ fs.map (fun f => (f.type, f.offset, Tryz.prog.cellsOf f.type)) = #[(22, 0, 1), (23, 1, 1), (9, 2, 1), (24, 3, 1), (24, 4, 1), (23, 5, 1), (4, 6, 1), (29, 7, 5), (3, 12, 1)] :=
  ⟨_, Tryz.underlying31, by kernel_rfl⟩
theorem dynTys : ∃ fs, Tryz.prog.underlying 29 = some (.struct fs) ∧ fs.map (fun f => (f.type, f.offset, Tryz.prog.cellsOf f.type)) = #[(25, 0, 1), (9, 1, 1), (9, 2, 1), (26, 3, 1), (27, 4, 1)] :=
  ⟨_, Tryz.underlying29, by kernel_rfl⟩
theorem symTys : ∃ fs, Tryz.prog.underlying 48 = some (.struct fs) ∧ fs.map (fun f => (f.type, f.offset, Tryz.prog.cellsOf f.type)) = #[(9, 0, 1), (23, 1, 1), (23, 2, 1), (5, 3, 1), (4, 4, 1)] :=
  ⟨_, Tryz.underlying48, by kernel_rfl⟩
theorem relTys : ∃ fs, Tryz.prog.underlying 141 = some (.struct fs) ∧ fs.map (fun f => (f.type, f.offset, Tryz.prog.cellsOf f.type)) = #[(23, 0, 1), (56, 1, 1), (3, 2, 1), (2, 3, 1)] :=
  ⟨_, Tryz.underlying141, by kernel_rfl⟩
instance : Inhabited Dy.Sym := ⟨⟨⟨#[]⟩, 0, 0, 0, false⟩⟩
instance : Inhabited Mk.Rel := ⟨⟨0, 0, 0, 0⟩⟩
theorem reach_le : reachBytes ≤ 140737488355328 := by decide +kernel
theorem list4 {α : Type} {cs : List α} (h : cs.length = 4) : ∃ c0 c1 c2 c3, cs = [c0, c1, c2, c3] := by
  match cs, h with
  | [c0, c1, c2, c3], _ => exact ⟨c0, c1, c2, c3, rfl⟩
theorem list5 {α : Type} {cs : List α} (h : cs.length = 5) : ∃ c0 c1 c2 c3 c4, cs = [c0, c1, c2, c3, c4] := by
  match cs, h with
  | [c0, c1, c2, c3, c4], _ => exact ⟨c0, c1, c2, c3, c4, rfl⟩
theorem list13 {α : Type} {cs : List α} (h : cs.length = 13) : ∃ c0 c1 c2 c3 c4 c5 c6 c7 c8 c9 c10 c11 c12, cs = [c0, c1, c2, c3, c4, c5, c6, c7, c8, c9, c10, c11, c12] := by
  match cs, h with
  | [c0, c1, c2, c3, c4, c5, c6, c7, c8, c9, c10, c11, c12], _ => exact ⟨c0, c1, c2, c3, c4, c5, c6, c7, c8, c9, c10, c11, c12, rfl⟩
section
variable {H : Type} {enc : TypeId × Value → H} {w : World} {base : Nat} {held : Bool} {R : Nat}
theorem sym_vals {fuel : Nat} {cs : List Value} {x : DataW H × List MemPlace} (h : DataW.trod enc Tryz.prog w base (fun _ => true) held fuel 48 cs = some x) (hR : ∀ k ∈ x.1.weights Tryz.prog 48, k ≤ R) :
    ∃ s : Dy.Sym, cs = symV s ∧ s.name.size ≤ R ∧ s.value < 18446744073709551616 ∧ s.size < 18446744073709551616 := by
  obtain ⟨hl, n, hf⟩ := fldsW_vals _ symTys h hR
  rw [show Tryz.prog.cellsOf 48 = 5 from by kernel_rfl] at hl
  obtain ⟨c0, c1, c2, c3, c4, rfl⟩ := list5 hl
  obtain ⟨y0, h0, r0⟩ := hf 0 _ _ _ rfl
  obtain ⟨y1, h1, r1⟩ := hf 1 _ _ _ rfl
  obtain ⟨y2, h2, r2⟩ := hf 2 _ _ _ rfl
  obtain ⟨y3, h3, r3⟩ := hf 3 _ _ _ rfl
  obtain ⟨y4, h4, r4⟩ := hf 4 _ _ _ rfl
  obtain ⟨s, rfl, _, hs⟩ := fstrW_is (v := c0) Tryz.underlying9 h0 r0
  obtain ⟨a, rfl, ha⟩ := fu64_is (v := c1) Tryz.underlying23 h1
  obtain ⟨b, rfl, hb⟩ := fu64_is (v := c2) Tryz.underlying23 h2
  obtain ⟨c, rfl, hc⟩ := fu8_is (v := c3) Tryz.underlying5 h3
  obtain ⟨d, rfl⟩ := fbool_is (v := c4) Tryz.underlying4 h4
  exact ⟨⟨s, a, b, c, d⟩, rfl, hs, ha, hb⟩
theorem rel_vals {fuel : Nat} {cs : List Value} {x : DataW H × List MemPlace} (h : DataW.trod enc Tryz.prog w base (fun _ => true) held fuel 141 cs = some x) (hR : ∀ k ∈ x.1.weights Tryz.prog 141, k ≤ R) :
    ∃ s : Mk.Rel, cs = mrV s ∧ MrOk s := by
  obtain ⟨hl, n, hf⟩ := fldsW_vals _ relTys h hR
  rw [show Tryz.prog.cellsOf 141 = 4 from by kernel_rfl] at hl
  obtain ⟨c0, c1, c2, c3, rfl⟩ := list4 hl
  obtain ⟨y0, h0, r0⟩ := hf 0 _ _ _ rfl
  obtain ⟨y1, h1, r1⟩ := hf 1 _ _ _ rfl
  obtain ⟨y2, h2, r2⟩ := hf 2 _ _ _ rfl
  obtain ⟨y3, h3, r3⟩ := hf 3 _ _ _ rfl
  obtain ⟨a, rfl, ha⟩ := fu64_is (v := c0) Tryz.underlying23 h0
  obtain ⟨b, rfl, hb⟩ := fu32_is (v := c1) Tryz.underlying56 h1
  obtain ⟨c, rfl, hc⟩ := fint_is (v := c2) Tryz.underlying3 h2
  obtain ⟨d, rfl, hd⟩ := fint_is (v := c3) Tryz.underlying2 h3
  exact ⟨⟨a, b, c, d⟩, rfl, ha, hb⟩
theorem spec_vals {fuel : Nat} {cs : List Value} {x : DataW H × List MemPlace} (h : DataW.trod enc Tryz.prog w base (fun _ => true) held fuel 31 cs = some x) (hR : ∀ k ∈ x.1.weights Tryz.prog 31, k ≤ 140737488355328) :
    ∃ s : Xq, cs = s.l ∧ XqM w w.heap.size s ∧ XqIn s := by
  obtain ⟨hl, n, hf⟩ := fldsW_vals _ specTys h hR
  rw [show Tryz.prog.cellsOf 31 = 13 from by kernel_rfl] at hl
  obtain ⟨c0, c1, c2, c3, c4, c5, c6, c7, c8, c9, c10, c11, c12, rfl⟩ := list13 hl
  obtain ⟨y0, h0, r0⟩ := hf 0 _ _ _ rfl
  obtain ⟨y1, h1, r1⟩ := hf 1 _ _ _ rfl
  obtain ⟨y2, h2, r2⟩ := hf 2 _ _ _ rfl
  obtain ⟨y3, h3, r3⟩ := hf 3 _ _ _ rfl
  obtain ⟨y4, h4, r4⟩ := hf 4 _ _ _ rfl
  obtain ⟨y5, h5, r5⟩ := hf 5 _ _ _ rfl
  obtain ⟨y6, h6, r6⟩ := hf 6 _ _ _ rfl
  obtain ⟨y7, h7, r7⟩ := hf 7 _ _ _ rfl
  obtain ⟨y8, h8, r8⟩ := hf 8 _ _ _ rfl
  obtain ⟨ty, rfl, bty⟩ := fu16_is (v := c0) Tryz.underlying22 h0
  obtain ⟨en, rfl, ben⟩ := fu64_is (v := c1) Tryz.underlying23 h1
  obtain ⟨ip, rfl, _, bip⟩ := fstrW_is (v := c2) Tryz.underlying9 h2 r2
  obtain ⟨At, ct, te, rfl, m3, l3, w3⟩ := fbytesW_is (v := c3) Tryz.underlying24 Tryz.underlying5 (by kernel_rfl) h3 r3
  obtain ⟨Ad, cd, da, rfl, m4, l4, w4⟩ := fbytesW_is (v := c4) Tryz.underlying24 Tryz.underlying5 (by kernel_rfl) h4 r4
  obtain ⟨mo, rfl, bmo⟩ := fu64_is (v := c5) Tryz.underlying23 h5
  obtain ⟨dy, rfl⟩ := fbool_is (v := c6) Tryz.underlying4 h6
  obtain ⟨ap, rfl, bap⟩ := fint_is (v := c12) Tryz.underlying3 h8
  have hd : DataW.trod enc Tryz.prog w base (fun _ => true) held n 29 [c7, c8, c9, c10, c11] = some y7 := h7
  obtain ⟨hl2, n2, hg⟩ := fldsW_vals _ dynTys hd r7
  obtain ⟨z0, g0, q0⟩ := hg 0 _ _ _ rfl
  obtain ⟨z1, g1, q1⟩ := hg 1 _ _ _ rfl
  obtain ⟨z2, g2, q2⟩ := hg 2 _ _ _ rfl
  obtain ⟨z3, g3, q3⟩ := hg 3 _ _ _ rfl
  obtain ⟨z4, g4, q4⟩ := hg 4 _ _ _ rfl
  obtain ⟨A1, k1, ne, rfl, m7, l7, w7, s7⟩ := fstrsW_is (v := c7) Tryz.underlying25 Tryz.underlying9 (by kernel_rfl) g0 q0
  obtain ⟨so, rfl, _, bso⟩ := fstrW_is (v := c8) Tryz.underlying9 g1 q1
  obtain ⟨ru, rfl, _, bru⟩ := fstrW_is (v := c9) Tryz.underlying9 g2 q2
  have g3' : DataW.trod enc Tryz.prog w base (fun _ => true) held n2 26 [c10] = some z3 := g3
  have g4' : DataW.trod enc Tryz.prog w base (fun _ => true) held n2 27 [c11] = some z4 := g4
  obtain ⟨A2, n10, k2, rfl⟩ := fslice_is Tryz.underlying26 g3'
  obtain ⟨A3, n11, k3, rfl⟩ := fslice_is Tryz.underlying27 g4'
  obtain ⟨sy, m10, e10, l10, w10, s10⟩ := open_structsW_rd (α := Dy.Sym) Tryz.underlying26 (show Tryz.prog.cellsOf 48 = 5 from by kernel_rfl) (by decide) symV (fun s => s.name.size ≤ 140737488355328 ∧ s.value < 18446744073709551616 ∧ s.size < 18446744073709551616) (fun _ => rfl) (fun fuel cs x hx hr => sym_vals hx hr) g3' q3
  obtain ⟨re, m11, e11, l11, w11, s11⟩ := open_structsW_rd (α := Mk.Rel) Tryz.underlying27 (show Tryz.prog.cellsOf 141 = 4 from by kernel_rfl) (by decide) mrV (fun s => MrOk s) (fun _ => rfl) (fun fuel cs x hx hr => rel_vals hx hr) g4' q4
  subst e10 e11
  rw [show Tryz.prog.bytesOf 5 = 1 from by kernel_rfl] at w3 w4
  rw [show Tryz.prog.bytesOf 9 = 16 from by kernel_rfl] at w7
  rw [show Tryz.prog.bytesOf 48 = 40 from by kernel_rfl] at w10
  rw [show Tryz.prog.bytesOf 141 = 32 from by kernel_rfl] at w11
  refine ⟨⟨⟨ty, en, ip, te, da, mo, dy, ⟨ne, so, ru, sy, re⟩, ap⟩, At, ct, Ad, cd, A1, k1, A2, k2, A3, k3⟩, rfl, ⟨m3, m4, ⟨m7, m10, m11⟩⟩, ⟨?_, bty, ben, bmo, l3, l4, l7, l10, l11, fun y hy => (s10 y hy).2, fun r hr => s11 r hr⟩⟩
  exact ⟨by show te.length ≤ _; omega, by show da.length ≤ _; omega, bip, bso, bru, by show ne.length ≤ _; omega, by show sy.length ≤ _; omega, by show re.length ≤ _; omega, s7, fun y hy => (s10 y hy).1⟩
set_option maxRecDepth 100000 in
theorem open_spec_rd {r : Reach} {b0 : Nat} {v : Value} {d : DataW H} {p : List MemPlace} (hv : Value.okWide Tryz.prog w r b0 31 v) (h : DataW.Trod enc Tryz.prog w base (fun _ => true) held 31 v d p) (hR : ∀ k ∈ d.weights Tryz.prog 31, k ≤ reachBytes) :
    ∃ s : Xq, v = .agg s.l.toArray ∧ XqM w w.heap.size s ∧ XqIn s := by
  obtain ⟨cs, rfl, hsz⟩ := okWide_struct Tryz.underlying31 hv
  obtain ⟨fuel, hf⟩ := h
  obtain ⟨s, e, h1, h2⟩ := spec_vals hf (fun k hk => Nat.le_trans (hR k hk) reach_le)
  refine ⟨s, ?_, h1, h2⟩
  have e2 : cs.toList = s.l := e
  rw [← Array.toArray_toList (xs := cs), e2]
end
end Go.Proofs.YtnbecdahfgkffaaGreat
namespace Go.Proofs.YtnbecdahfgkffaaGreat.makerMakes
open Go.ChangeShapes Go.WideShapes Go.ChangeAt Go.RowKit
open Go.ChangeMaps (open_string shut_string)
theorem own : ownKnob Tryz.prog.godebug = none := by kernel_rfl
theorem laidOut : laidOutB Tryz.prog = true := by kernel_rfl
theorem wfi {z : Int} (h : (Lit.int .i64 z).wf = true) : -9223372036854775808 ≤ z ∧ z ≤ 9223372036854775807 := by simpa [Lit.wf, IntKind.min, IntKind.max, IntKind.signed, IntKind.bits] using h
set_option maxRecDepth 100000 in
theorem lifted (os : Os) (started : os.Started) (H : Type) (enc : TypeId × Value → H) :
    ReturnsInHanded {} Tryz.checked os 3 .any (Rows.makerMakesSpec.pre6 enc Tryz.prog Tryz.f3 Rows.makerMakesRow.domain false) (Rows.makerMakesSpec.post enc Tryz.prog Tryz.f3 false true false false) := by
  refine returnsInHanded_of_change_sized (C := Tryz.checked) own started (by kernel_rfl) Tryz.func3
    (ChangeSpec.witness6 (enc := enc) (C := Tryz.checked) false ⟨#[], #[.agg #[.int .u16 0, .int .u64 0, .string ByteArray.empty, .slice none 0 0, .slice none 0 0, .int .u64 0, .bool false, .slice none 0 0, .string ByteArray.empty, .string ByteArray.empty, .slice none 0 0, .slice none 0 0, .int .i64 0]], []⟩ 8 (by kernel_rfl) (by kernel_rfl) (by kernel_rfl) (by kernel_rfl)) ?_
  intro W base args ds gs before hval0 hW hcnd hsz0 _
  have hval : ∀ (j : Nat) t v, Tryz.f3.params[j]? = some t → args[j]? = some v → Value.okWide Tryz.prog W .any base t v := hval0
  have hW' := hW
  obtain ⟨p, q, hA0, hV, rfl, hfz, hnd⟩ := hW
  have hA : DataW.TrodAll enc Tryz.prog W 0 (fun _ => true) true Tryz.f3.params.toList args.toList ds p := hA0
  rw [Tryz.params3] at hA hval
  obtain ⟨v0, vs0, d0, ds0, p0, q0, hargs, rfl, rfl, h0, r0⟩ := trodAll_cons hA
  obtain ⟨rfl, rfl, rfl⟩ := trodAll_nil r0
  obtain rfl : args = #[v0] := by cases args; simp_all
  obtain ⟨rfl, rfl⟩ := trodVars_none hV
  have k0 := h0
  have lt0 : ∀ x ∈ p0, x.block < W.heap.size := by obtain ⟨m, hm⟩ := k0; exact DataW.trod_lt m _ _ _ hm
  have sz0 : ∀ k ∈ d0.weights Tryz.prog 31, k ≤ reachBytes := fun k hk => by
    have := List.all_eq_true.1 hsz0 k (DataW.weights_mem_each (j := 0) (t := 31) (d := d0) (by rw [Tryz.params3]; rfl) rfl k hk)
    simpa using this
  obtain ⟨s0, rfl, m0, i0⟩ := open_spec_rd (hval 0 31 v0 rfl rfl) h0 sz0
  clear hA0 hval0
  refine (makes_any s0 W m0 i0).mono fun e W' ⟨he, bel⟩ => ?_
  subst he
  exact ⟨_, rfl, _, _, _, [], _, [], hW', trodAll_mk1 (shut_bool Tryz.underlying4 _), (trodAll_cons_mk (Below.trod laidOut (by kernel_rfl) (of_decide_eq_true (by kernel_rfl)) k0 bel lt0) trodAll_mk0), rfl, bel.frame _, fun h => by cases h⟩
theorem over : Rows.makerMakesRow.holds Tryz.pinned (OpenSpec.ofChange Rows.makerMakesSpec) :=
  OpenClaim.holds_of_wide 3 Tryz.f3 rfl rfl rfl rfl rfl rfl rfl ⟨rfl, rfl, rfl, rfl, rfl⟩ rfl rfl rfl rfl rfl (by kernel_rfl) Tryz.func3 (by kernel_rfl)
    (of_decide_eq_true (by kernel_rfl)) (by unfold Func.isWrapper; first | (rw [if_pos (by decide +kernel)]; kernel_rfl) | (rw [if_neg (by decide +kernel)]; exact ⟨rfl, rfl⟩))
    (fun os started H enc _ => lifted os started H enc)
theorem proved : Rows.MakerMakesSaid := over
#print axioms proved
end Go.Proofs.YtnbecdahfgkffaaGreat.makerMakes
