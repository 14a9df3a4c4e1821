/- Texts of the claim LawMakerParsed (MkP5, MkP6, AppG, MkR4c, MkP7, RevJoin, MkP8, MkR5b, MkP9, MkP11, CopyT): what the functions that the statement reaches compute, and plain laws of it. Conditions: those that each theorem states. -/
import Derived.Test.YtnbecdahfgkffaaGreatMpK3
import Derived.Test.YtnbecdahfgkffaaGreatMpK2
import Derived.Deep.DeepCutAuto
import Derived.Deep.CutBlock
import Derived.Test.YtnbecdahfgkffaaGreatMpK1
import Derived.ArgAppend
import Derived.Deep.Upon
import Derived.Test.YtnbecdahfgkffaaGreatShelf
import Derived.Laws.IdiomCopy
import Derived.Lib.RowBridge
set_option linter.unusedVariables false
set_option linter.unusedSimpArgs false
namespace Go.Proofs.YtnbecdahfgkffaaGreat
open Go.RowKit
theorem yJn {P : Program} {w : World} {o : Oper} {a : Act} {K : Act -> World -> Prop} {Q : Exit -> Act -> World -> Prop}
  (l c : Operand) (t : TypeId) (hop : o.op = Op.makeSlice t l c)
  (base : Nat) (e : TypeId) (i : TypeInfo) (z : Value) (size : Nat) (h1 : P.underlying t = some (.slice e)) (h2 : P.info? e = some i) (h3 : i.zero = some z) (h4 : i.size = size)
  (kl kc : IntKind) (L C : Int) (n : Nat) (hl : a.eval l = .int kl L) (hc : a.eval c = .int kc C) (hL : L = (n : Int)) (hC : C = (n : Int)) (b2 : i.bytes * n <= 281474976710656) (b3 : n <= maxLen) (b4 : base <= w.heap.size)
  (hK : ∀ w', w'.ownsRow base e size (.slice (some ⟨w.heap.size, 0, none⟩) n n) n (madeCells z.cells (n * size)).toList -> w.grownBy w' none -> K (a.put o.dst (.slice (some ⟨w.heap.size, 0, none⟩) n n)) w') :
  o.wp P a w K Q := by
 obtain ⟨w', hrun, r1, r2⟩ := run_make_full (P := P) w base t e i z size h1 h2 h3 h4 kl kc n b2 b3 b4
 subst hL
 subst hC
 unfold Oper.wp
 simp [execOp, hop, hl, hc, hrun, Result.andThen]
 exact hK w' r1 r2
theorem uJn (s : Nat) : (madeCells (Value.int .u64 0).cells (s * 1)).toList = u64s (List.replicate s 0) := by
 simp [u64s, Value.cells, toList_madeCells_one]
theorem u64Inf5 : (Tryz.prog.info? 23).map (fun i => (i.zero, i.size, i.bytes)) = some (some (.int .u64 0), 1, 8) := by kernel_rfl
theorem own_kept {w w' : World} {base n c size : Nat} {A : Option Addr} {e : TypeId} {xs : List Value} (h : w.ownsRow base e size (.slice A n c) n xs) (hg : w.grownBy w' none) : w'.ownsRow base e size (.slice A n c) n xs :=
 own_below h ((Below.refl _ _).grown hg (Nat.le_refl _) (fun k hk => by cases hk))
def hdAt (l : List Dy.Sym) (n i : Nat) : List Nat := (List.range n).map fun b => Mk.next l n b i
def lkAt (l : List Dy.Sym) (i : Nat) : List Nat := (List.range (l.length + 1)).map fun q => if q <= i then 0 else Mk.linkOf l (q - 1)
theorem hd_start (l : List Dy.Sym) (n : Nat) : hdAt l n l.length = List.replicate n 0 := by
 unfold hdAt Mk.next
 rw [List.drop_length, List.eq_replicate_iff]
 refine ⟨by simp, fun b hb => ?_⟩
 obtain ⟨c, -, rfl⟩ := List.mem_map.1 hb
 rfl
theorem lk_start (l : List Dy.Sym) : lkAt l l.length = List.replicate (l.length + 1) 0 := by
 unfold lkAt
 rw [List.eq_replicate_iff]
 refine ⟨by simp, fun b hb => ?_⟩
 obtain ⟨c, hc, rfl⟩ := List.mem_map.1 hb
 rw [List.mem_range] at hc
 rw [if_pos (by omega)]
theorem lk_end (l : List Dy.Sym) : lkAt l 0 = Mk.links l := by
 unfold lkAt Mk.links
 rw [List.range_succ_eq_map, List.map_cons, List.map_map, if_pos (Nat.le_refl 0)]
 congr 1
theorem next_step {l : List Dy.Sym} {i : Nat} {x : Dy.Sym} (h : l[i]? = some x) (n b : Nat) : Mk.next l n b i = if Mk.hashOf x % n = b then i + 1 else Mk.next l n b (i + 1) := by
 obtain ⟨hi, hx⟩ := List.getElem?_eq_some_iff.1 h
 unfold Mk.next
 rw [List.drop_eq_getElem_cons hi, hx, Mk.nextL]
theorem hd_step {l : List Dy.Sym} {i : Nat} {x : Dy.Sym} (h : l[i]? = some x) (n : Nat) : hdAt l n i = (hdAt l n (i + 1)).set (Mk.hashOf x % n) (i + 1) := by
 apply List.ext_getElem?
 intro b
 unfold hdAt
 by_cases hb : b < n
 ·by_cases e : Mk.hashOf x % n = b
  ·rw [e, List.getElem?_set_self (by simpa using hb), List.getElem?_map, List.getElem?_range hb, Option.map_some, next_step h, if_pos e]
  ·rw [List.getElem?_set_ne e, List.getElem?_map, List.getElem?_map, List.getElem?_range hb, Option.map_some, Option.map_some, next_step h, if_neg e]
 ·rw [List.getElem?_eq_none (by simp; omega), List.getElem?_eq_none (by simp; omega)]
theorem lk_step {l : List Dy.Sym} {i : Nat} {x : Dy.Sym} (h : l[i]? = some x) : lkAt l i = (lkAt l (i + 1)).set (i + 1) (Mk.next l (Mk.buckets l) (Mk.hashOf x % Mk.buckets l) (i + 1)) := by
 obtain ⟨hi, hx⟩ := List.getElem?_eq_some_iff.1 h
 apply List.ext_getElem?
 intro q
 unfold lkAt
 by_cases hq : q < l.length + 1
 ·by_cases e : i + 1 = q
  ·subst e
   rw [List.getElem?_set_self (by simpa using hq), List.getElem?_map, List.getElem?_range hq, Option.map_some, if_neg (by omega)]
   unfold Mk.linkOf
   rw [Nat.add_sub_cancel, h]
  ·rw [List.getElem?_set_ne e, List.getElem?_map, List.getElem?_map, List.getElem?_range hq, Option.map_some, Option.map_some]
   by_cases h1 : q <= i
   ·rw [if_pos h1, if_pos (by omega)]
   ·rw [if_neg h1, if_neg (by omega)]
 ·rw [List.getElem?_eq_none (by simp; omega), List.getElem?_eq_none (by simp; omega)]
theorem u64s_set (l : List Nat) (k v : Nat) : u64s (l.set k v) = (u64s l).set k (.int .u64 (v : Nat)) := by unfold u64s; rw [List.map_set]
theorem next_le (l : List Dy.Sym) (n b i : Nat) : Mk.next l n b i <= l.length := by
 unfold Mk.next
 have : ∀ (r : List Dy.Sym) (i : Nat), Mk.nextL n b r i <= i + r.length := by
  intro r
  induction r with
  | nil => intro i; simp [Mk.nextL]
  | cons s r ih =>
   intro i
   rw [Mk.nextL]
   have := ih (i + 1)
   rw [List.length_cons]
   split <;> omega
 by_cases h : i <= l.length
 ·have := this (l.drop i) i
  rw [List.length_drop] at this
  omega
 ·rw [List.drop_eq_nil_of_le (by omega)]
  exact Nat.zero_le _
theorem linkOf_le (l : List Dy.Sym) (i : Nat) : Mk.linkOf l i <= l.length := by
 unfold Mk.linkOf
 split
 ·omega
 ·exact next_le _ _ _ _
set_option maxRecDepth 100000 in
set_option maxHeartbeats 16000000 in
theorem phashes_any (A : Option Addr) (m c B : Nat) (l : List Dy.Sym) (w : World) (hB : B <= w.heap.size) (h : Rd w B 5 A m (symC l)) (hl : l.length = m) (h64 : m <= 64) (hnm : ∀ s ∈ l, s.name.size <= 4294967296) :
  Calls Tryz.prog 74 #[.slice A m c] w fun e w' => ∃ A' n' c', e = .returned (.slice A' n' c') /\ w'.ownsRow w.heap.size 5 1 (.slice A' n' c') n' (bys (Mk.hashB l)) /\ Below w.heap.size w w' := by
 obtain ⟨q, hq⟩ : ∃ q, m / 2 + 1 = q := ⟨_, rfl⟩
 have hq2 : (m : Int).tdiv 2 = ((m / 2 : Nat) : Int) := by rw [Int.tdiv_eq_ediv_of_nonneg (by omega)]; omega
 have hq3 : ((m / 2 : Nat) : Int) + 1 = (q : Int) := by omega
 have hq4 : (m : Int) / 2 + 1 = (q : Int) := by omega
 have hwm : IntKind.i64.wrap ((m : Int) + 1) = (m : Int) + 1 := by rw [IntKind.wrap_i64]; omega
 have hq64 : q <= 33 := by omega
 obtain ⟨i, hi, hz0, hz1, hz2⟩ := info_parts u64Inf5
 have Hi := zJ2 hi
 have Hz0 := zJ2 hz0
 have Hz1 := zJ2 hz1
 have Hz2 := zJ2 hz2
 have H := zJ2 h
 have Hl := zJ2 hl
 have Hnm := zJ2 hnm
 have Hq := zJ2 hq
 clear h hl hnm hi hz0 hz1 hz2 hq
 go_enter Tryz.func74, Tryz.ntmps74
 go_upto_region 2 with fail
 go_cut [4, 5] (fun bv lv wx => ∃ kb kl, bv = .slice (some ⟨kb, 0, none⟩) q q /\ lv = .slice (some ⟨kl, 0, none⟩) (m + 1) (m + 1) /\ Below w.heap.size w wx /\ wx.ownsRow w.heap.size 23 1 (.slice (some ⟨kb, 0, none⟩) q q) q (u64s (List.replicate q 0)) /\ wx.ownsRow w.heap.size 23 1 (.slice (some ⟨kl, 0, none⟩) (m + 1) (m + 1)) (m + 1) (u64s (List.replicate (m + 1) 0)) /\ kb ≠ kl)
 case first =>
  refine wp_region_noPanic ?_
  refine wp_region_held_drew (S := fun W => Below w.heap.size w W) (by kernel_rfl) (zJ5 (Below.refl _ _)) (fun HS0 => ?_)
  refine takeD (i := 0) (d := some 13) (v := ?_) rfl rfl (by kernel_rfl) (by kernel_rfl) (by kernel_rfl) (fun _ _ _ h => h) (Or.inl ⟨by rfl, ?y0⟩) HS0 ?_
  case y0 => (intro w' hSw; (try dsimp only at hSw); go_simp; (try with_reducible rfl))
  simp only [Act.put, List.setIfInBounds_toArray, List.set_cons_zero, List.set_cons_succ]
  refine takeD (i := 2) (d := some 15) (v := ?_) rfl rfl (by kernel_rfl) (by kernel_rfl) (by kernel_rfl) (fun _ _ _ h => h) (Or.inl ⟨by rfl, ?y2⟩) HS0 ?_
  case y2 => (intro w' hSw; (try dsimp only at hSw); go_simp; (try with_reducible rfl))
  simp only [Act.put, List.setIfInBounds_toArray, List.set_cons_zero, List.set_cons_succ]
  refine takeD (i := 3) (d := some 16) (v := ?_) rfl rfl (by kernel_rfl) (by kernel_rfl) (by kernel_rfl) (fun _ _ _ h => h) (Or.inl ⟨by rfl, ?y3⟩) HS0 ?_
  case y3 => (intro w' hSw; (try dsimp only at hSw); go_simp; (try with_reducible rfl))
  simp only [Act.put, List.setIfInBounds_toArray, List.set_cons_zero, List.set_cons_succ]
  refine takeD (i := 4) (d := some 17) (v := .int .i64 ((m + 1 : Nat) : Int)) rfl rfl (by kernel_rfl) (by kernel_rfl) (by kernel_rfl) (fun _ _ _ h => h) (Or.inl ⟨by rfl, ?y4⟩) HS0 ?_
  case y4 => (intro w' hSw; (try dsimp only at hSw); go_simp; (try rw [hwm]); (try rfl))
  simp only [Act.put, List.setIfInBounds_toArray, List.set_cons_zero, List.set_cons_succ]
  refine wpAnyH_ready (rs := [1, 5]) (by kernel_rfl) (by simp) ?_
  refine AllReadyH.cons (i := 1) rfl (fun K hK => ?_) (AllReadyH.cons (i := 5) rfl (fun K hK => ?_) AllReadyH.nil)
  ·skip
   rw [if_pos (by rfl)]
   refine yJn _ _ 94 rfl w.heap.size 23 i (.int .u64 0) 1 Tryz.underlying94 (zJ1 Hi) (zJ1 Hz0) (zJ1 Hz1) _ _ _ _ (q) rfl rfl rfl rfl (by rw [zJ1 Hz2]; omega) (by unfold maxLen; omega) (Nat.le_refl _) ?_
   intro v1 hov1 hgv1
   rw [uJn] at hov1
   show K (Act.put _ (some 14) _) _
   have hbv1 := (zJ5 (Below.refl w.heap.size w)).grown hgv1 (Below.size (zJ5 (Below.refl w.heap.size w))) (fun k hk => by cases hk)
   refine hK.out _ _ hbv1 (fun hHeld => ?_)
   clear hK K HS0
   have HS0 := hHeld
   clear hHeld
   (try simp only [Act.put, List.setIfInBounds_toArray, List.set_cons_zero, List.set_cons_succ])
   refine takeD (i := 6) (d := some 4) (v := ?_) rfl rfl (by kernel_rfl) (by kernel_rfl) (by kernel_rfl) (fun _ _ _ h => h) (Or.inl ⟨by rfl, ?y6⟩) HS0 ?_
   case y6 => (intro w' hSw; (try dsimp only at hSw); go_simp; (try with_reducible rfl))
   simp only [Act.put, List.setIfInBounds_toArray, List.set_cons_zero, List.set_cons_succ]
   refine wpAnyH_ready (rs := [5]) (by kernel_rfl) (by simp) ?_
   refine AllReadyH.cons (i := 5) rfl (fun K hK => ?_) AllReadyH.nil
   rw [if_pos (by rfl)]
   refine yJn _ _ 94 rfl w.heap.size 23 i (.int .u64 0) 1 Tryz.underlying94 (zJ1 Hi) (zJ1 Hz0) (zJ1 Hz1) _ _ _ _ (m + 1) rfl rfl rfl rfl (by rw [zJ1 Hz2]; omega) (by unfold maxLen; omega) (Below.size hbv1) ?_
   intro v2 hov2 hgv2
   rw [uJn] at hov2
   show K (Act.put _ (some 18) _) _
   have hbv2 := (hbv1).grown hgv2 (Below.size (hbv1)) (fun k hk => by cases hk)
   refine hK.out _ _ hbv2 (fun hHeld => ?_)
   clear hK K HS0
   have HS0 := hHeld
   clear hHeld
   (try simp only [Act.put, List.setIfInBounds_toArray, List.set_cons_zero, List.set_cons_succ])
   have hlt := (zJ7 hov1 _ rfl).2
   have hov1 := own_kept hov1 hgv2
   refine takeD (i := 7) (d := some 5) (v := ?_) rfl rfl (by kernel_rfl) (by kernel_rfl) (by kernel_rfl) (fun _ _ _ h => h) (Or.inl ⟨by rfl, ?y7⟩) HS0 ?_
   case y7 => (intro w' hSw; (try dsimp only at hSw); go_simp; (try with_reducible rfl))
   simp only [Act.put, List.setIfInBounds_toArray, List.set_cons_zero, List.set_cons_succ]
   refine wpAnyH_done (by kernel_rfl) ?_ _
   refine NoPanic.normal ?_
   go_wp2_with fail
   go_meet
   case rel => exact ⟨_, _, rfl, rfl, hbv2, hov1, hov2, Nat.ne_of_lt hlt⟩
  ·skip
   rw [if_pos (by rfl)]
   refine yJn _ _ 94 rfl w.heap.size 23 i (.int .u64 0) 1 Tryz.underlying94 (zJ1 Hi) (zJ1 Hz0) (zJ1 Hz1) _ _ _ _ (m + 1) rfl rfl rfl rfl (by rw [zJ1 Hz2]; omega) (by unfold maxLen; omega) (Nat.le_refl _) ?_
   intro v1 hov1 hgv1
   rw [uJn] at hov1
   show K (Act.put _ (some 18) _) _
   have hbv1 := (zJ5 (Below.refl w.heap.size w)).grown hgv1 (Below.size (zJ5 (Below.refl w.heap.size w))) (fun k hk => by cases hk)
   refine hK.out _ _ hbv1 (fun hHeld => ?_)
   clear hK K HS0
   have HS0 := hHeld
   clear hHeld
   (try simp only [Act.put, List.setIfInBounds_toArray, List.set_cons_zero, List.set_cons_succ])
   refine wpAnyH_ready (rs := [1]) (by kernel_rfl) (by simp) ?_
   refine AllReadyH.cons (i := 1) rfl (fun K hK => ?_) AllReadyH.nil
   rw [if_pos (by rfl)]
   refine yJn _ _ 94 rfl w.heap.size 23 i (.int .u64 0) 1 Tryz.underlying94 (zJ1 Hi) (zJ1 Hz0) (zJ1 Hz1) _ _ _ _ (q) rfl rfl rfl rfl (by rw [zJ1 Hz2]; omega) (by unfold maxLen; omega) (Below.size hbv1) ?_
   intro v2 hov2 hgv2
   rw [uJn] at hov2
   show K (Act.put _ (some 14) _) _
   have hbv2 := (hbv1).grown hgv2 (Below.size (hbv1)) (fun k hk => by cases hk)
   refine hK.out _ _ hbv2 (fun hHeld => ?_)
   clear hK K HS0
   have HS0 := hHeld
   clear hHeld
   (try simp only [Act.put, List.setIfInBounds_toArray, List.set_cons_zero, List.set_cons_succ])
   have hlt := (zJ7 hov1 _ rfl).2
   have hov1 := own_kept hov1 hgv2
   refine takeD (i := 6) (d := some 4) (v := ?_) rfl rfl (by kernel_rfl) (by kernel_rfl) (by kernel_rfl) (fun _ _ _ h => h) (Or.inl ⟨by rfl, ?y6⟩) HS0 ?_
   case y6 => (intro w' hSw; (try dsimp only at hSw); go_simp; (try with_reducible rfl))
   simp only [Act.put, List.setIfInBounds_toArray, List.set_cons_zero, List.set_cons_succ]
   refine takeD (i := 7) (d := some 5) (v := ?_) rfl rfl (by kernel_rfl) (by kernel_rfl) (by kernel_rfl) (fun _ _ _ h => h) (Or.inl ⟨by rfl, ?y7⟩) HS0 ?_
   case y7 => (intro w' hSw; (try dsimp only at hSw); go_simp; (try with_reducible rfl))
   simp only [Act.put, List.setIfInBounds_toArray, List.set_cons_zero, List.set_cons_succ]
   refine wpAnyH_done (by kernel_rfl) ?_ _
   refine NoPanic.normal ?_
   go_wp2_with fail
   go_meet
   case rel => exact ⟨_, _, rfl, rfl, hbv2, hov2, hov1, Nat.ne_of_gt hlt⟩
 case rest =>
  obtain ⟨kb, kl, rfl, rfl, hbw, hob, hol, hne⟩ := hcut
  have hql : Mk.buckets l = q := by unfold Mk.buckets; rw [zJ1 Hl, zJ1 Hq]
  have hst : List.replicate q 0 = hdAt l q m := by rw [<- zJ1 Hl, hd_start]
  have hst2 : List.replicate (m + 1) 0 = lkAt l m := by
   have h9 := lk_start l
   rw [zJ1 Hl] at h9
   exact h9.symm
  rw [hst] at hob
  rw [hst2] at hol
  have Hql := zJ2 hql
  have Hbw := zJ2 hbw
  have Hob := zJ2 hob
  have Hol := zJ2 hol
  clear hst hst2 hql hbw hob hol
  go_wp2_with fail
  go_loopg [6] m (fun gk iv wr => ∃ i : Nat, gk = i /\ i <= m /\ iv = .int .i64 i /\ Below w.heap.size w wr /\ wr.ownsRow w.heap.size 23 1 (.slice (some ⟨kb, 0, none⟩) q q) q (u64s (hdAt l q i)) /\ wr.ownsRow w.heap.size 23 1 (.slice (some ⟨kl, 0, none⟩) (m + 1) (m + 1)) (m + 1) (u64s (lkAt l i)))
  case atStart => exact ⟨m, rfl, Nat.le_refl _, rfl, zJ1 Hbw, zJ1 Hob, zJ1 Hol⟩
  case round =>
  clear Hbw Hob Hol
  obtain ⟨i', hgk, hi, rfl, hbw, hob, hol⟩ := hrel
  have Hgk := zJ2 hgk
  have Hbw := zJ2 hbw
  have Hob := zJ2 hob
  have Hol := zJ2 hol
  have hws := hbw.size
  clear hgk hbw hob hol
  rcases Nat.eq_zero_or_pos i' with h0 | hpos
  ·subst h0
   have hb1 := zJ3 wr (.cells #[.slice none 0 0] 71)
   have hbl := Blk.new wr 71 [.slice none 0 0]
   have hs1 : (wr.alloc (.cells #[.slice none 0 0] 71)).heap.size = wr.heap.size + 1 := by simp
   have hF0 : FiM (wr.alloc (.cells #[.slice none 0 0] 71)) 71 wr.heap.size 0 [.slice none 0 0] wr.heap.size none 0 0 [] := ⟨hbl, rfl, World.ownsRow_nil _ _ _ _, by simp [bk]⟩
   have H1 := lit2 (wr.alloc (.cells #[.slice none 0 0] 71)) (q : Nat) ((m : Nat) + 1)
   rw [hs1] at H1
   have hnn : ∀ v ∈ [q, m + 1], v < 18446744073709551616 := by intro v hv; simp at hv; rcases hv with rfl | rfl <;> omega
   have KN1 := zJ2 ((FiE.refl hF0).number (w2 := (wr.alloc (.cells #[.slice none 0 0] 71)).alloc (.cells #[.int .u64 (q : Nat), .int .u64 ((m : Nat) + 1)] 23)) (zJ3 _ _) (by omega) (kv := wr.heap.size + 1) (m := 2) (cv := 2) (s := 4) (sv := 4) (vs := [q, m + 1]) (by omega) H1 rfl hnn rfl (by omega) (by omega) (by omega))
   have hsA : wr.heap.size + 2 = ((wr.alloc (.cells #[.slice none 0 0] 71)).alloc (.cells #[.int .u64 (q : Nat), .int .u64 ((m : Nat) + 1)] 23)).heap.size := by simp
   have HbA := zJ2 (hb1.alloc (by simp) (.cells #[.int .u64 (q : Nat), .int .u64 ((m : Nat) + 1)] 23))
   have Hs1 := zJ2 hs1
   have hm32 : ¬ ((m : Int) + 1 < 0) := by omega
   have hqn : (q : Int) < 4294967296 := by omega
   clear hb1 hbl hs1 hF0 H1 hnn hsA
   go_wp2_with fail
   refine (zJ1 KN1).mono ?_
   rintro e w4 ⟨rfl, A4, c4, hE4, -⟩
   have hbw4 : Below wr.heap.size wr w4 := ((zJ3 wr (.cells #[.slice none 0 0] 71))).trans ((hE4.below (B := wr.heap.size) (Nat.le_refl _) (fun k hk => by cases hk) (by rw [zJ1 Hs1]; omega)))
   have hob4 := own_below (zJ1 Hob) hbw4
   have hol4 := own_below (zJ1 Hol) hbw4
   have hq40 : hdAt l q 0 = Mk.heads l := by unfold hdAt Mk.heads; rw [zJ1 Hql]
   rw [hq40] at hob4
   rw [lk_end] at hol4
   have hbkb := (wJb (zJ1 Hob)).2.1
   have hbkl := (wJb (zJ1 Hol)).2.1
   have hlt4 := hE4.m.lt
   have hsz4 := hbw4.size
   have hn4 : ∀ v ∈ Mk.heads l, v < 18446744073709551616 := by
    intro v hv
    unfold Mk.heads at hv
    obtain ⟨b, -, rfl⟩ := List.mem_map.1 hv
    have := next_le l (Mk.buckets l) b 0
    rw [zJ1 Hl] at this
    omega
   have hn5 : ∀ v ∈ Mk.links l, v < 18446744073709551616 := by
    intro v hv
    unfold Mk.links at hv
    rcases List.mem_cons.1 hv with rfl | hv
    ·omega
    ·obtain ⟨b, -, rfl⟩ := List.mem_map.1 hv
     have := linkOf_le l b
     rw [zJ1 Hl] at this
     omega
   have KN2 := zJ2 (zJp _ _ _ _ _ A4 8 c4 _ kb 0 q q 4 (Mk.heads l) w4 hE4.m (by omega) (Rd.of_own hob4) (by omega) (fun e => by have := (hlt4 kb e).1; omega) hn4 (by omega) (by omega) (by omega))
   have HE4 := zJ2 hE4
   have Hol4 := zJ2 hol4
   have Hn5 := zJ2 hn5
   clear hbw4 hob4 hol4 hlt4 hE4 hn4 hn5 KN1 HbA hq40
   go_wp2_with fail
   refine (zJ1 KN2).mono ?_
   rintro e w5 ⟨rfl, A5, c5, hE5, -⟩
   have hE45 := (zJ1 HE4).trans hE5
   have hlt5 := hE5.m.lt
   have hrl := Rd.of_own (zJ1 Hol4)
   have hrl5 : Rd w5 w5.heap.size 1 (some ⟨kl, 0, none⟩) (m + 1) (u64s (Mk.links l)) := (hE5.rdK hrl (Nat.le_refl _) (fun e => by injection e with e; have h9 : kl = wr.heap.size := e; omega) (fun k e1 e2 => by injection e1 with e1; have h9 : kl = k := e1; have := ((zJ1 HE4).m.lt k e2).1; omega)).more hE5.size
   have KN3 := zJ2 (zJp _ _ _ _ _ A5 _ c5 _ kl 0 (m + 1) (m + 1) 4 (Mk.links l) w5 hE5.m (by have := hE5.size; omega) hrl5 (by omega) (fun e => by have := (hlt5 kl e).1; omega) (zJ1 Hn5) (by omega) (by omega) (by omega))
   have HE45 := zJ2 hE45
   clear hE5 hE45 hlt5 hrl hrl5 KN2 HE4 Hol4
   go_wp2_with fail
   refine (zJ1 KN3).mono ?_
   rintro e w6 ⟨rfl, A6, c6, hE6, -⟩
   have hE := (zJ1 HE45).trans hE6
   have y0 := hE.m.cell
   have HE := zJ2 hE
   clear hE6 hE KN3 HE45
   go_wp2_with fail
   go_ret
   refine ⟨A6, 8 + 4 * q + 4 * (m + 1), c6, rfl, ?_, ?_⟩
   ·have h9 := (zJ1 HE).m.row
    have e9 : Mk.hashB l = [] ++ Mk.lbs 4 [q, m + 1] ++ Mk.lbs 4 (Mk.heads l) ++ Mk.lbs 4 (Mk.links l) := by
     unfold Mk.hashB
     rw [zJ1 Hql, zJ1 Hl]
     simp [Mk.lbs]
    rw [e9]
    exact zJh h9 (by omega)
   ·exact (zJ1 Hbw).trans ((zJ3 wr _).trans ((zJ1 HE).below (B := wr.heap.size) (Nat.le_refl _) (fun k hk => by cases hk) (by rw [zJ1 Hs1]; omega)) |>.mono hws)
  ·obtain ⟨j, rfl⟩ : ∃ j, i' = j + 1 := ⟨i' - 1, by omega⟩
   obtain ⟨x, hx⟩ : ∃ x, l[j]? = some x := ⟨_, List.getElem?_eq_getElem (by rw [zJ1 Hl]; omega)⟩
   obtain ⟨b1, o1, hA1, hb1, st0, -⟩ := xJq ((zJ1 H).below ((zJ1 Hbw).mono hB)) hx
   have KH := zJ2 (hash_any x.name wr ((zJ1 Hnm) x (List.mem_of_getElem? hx)))
   have Hhd := zJ2 (hd_step hx q)
   have Hlk := zJ2 (lk_step hx)
   rw [zJ1 Hql] at Hlk
   subst hA1
   have Hx := zJ2 hx
   have hj1 : ((j + 1 : Nat) : Int) - 1 = (j : Int) := by omega
   have hj2 : (0 : Int) < ((j + 1 : Nat) : Int) := by omega
   clear hx hb1
   go_wp2_with fail
   refine (zJ1 KH).mono ?_
   rintro e w3 ⟨rfl, hb3⟩
   have hws3 := hb3.size
   have hob3 := own_below (zJ1 Hob) hb3
   have hol3 := own_below (zJ1 Hol) hb3
   have hbw3 := (zJ1 Hbw).trans (hb3.mono hws)
   obtain ⟨hv, hhv⟩ : ∃ hv, Dy.hash x.name.data.toList = hv := ⟨_, rfl⟩
   have hhv2 : Mk.hashOf x = hv := hhv
   rw [hhv]
   rw [hhv2] at Hhd Hlk
   obtain ⟨kk, hkk⟩ : ∃ kk, hv % q = kk := ⟨_, rfl⟩
   rw [hkk] at Hhd Hlk
   have hkm := modTm _ _ _ hkk
   have hkq : kk < q := by rw [<- hkk]; exact Nat.mod_lt _ (by omega)
   obtain ⟨v, hvv⟩ : ∃ v, Mk.next l q kk (j + 1) = v := ⟨_, rfl⟩
   have hv64 : v <= 64 := by have := next_le l q kk (j + 1); rw [zJ1 Hl] at this; omega
   have yb := xJp hob3 (i := kk) (u := .int .u64 (v : Nat)) (by
    unfold u64s hdAt
    rw [List.getElem?_map, List.getElem?_map, List.getElem?_range hkq, <- hvv]
    rfl)
   rw [hvv] at Hlk
   obtain ⟨z, hz⟩ : ∃ z : Nat, (lkAt l (j + 1))[j + 1]? = some z := ⟨_, List.getElem?_eq_getElem (by unfold lkAt; rw [List.length_map, List.length_range, zJ1 Hl]; omega)⟩
   have yl := xJp hol3 (i := j + 1) (u := .int .u64 (z : Nat)) (by unfold u64s; rw [List.getElem?_map, hz]; rfl)
   have zl := wJa hol3 (j + 1)
   have hol4 := vJv (i := j + 1) hol3 (.int .u64 (v : Nat))
   have hob4 := zJm hob3 (p := ⟨kl, j + 1, none⟩) (fun e => hne (by injection e)) (.int .u64 (v : Nat))
   have yb2 := xJp hob4 (i := kk) (u := .int .u64 (v : Nat)) (by
    unfold u64s hdAt
    rw [List.getElem?_map, List.getElem?_map, List.getElem?_range hkq, <- hvv]
    rfl)
   have zb2 := wJa hob4 kk
   have hob5 := vJv (i := kk) hob4 (.int .u64 ((j + 1 : Nat) : Int))
   have hol5 := zJm hol4 (p := ⟨kb, kk, none⟩) (fun e => hne (by injection e with e; exact e.symm)) (.int .u64 ((j + 1 : Nat) : Int))
   rw [<- u64s_set, <- zJ1 Hhd] at hob5
   rw [<- u64s_set, <- zJ1 Hlk] at hol5
   have hbw5 := (hbw3.setCell (p := ⟨kl, j + 1, none⟩) (wJb hol3).1 (.int .u64 (v : Nat))).setCell (p := ⟨kb, kk, none⟩) (wJb hob3).1 (.int .u64 ((j + 1 : Nat) : Int))
   have Hob5 := zJ2 hob5
   have Hol5 := zJ2 hol5
   have Hbw5 := zJ2 hbw5
   have hki : ((kk : Nat) : Int) < (q : Int) := by omega
   have hji : ((j + 1 : Nat) : Int) < (m : Int) + 1 := by omega
   have hq0 : ((q : Nat) : Int) ≠ 0 := by omega
   have hq32 : IntKind.u32.wrap (q : Int) = (q : Int) := by rw [IntKind.wrap_u32]; omega
   have hvb : hv < 4294967296 := by rw [<- hhv]; exact Nat.lt_trans (Dy.hash_lt _) (by omega)
   clear hb3 hob3 hol3 hbw3 hhv hhv2 hkk hvv hz hol4 hob4 hob5 hol5 hbw5 KH Hbw Hob Hol
   go_wp2_with fail
   go_roundg j
   case measure => have := zJ1 Hgk; omega
   case rel => exact ⟨j, rfl, by omega, by go_num, zJ1 Hbw5, zJ1 Hob5, zJ1 Hol5⟩
theorem zJ6 {w : World} {g : Nat} {s : Xq} (h : Blk w g 66 s.l) : w.cell? ⟨g, 0, none⟩ = some (.int .u16 (s.x.type : Nat)) /\ w.cell? ⟨g, 1, none⟩ = some (.int .u64 (s.x.entry : Nat)) /\ w.cell? ⟨g, 2, none⟩ = some (.string s.x.interp) /\ w.cell? ⟨g, 3, none⟩ = some (.slice s.At s.x.text.length s.ct) /\ w.cell? ⟨g, 4, none⟩ = some (.slice s.Ad s.x.data.length s.cd) /\ w.cell? ⟨g, 5, none⟩ = some (.int .u64 (s.x.more : Nat)) /\ w.cell? ⟨g, 6, none⟩ = some (.bool s.x.dynamic) /\ w.cell? ⟨g, 7, none⟩ = some (.slice s.A1 s.x.dyn.needed.length s.c1) /\ w.cell? ⟨g, 8, none⟩ = some (.string s.x.dyn.soname) /\ w.cell? ⟨g, 9, none⟩ = some (.string s.x.dyn.run) /\ w.cell? ⟨g, 10, none⟩ = some (.slice s.A2 s.x.dyn.syms.length s.c2) /\ w.cell? ⟨g, 11, none⟩ = some (.slice s.A3 s.x.dyn.relas.length s.c3) /\ w.cell? ⟨g, 12, none⟩ = some (.int .i64 s.x.apart) :=
 ⟨h.cell (i := 0) rfl, h.cell (i := 1) rfl, h.cell (i := 2) rfl, h.cell (i := 3) rfl, h.cell (i := 4) rfl, h.cell (i := 5) rfl, h.cell (i := 6) rfl, h.cell (i := 7) rfl, h.cell (i := 8) rfl, h.cell (i := 9) rfl, h.cell (i := 10) rfl, h.cell (i := 11) rfl, h.cell (i := 12) rfl⟩
set_option maxRecDepth 100000 in
set_option maxHeartbeats 8000000 in
theorem wJ7 (s : Xq) (w : World) : Calls Tryz.prog 27 #[.agg s.l.toArray] w fun e w' => e = .returned (.int .u64 (Mk.base s.x : Nat)) /\ Below w.heap.size w w' := by
 have hb1 : Below w.heap.size w (w.alloc (.cells #[.int .u16 (s.x.type : Nat), .int .u64 (s.x.entry : Nat), .string s.x.interp, .slice s.At s.x.text.length s.ct, .slice s.Ad s.x.data.length s.cd, .int .u64 (s.x.more : Nat), .bool s.x.dynamic, .slice s.A1 s.x.dyn.needed.length s.c1, .string s.x.dyn.soname, .string s.x.dyn.run, .slice s.A2 s.x.dyn.syms.length s.c2, .slice s.A3 s.x.dyn.relas.length s.c3, .int .i64 s.x.apart] 66)) := (Below.refl _ _).alloc (Nat.le_refl _) _
 have y0 : (w.alloc (.cells #[.int .u16 (s.x.type : Nat), .int .u64 (s.x.entry : Nat), .string s.x.interp, .slice s.At s.x.text.length s.ct, .slice s.Ad s.x.data.length s.cd, .int .u64 (s.x.more : Nat), .bool s.x.dynamic, .slice s.A1 s.x.dyn.needed.length s.c1, .string s.x.dyn.soname, .string s.x.dyn.run, .slice s.A2 s.x.dyn.syms.length s.c2, .slice s.A3 s.x.dyn.relas.length s.c3, .int .i64 s.x.apart] 66)).cell? ⟨w.heap.size, 0, none⟩ = some (.int .u16 (s.x.type : Nat)) := (Blk.new w 66 s.l).cell (i := 0) rfl
 have Hb1 := zJ2 hb1
 have Hba := zJ2 (show Mk.base s.x = if s.x.type = 2 then 4194304 else 0 from rfl)
 show Calls _ _ #[.agg #[.int .u16 (s.x.type : Nat), .int .u64 (s.x.entry : Nat), .string s.x.interp, .slice s.At s.x.text.length s.ct, .slice s.Ad s.x.data.length s.cd, .int .u64 (s.x.more : Nat), .bool s.x.dynamic, .slice s.A1 s.x.dyn.needed.length s.c1, .string s.x.dyn.soname, .string s.x.dyn.run, .slice s.A2 s.x.dyn.syms.length s.c2, .slice s.A3 s.x.dyn.relas.length s.c3, .int .i64 s.x.apart]] w _
 clear hb1
 by_cases h : s.x.type = 2
 ·have q1 : ((s.x.type : Int) == 2) = true := by rw [h]; rfl
  have He := zJ2 (show Mk.base s.x = 4194304 by rw [zJ1 Hba, if_pos h])
  clear h
  go_enter Tryz.func27, Tryz.ntmps27
  go_wp2_with fail
  go_ret
  exact ⟨by rw [zJ1 He]; rfl, zJ1 Hb1⟩
 ·have q1 : ((s.x.type : Int) == 2) = false := by rw [beq_eq_false_iff_ne]; omega
  have He := zJ2 (show Mk.base s.x = 0 by rw [zJ1 Hba, if_neg h])
  clear h
  go_enter Tryz.func27, Tryz.ntmps27
  go_wp2_with fail
  go_ret
  exact ⟨by rw [zJ1 He]; rfl, zJ1 Hb1⟩
set_option maxRecDepth 100000 in
set_option maxHeartbeats 8000000 in
theorem pempty_any (s : Xq) (w : World) (ho : DqOk s.q) : Calls Tryz.prog 68 #[.agg #[.slice s.A1 s.x.dyn.needed.length s.c1, .string s.x.dyn.soname, .string s.x.dyn.run, .slice s.A2 s.x.dyn.syms.length s.c2, .slice s.A3 s.x.dyn.relas.length s.c3]] w fun e w' => e = .returned (.bool (Mk.empty s.x.dyn)) /\ Below w.heap.size w w' := by
 have hb1 : Below w.heap.size w (w.alloc (.cells #[.slice s.A1 s.x.dyn.needed.length s.c1, .string s.x.dyn.soname, .string s.x.dyn.run, .slice s.A2 s.x.dyn.syms.length s.c2, .slice s.A3 s.x.dyn.relas.length s.c3] 29)) := (Below.refl _ _).alloc (Nat.le_refl _) _
 have hbl := Blk.new w 29 [.slice s.A1 s.x.dyn.needed.length s.c1, .string s.x.dyn.soname, .string s.x.dyn.run, .slice s.A2 s.x.dyn.syms.length s.c2, .slice s.A3 s.x.dyn.relas.length s.c3]
 have y0 : (w.alloc (.cells #[.slice s.A1 s.x.dyn.needed.length s.c1, .string s.x.dyn.soname, .string s.x.dyn.run, .slice s.A2 s.x.dyn.syms.length s.c2, .slice s.A3 s.x.dyn.relas.length s.c3] 29)).cell? ⟨w.heap.size, 0, none⟩ = some (.slice s.A1 s.x.dyn.needed.length s.c1) := hbl.cell (i := 0) rfl
 have y1 : (w.alloc (.cells #[.slice s.A1 s.x.dyn.needed.length s.c1, .string s.x.dyn.soname, .string s.x.dyn.run, .slice s.A2 s.x.dyn.syms.length s.c2, .slice s.A3 s.x.dyn.relas.length s.c3] 29)).cell? ⟨w.heap.size, 1, none⟩ = some (.string s.x.dyn.soname) := hbl.cell (i := 1) rfl
 have y2 : (w.alloc (.cells #[.slice s.A1 s.x.dyn.needed.length s.c1, .string s.x.dyn.soname, .string s.x.dyn.run, .slice s.A2 s.x.dyn.syms.length s.c2, .slice s.A3 s.x.dyn.relas.length s.c3] 29)).cell? ⟨w.heap.size, 2, none⟩ = some (.string s.x.dyn.run) := hbl.cell (i := 2) rfl
 have y3 : (w.alloc (.cells #[.slice s.A1 s.x.dyn.needed.length s.c1, .string s.x.dyn.soname, .string s.x.dyn.run, .slice s.A2 s.x.dyn.syms.length s.c2, .slice s.A3 s.x.dyn.relas.length s.c3] 29)).cell? ⟨w.heap.size, 3, none⟩ = some (.slice s.A2 s.x.dyn.syms.length s.c2) := hbl.cell (i := 3) rfl
 have y4 : (w.alloc (.cells #[.slice s.A1 s.x.dyn.needed.length s.c1, .string s.x.dyn.soname, .string s.x.dyn.run, .slice s.A2 s.x.dyn.syms.length s.c2, .slice s.A3 s.x.dyn.relas.length s.c3] 29)).cell? ⟨w.heap.size, 4, none⟩ = some (.slice s.A3 s.x.dyn.relas.length s.c3) := hbl.cell (i := 4) rfl
 have n1 : s.x.dyn.needed.length <= 4294967296 := ho.n1
 have n2 : s.x.dyn.syms.length <= 4294967296 := ho.n2
 have n3 : s.x.dyn.relas.length <= 4294967296 := ho.n3
 have Hb1 := zJ2 hb1
 have Hem := zJ2 (show Mk.empty s.x.dyn = (decide (s.x.dyn.needed.length + s.x.dyn.syms.length + s.x.dyn.relas.length = 0) && (decide (s.x.dyn.soname.size = 0) && decide (s.x.dyn.run.size = 0))) from rfl)
 clear hb1 hbl ho
 by_cases h : s.x.dyn.needed.length + s.x.dyn.syms.length + s.x.dyn.relas.length = 0
 ·have q1 : ((s.x.dyn.needed.length : Int) + (s.x.dyn.syms.length : Int) + (s.x.dyn.relas.length : Int) == 0) = true := by rw [beq_iff_eq]; omega
  have He := zJ2 (show Mk.empty s.x.dyn = (decide (s.x.dyn.soname.size = 0) && decide (s.x.dyn.run.size = 0)) by rw [zJ1 Hem, decide_eq_true h, Bool.true_and])
  clear h
  by_cases h1 : s.x.dyn.soname.size = 0
  ·have q2 := yJp h1
   by_cases h2 : s.x.dyn.run.size = 0
   ·have q3 := yJp h2
    have He2 := zJ2 (show Mk.empty s.x.dyn = true by rw [zJ1 He]; simp [h1, h2])
    clear h1 h2
    go_enter Tryz.func68, Tryz.ntmps68
    go_wp2_with fail
    go_ret
    exact ⟨by rw [zJ1 He2]; rfl, zJ1 Hb1⟩
   ·have q3 := toList_some h2
    have He2 := zJ2 (show Mk.empty s.x.dyn = false by rw [zJ1 He]; simp [h1, h2])
    clear h1 h2
    go_enter Tryz.func68, Tryz.ntmps68
    go_wp2_with fail
    go_ret
    exact ⟨by rw [zJ1 He2]; rfl, zJ1 Hb1⟩
  ·have q2 := toList_some h1
   have He2 := zJ2 (show Mk.empty s.x.dyn = false by rw [zJ1 He]; simp [h1])
   clear h1
   go_enter Tryz.func68, Tryz.ntmps68
   go_wp2_with fail
   go_ret
   exact ⟨by rw [zJ1 He2]; rfl, zJ1 Hb1⟩
 ·have q1 : ((s.x.dyn.needed.length : Int) + (s.x.dyn.syms.length : Int) + (s.x.dyn.relas.length : Int) == 0) = false := by rw [beq_eq_false_iff_ne]; omega
  have He2 := zJ2 (show Mk.empty s.x.dyn = false by rw [zJ1 Hem, decide_eq_false h, Bool.false_and])
  clear h
  go_enter Tryz.func68, Tryz.ntmps68
  go_wp2_with fail
  go_ret
  exact ⟨by rw [zJ1 He2]; rfl, zJ1 Hb1⟩
section
variable {P : Program} {t e : TypeId} {size bytes : Nat}
theorem rd_src (T : SlTy P t e size bytes) {w : World} {B : Nat} {A : Option Addr} {m : Nat} {xs : List Value} (h : Rd w B size A m xs) (hm : 0 < m) : ∃ ad, A = some ad /\ ∀ j u, xs[j]? = some u -> w.cell? (ad.add j) = some u := by
 rcases h.2 with rfl | ⟨b, off, rfl, _, hc⟩
 ·exfalso
  have h1 := h.1
  simp only [List.length_nil] at h1
  have := Nat.mul_pos hm T.hsz
  omega
 ·exact ⟨_, rfl, fun j u hu => by rw [Addr.add_lit]; exact hc j u hu⟩
theorem run_appG (T : SlTy P t e size bytes) (w : World) (ty : TypeId) (A : Option Addr) (n B : Nat) (olds : List Value) (hr : Rd w B size A n olds) (B2 : Nat) (A2 : Option Addr) (m c : Nat) (news : List Value) (hr2 : Rd w B2 size A2 m news)
  (h1 : ∀ u ∈ news, u.oneCell' = true) (hb : (n + m) * bytes <= 140737488355328) :
  ∃ v' w', (Builtin.append_ #[t, t] ty #[.slice A n n, .slice A2 m c]).run P w = .ok v' w' /\ ((m = 0 /\ v' = .slice A n n /\ w' = w) \/ (0 < m /\ w'.ownsRow w.heap.size e size v' (n + m) (olds ++ news) /\ w.grownBy w' none)) := by
 have T' := T
 obtain ⟨ht, ⟨i, z, hi, hz, hs, hby, hzs⟩, hsz, hbp⟩ := T
 have h63 : n + m <= maxLen := by
  have : (n + m) * 1 <= (n + m) * bytes := Nat.mul_le_mul_left _ hbp
  unfold maxLen
  omega
 rcases Nat.eq_zero_or_pos m with rfl | hm
 ·have hn0 : news = [] := List.eq_nil_of_length_eq_zero (by simpa using hr2.1)
  subst hn0
  refine ⟨_, _, ?_, .inl ⟨rfl, rfl, rfl⟩⟩
  cases A2 with
  | none => exact run_append_nothing w t t ty e i ht hi A n n (Nat.le_refl _) _ (Src.ofNil w ht c)
  | some a => exact run_append_nothing w t t ty e i ht hi A n n (Nat.le_refl _) _ (Src.ofSlice w ht a 0 c [] (by simp) (by simp) (by simp))
 ·obtain ⟨ad, rfl, hc2⟩ := rd_src T' hr2 hm
  cases A with
  | some b0 =>
   have hc : ∀ j u, olds[j]? = some u -> w.cell? (b0.add j) = some u := by
    intro j u hu
    rcases hr.2 with rfl | ⟨b, off, ha, _, hc⟩
    ·simp at hu
    ·injection ha with ha
     subst ha
     rw [Addr.add_lit]
     exact hc j u hu
   obtain ⟨v', w', hrun, r1, r2⟩ := run_append_arg_grows (P := P) w t ty e i z size bytes ht hi hz hs hby hzs hsz b0 n n olds hr.1 hc ad m c news hr2.1 hc2 (by omega) h63 hb
   exact ⟨v', w', hrun, .inr ⟨hm, r1, r2⟩⟩
  | none =>
   have hn : n = 0 /\ olds = [] := by
    rcases hr.2 with rfl | ⟨b, off, ha, _, _⟩
    ·have h1 := hr.1
     simp only [List.length_nil] at h1
     refine ⟨?_, rfl⟩
     rcases Nat.eq_zero_or_pos n with h | h
     ·exact h
     ·have := Nat.mul_pos h hsz
      omega
    ·cases ha
   obtain ⟨rfl, rfl⟩ := hn
   obtain ⟨v', w', hrun, r1, r2, _⟩ := run_append_own (P := P) w w.heap.size t ty e i z size bytes ht hi hz hs hby hzs hsz (.slice none 0 0) 0 [] (World.ownsRow_nil w _ e size) ad m c news hr2.1 hc2 h1 h63 hb (Nat.le_refl _)
   exact ⟨v', w', hrun, .inr ⟨hm, r1, r2⟩⟩
theorem wpList_appGo (T : SlTy P t e size bytes) {w : World} {ops : Array Oper} {rest : List Oper} {o : Oper} {a : Act} {Q : Exit -> Act -> World -> Prop} (hgd : o.guard = none) (s x : Operand)
  (ho : o.op = .call { callee := .builtin .append, args := #[s, x], argTypes := #[t, t] })
  (A : Option Addr) (n B : Nat) (olds : List Value) (hs : a.eval s = .slice A n n) (hr : Rd w B size A n olds)
  (B2 : Nat) (A2 : Option Addr) (m c : Nat) (news : List Value) (hx : a.eval x = .slice A2 m c) (hr2 : Rd w B2 size A2 m news) (h1 : ∀ u ∈ news, u.oneCell' = true)
  (hb : (n + m) * bytes <= 140737488355328) (hm : 0 < m)
  (h : ∀ A' c' w', w'.ownsRow w.heap.size e size (.slice A' (n + m) c') (n + m) (olds ++ news) -> Below w.heap.size w w' -> wpList P ops Q rest (a.put o.dst (.slice A' (n + m) c')) w') : wpList P ops Q (o :: rest) a w := by
 refine wpList_plain hgd fun _ hK => ?_
 obtain ⟨v', w', hrun, h2⟩ := run_appG T w o.type A n B olds hr B2 A2 m c news hr2 h1 hb
 unfold Oper.wp execOp
 simp only [ho, resolve, invoke, builtin, Sem.run_bind, Sem.run_pure, Result.andThen_ok, List.map_toArray, List.map_cons, List.map_nil, hs, hx, hrun]
 rcases h2 with ⟨rfl, _⟩ | ⟨_, h3, h4⟩
 ·omega
 ·obtain ⟨A', c', rfl⟩ := yJt h3
  exact hK _ _ (h A' c' w' h3 ((Below.refl _ _).grown h4 (Nat.le_refl _) (fun k hk => by cases hk)))
end
open Go.RowKit
theorem conv24 (w : World) (C : Array Value) (n c : Nat) : (convert 24 24 (.slice (some ⟨w.heap.size, 0, none⟩) n c)).run Tryz.prog (w.alloc (.cells C 5)) = .ok (.slice (some ⟨w.heap.size, 0, none⟩) n c) (w.alloc (.cells C 5 (C.size, C.size + 1))) := Lib.run_convert_bytes_const w 24 5 C n c Tryz.underlying24 Tryz.underlying5
theorem lit3 (w : World) (a b c : Int) : Rd (w.alloc (.cells #[.int .u64 a, .int .u64 b, .int .u64 c] 23)) (w.alloc (.cells #[.int .u64 a, .int .u64 b, .int .u64 c] 23)).heap.size 1 (some ⟨w.heap.size, 0, none⟩) 3 [.int .u64 a, .int .u64 b, .int .u64 c] := by
 rw [show (w.alloc (.cells #[.int .u64 a, .int .u64 b, .int .u64 c] 23)).heap.size = w.heap.size + 1 by simp]
 exact Rd.rowF (n := 3) (size := 1) rfl
theorem lit6 (w : World) (a b c d e f : Int) : Rd (w.alloc (.cells #[.int .u64 a, .int .u64 b, .int .u64 c, .int .u64 d, .int .u64 e, .int .u64 f] 23)) (w.alloc (.cells #[.int .u64 a, .int .u64 b, .int .u64 c, .int .u64 d, .int .u64 e, .int .u64 f] 23)).heap.size 1 (some ⟨w.heap.size, 0, none⟩) 6 [.int .u64 a, .int .u64 b, .int .u64 c, .int .u64 d, .int .u64 e, .int .u64 f] := by
 rw [show (w.alloc (.cells #[.int .u64 a, .int .u64 b, .int .u64 c, .int .u64 d, .int .u64 e, .int .u64 f] 23)).heap.size = w.heap.size + 1 by simp]
 exact Rd.rowF (n := 6) (size := 1) rfl
theorem FiE.first {t : TypeId} {g o base n n' c' : Nat} {l : List Value} {A A' : Option Addr} {w w1 : World} {xs' : List UInt8} {ys : List Value} {c : Nat} (hbase : base <= w.heap.size) (h : Blk w g t l) (hb : Below w.heap.size w w1) (hat : l[o]? = some (.slice A n c)) (ho : w1.ownsRow w.heap.size 5 1 (.slice A' n' c') n' ys) (hy : ys = bys xs') : FiE t g o l base none w (w1.setCell ⟨g, o, none⟩ (.slice A' n' c')) A' n' c' xs' := by
 subst hy
 have hlt := h.lt
 have hl := zJ7 ho
 have hne : bk A' ≠ some g := fun e => by have := (hl g e).1; omega
 exact ⟨⟨(h.belowSz hb).set o _, by rw [List.getElem?_set_self (List.getElem?_eq_some_iff.1 hat).1], zJh (zJm ho hne _) hbase, hne⟩, hb.os, hb.tape, hb.output, by simpa using hb.size, fun k hk h1 _ => (heap_setCell_other _ _ _ _ (by show k ≠ g; exact h1)).trans (hb.block k hk), fun k hk => .inr (hl k hk).1⟩
set_option maxRecDepth 100000 in
set_option maxHeartbeats 8000000 in
theorem pnumberG_any (t : TypeId) (g o : Nat) (l : List Value) (base : Nat) (A : Option Addr) (n : Nat) (xs : List UInt8) (kv ov m cv s : Nat) (vs : List Nat) (w : World) (h : Blk w g t l) (hat : l[o]? = some (.slice A n n)) (hrA : Rd w w.heap.size 1 A n (bys xs)) (hgA : bk A ≠ some g) (hbase : base <= w.heap.size)
  (hr : Rd w w.heap.size 1 (some ⟨kv, ov, none⟩) m (u64s vs)) (hbg : kv ≠ g) (hv : ∀ v ∈ vs, v < 18446744073709551616) (hs : s = 1 \/ s = 2 \/ s = 4 \/ s = 8) (hn : n <= 17592186044416) (hm : m <= 1048576) (hm0 : 0 < m) :
  Calls Tryz.prog 72 #[.pointer (some ⟨g, o, none⟩), .int .i64 s, .slice (some ⟨kv, ov, none⟩) m cv] w fun e w' => e = .returned (.tuple #[]) /\ ∃ A' c', FiE t g o l base none w w' A' (n + s * m) c' (xs ++ Mk.lbs s vs) := by
 have hvl : vs.length = m := by have := hr.1; simp [u64s] at this; omega
 have hs8 : s <= 8 := by omega
 have hsp : 0 < s := by omega
 obtain ⟨i, hi, hz0, hz1, hz2⟩ := info_parts yJw
 have Hi := zJ2 hi
 have Hz0 := zJ2 hz0
 have Hz1 := zJ2 hz1
 have Hz2 := zJ2 hz2
 have H := zJ2 h
 have Hr := zJ2 hr
 have Hbg := zJ2 hbg
 have Hat := zJ2 hat
 have HrA := zJ2 hrA
 have HgA := zJ2 hgA
 have Hv := zJ2 hv
 have Hs := zJ2 hs
 have Hvl := zJ2 hvl
 clear h hr hbg hat hrA hgA hv hs hvl hi hz0 hz1 hz2
 go_enter Tryz.func72, Tryz.ntmps72
 go_wp2_with fail
 go_loopg [12] m (fun gk iv wr => ∃ (j : Nat), gk = m - j /\ j <= m /\ iv = .int .i64 j /\ ((j = 0 /\ wr = w) \/ (0 < j /\ ∃ A1 c1, FiE t g o l base none w wr A1 (n + s * j) c1 (xs ++ Mk.lbs s (vs.take j)))))
 case atStart => exact ⟨0, by omega, by omega, rfl, .inl ⟨rfl, rfl⟩⟩
 case round =>
 obtain ⟨j, hgk, hj, rfl, hE⟩ := hrel
 have Hgk := zJ2 hgk
 clear hgk
 rcases hE with ⟨rfl, rfl⟩ | ⟨hj0, A1, c1, hE⟩
 ·obtain ⟨x, hx⟩ : ∃ x, vs[0]? = some x := ⟨_, List.getElem?_eq_getElem (by rw [zJ1 Hvl]; exact hm0)⟩
  have hx64 := (zJ1 Hv) x (List.mem_of_getElem? hx)
  obtain ⟨b1, o1, hA1, hb1, st⟩ := (zJ1 Hr).at_ (k := 0) (u := .int .u64 (x : Nat)) (by simp [u64s, hx])
  injection hA1 with hA1
  injection hA1 with hA1 hA2
  subst hA1 hA2
  rw [Nat.add_zero] at st
  have Hx := zJ2 hx
  have hji : (0 : Int) < (m : Int) := by omega
  clear hx
  go_wp2_with (at_make; refine wpList_make_full _ rfl _ _ 24 rfl wr.heap.size 5 i (.int .u8 0) 1 Tryz.underlying24 (zJ1 Hi) (zJ1 Hz0) (zJ1 Hz1) _ _ _ _ s rfl (by rfl) rfl (by rfl) (by rw [zJ1 Hz2]; omega) (by unfold maxLen; omega) (Nat.le_refl _) ?_; intro w1 hown hgrow; rw [uJ7] at hown; have hb1 := (Below.refl wr.heap.size wr).grown hgrow (Nat.le_refl _) (fun k hk => by cases hk); have Hown := zJ2 hown; have Hb1 := zJ2 hb1; clear hown hgrow hb1)
  have ho := zJ1 Hown
  have KS := zJ2 (set_yes wr.heap.size s s w1.heap.size (List.replicate s 0) 0 s x w1 (Nat.le_refl _) (Rd.of_own ho) (by omega) (zJ1 Hs) (by omega) hx64)
  clear ho
  refine (zJ1 KS).mono ?_
  rintro e w2 ⟨A2, c2, rfl, ho2, hb2⟩
  rw [uJq] at ho2
  have hs1 := (zJ1 Hb1).size
  have hb12 := (zJ1 Hb1).trans (hb2.mono hs1)
  have hB2 := (zJ1 H).belowSz hb12
  have y0 := hB2.cell (zJ1 Hat)
  have z0 := hB2.free o
  have HB2 := zJ2 hB2
  have Hb12 := zJ2 hb12
  have Ho2 := zJ2 ho2
  have hs2 := hb12.size
  clear KS ho2 hb2 hb12 hB2
  go_wp2_with (at_builtin; refine wpList_appGo vJ3 rfl _ _ rfl A n wr.heap.size (bys xs) rfl ((zJ1 HrA).below (zJ1 Hb12)) w2.heap.size A2 s c2 (bys (Cl.lb x s)) rfl (Rd.of_own (zJ1 Ho2)) (xJc _) (by omega) hsp ?_; intro A3 c3 w3 ho3 hb3; have z2 := ((zJ1 HB2).belowSz hb3).cell (zJ1 Hat); have z3 := ((zJ1 HB2).belowSz hb3).free o; have HE3 := zJ2 (FiE.first (l := l) (o := o) (g := g) (t := t) hbase (zJ1 H) ((zJ1 Hb12).trans (hb3.mono hs2)) (zJ1 Hat) (zJh ho3 hs2) (show bys xs ++ bys (Cl.lb x s) = bys (xs ++ Cl.lb x s) from (xJ0 _ _).symm)); clear ho3 hb3 y0 z0)
  go_roundg (m - 1)
  case measure => have := zJ1 Hgk; omega
  case rel => exact ⟨1, rfl, by omega, by go_num, .inr ⟨by omega, A3, c3, by
   have h9 := zJ1 HE3
   have h8 : vs.take 1 = [x] := by
    have h7 := zJ1 Hx
    cases vs with
    | nil => simp at h7
    | cons a r => simp at h7; subst h7; rfl
   rw [h8, Nat.mul_one]
   simpa [Mk.lbs] using h9⟩⟩
 have hsz := hE.size
 have HE := zJ2 hE
 clear hE
 rcases Nat.lt_or_ge j m with hlt | hge
 ·obtain ⟨x, hx⟩ : ∃ x, vs[j]? = some x := ⟨_, List.getElem?_eq_getElem (by rw [zJ1 Hvl]; exact hlt)⟩
  have hx64 := (zJ1 Hv) x (List.mem_of_getElem? hx)
  obtain ⟨b1, o1, hA1, hb1, st⟩ := ((zJ1 HE).rdK (zJ1 Hr) (Nat.le_refl _) (fun e => (zJ1 Hbg) (by injection e)) (fun k e e2 => by cases e2)).at_ (k := j) (u := .int .u64 (x : Nat)) (by simp [u64s, hx])
  injection hA1 with hA1
  injection hA1 with hA1 hA2
  subst hA1 hA2
  have Hx := zJ2 hx
  have hsj : s * j <= 8388608 := Nat.le_trans (Nat.mul_le_mul hs8 (by omega)) (by omega : 8 * 1048576 <= 8388608)
  have hji : (j : Int) < (m : Int) := by omega
  clear hx
  go_wp2_with (at_make; refine wpList_make_full _ rfl _ _ 24 rfl wr.heap.size 5 i (.int .u8 0) 1 Tryz.underlying24 (zJ1 Hi) (zJ1 Hz0) (zJ1 Hz1) _ _ _ _ s rfl (by rfl) rfl (by rfl) (by rw [zJ1 Hz2]; omega) (by unfold maxLen; omega) (Nat.le_refl _) ?_; intro w1 hown hgrow; rw [uJ7] at hown; have hb1 := (Below.refl wr.heap.size wr).grown hgrow (Nat.le_refl _) (fun k hk => by cases hk); have Hown := zJ2 hown; have Hb1 := zJ2 hb1; clear hown hgrow hb1)
  have ho := zJ1 Hown
  have KS := zJ2 (set_yes wr.heap.size s s w1.heap.size (List.replicate s 0) 0 s x w1 (Nat.le_refl _) (Rd.of_own ho) (by omega) (zJ1 Hs) (by omega) hx64)
  clear ho
  refine (zJ1 KS).mono ?_
  rintro e w2 ⟨A2, c2, rfl, ho2, hb2⟩
  rw [uJq] at ho2
  have hs1 := (zJ1 Hb1).size
  have hb12 := (zJ1 Hb1).trans (hb2.mono hs1)
  have hE2 := (zJ1 HE).then_ hb12
  have y0 := hE2.m.cell
  have z0 := hE2.m.blk.free o
  have HE2 := zJ2 hE2
  have Ho2 := zJ2 ho2
  have hs2 := hb12.size
  clear KS ho2 hb2 hb12 hE2 HE
  go_wp2_with (at_builtin; refine wJw vJ3 rfl _ _ rfl base A1 (n + s * j) c1 _ rfl (zJ1 HE2).m.row w2.heap.size A2 s c2 (bys (Cl.lb x s)) rfl (Rd.of_own (zJ1 Ho2)) (xJc _) hsp (by omega) (by omega) ?_; intro A3 c3 w3 ho3 hg3 ha3 hk3; clear hk3; obtain ⟨hb3, hE3⟩ := (zJ1 HE2).more (Below.refl _ _) (show Grew _ w3 base _ _ (n + s * j + s) (xs ++ Mk.lbs s (vs.take j) ++ Cl.lb x s) from ⟨by rw [xJ0]; exact ho3, hg3, ha3⟩); have z2 := hb3.cell (zJ1 HE2).m.at_; have z3 := hb3.free o; have HE3 := zJ2 hE3; clear ho3 hg3 ha3 hb3 hE3 y0 z0)
  go_roundg (m - (j + 1))
  case measure => have := zJ1 Hgk; omega
  case rel => exact ⟨j + 1, rfl, by omega, by go_num, .inr ⟨by omega, A3, c3, by
   have h9 := zJ1 HE3
   rw [List.take_add_one, zJ1 Hx, Option.toList_some, lbs_snoc, <- List.append_assoc, Nat.mul_succ, <- Nat.add_assoc]
   exact h9⟩⟩
 ·obtain rfl : j = m := by omega
  have ige : ¬ (j : Int) < (j : Int) := by omega
  have hE := zJ1 HE
  rw [List.take_of_length_le (by rw [zJ1 Hvl]; omega)] at hE
  have HE3 := zJ2 hE
  clear hE HE
  go_wp2_with fail
  go_end0
  exact ⟨rfl, A1, c1, zJ1 HE3⟩
structure OwF (gF b0 : Nat) (W0 wr : World) (fs : List UInt8) (L : List (Nat × TypeId × List Value)) : Prop where
 fi : ∃ A c, FiM wr 71 gF 0 [.slice A fs.length c] b0 A fs.length c fs /\ ∀ q ∈ L, Blk wr q.1 q.2.1 q.2.2 /\ q.1 ≠ gF /\ bk A ≠ some q.1
 bel : Below b0 W0 wr
 hg : b0 <= gF
 hb : b0 <= W0.heap.size
section
variable {gF b0 : Nat} {W0 wr w2 : World} {fs : List UInt8} {L : List (Nat × TypeId × List Value)}
theorem OwF.calm (h : OwF gF b0 W0 wr fs L) (hb : Below wr.heap.size wr w2) : OwF gF b0 W0 w2 fs L := by
 obtain ⟨A, c, F, d⟩ := h.fi
 exact ⟨⟨A, c, F.below hb, fun q hq => ⟨(d q hq).1.belowSz hb, (d q hq).2⟩⟩, h.bel.trans (hb.mono (by have := h.bel.size; have := h.hb; omega)), h.hg, h.hb⟩
theorem OwF.sub (h : OwF gF b0 W0 wr fs L) {L' : List (Nat × TypeId × List Value)} (hL : ∀ q ∈ L', q ∈ L) : OwF gF b0 W0 wr fs L' := by
 obtain ⟨A, c, F, d⟩ := h.fi
 exact ⟨⟨A, c, F, fun q hq => d q (hL q hq)⟩, h.bel, h.hg, h.hb⟩
theorem OwF.lay (h : OwF gF b0 W0 wr fs L) (t3 : TypeId) (l3 : List Value) : OwF gF b0 W0 (wr.alloc (.cells l3.toArray t3)) fs ((wr.heap.size, t3, l3) :: L) := by
 have hb : Below wr.heap.size wr (wr.alloc (.cells l3.toArray t3)) := zJ3 _ _
 have h1 := h.calm hb
 obtain ⟨A, c, F, d⟩ := h.fi
 refine ⟨⟨A, c, F.below hb, fun q hq => ?_⟩, h1.bel, h1.hg, h1.hb⟩
 rcases List.mem_cons.1 hq with rfl | hq
 ·refine ⟨Blk.new wr t3 l3, fun e => ?_, fun e => ?_⟩
  ·have := F.blk.lt; simp at e; omega
  ·have := (F.lt _ e).2; simp at this
 ·exact ⟨(d q hq).1.belowSz hb, (d q hq).2⟩
theorem OwF.cell (h : OwF gF b0 W0 wr fs L) {k i : Nat} {t3 : TypeId} {l3 : List Value} {v : Value} (hm : (k, t3, l3) ∈ L) (hi : l3[i]? = some v) : wr.cell? ⟨k, i, none⟩ = some v := by
 obtain ⟨A, c, F, d⟩ := h.fi
 exact (d _ hm).1.cell hi
theorem OwF.bind (h : OwF gF b0 W0 wr fs L) {fs' : List UInt8} (e : fs = fs') : OwF gF b0 W0 wr fs' L := by subst e; exact h
theorem OwF.callNumber (h : OwF gF b0 W0 wr fs L) (hb : Below wr.heap.size wr w2) {kv m cv s : Nat} {sv : Int} {vs : List Nat} {us : List Value} (hkv : wr.heap.size <= kv) (hr : Rd w2 w2.heap.size 1 (some ⟨kv, 0, none⟩) m us) (hu : us = u64s vs) (hv : ∀ v ∈ vs, v < 18446744073709551616) (hsv : sv = (s : Nat)) (hs : s = 1 \/ s = 2 \/ s = 4 \/ s = 8) (hn : fs.length <= 17592186044416) (hm : m <= 1048576) :
  Calls Tryz.prog 72 #[.pointer (some ⟨gF, 0, none⟩), .int .i64 sv, .slice (some ⟨kv, 0, none⟩) m cv] w2 fun e w3 => e = .returned (.tuple #[]) /\ OwF gF b0 W0 w3 (fs ++ Mk.lbs s vs) L := by
 subst hsv hu
 obtain ⟨A, c, F, d⟩ := h.fi
 have F2 := F.below hb
 have hlt := F.lt
 have hgl := F.blk.lt
 have h2 := h.calm hb
 have hvl : vs.length = m := by have := hr.1; simp [u64s] at this; omega
 refine (zJp _ gF 0 _ b0 A fs.length c fs kv 0 m cv s vs w2 F2 (by have := h2.bel.size; have := h.hb; omega) hr (by omega) (fun e => by have := (hlt kv e).2; omega) hv hs hn hm).mono ?_
 rintro e w3 ⟨rfl, A', c', E, -⟩
 have hnl : fs.length + s * m = (fs ++ Mk.lbs s vs).length := by rw [List.length_append, zJy, hvl]
 rw [hnl] at E
 refine ⟨rfl, ⟨⟨A', c', E.m, fun q hq => ?_⟩, h2.bel.trans (E.below h.hg (fun k hk => (hlt k hk).1) (by have := h2.bel.size; have := h.hb; omega)), h.hg, h.hb⟩⟩
 obtain ⟨q1, q2, q3⟩ := d q hq
 refine ⟨E.blk (q1.belowSz hb) q2 q3, q2, fun e => ?_⟩
 rcases E.at_ _ e with h9 | h9
 ·exact q3 h9
 ·have := (q1.belowSz hb).lt; omega
end
theorem OwF.startG {gF b0 n : Nat} {A : Option Addr} {W0 w2 : World} {xs : List UInt8} {L : List (Nat × TypeId × List Value)} (hf : Blk W0 gF 71 [.slice A n n]) (hrA : Rd W0 W0.heap.size 1 A n (bys xs)) (hA : bk A ≠ some gF) (hg : b0 <= gF) (hb0 : b0 <= W0.heap.size) (hL : ∀ q ∈ L, Blk W0 q.1 q.2.1 q.2.2 /\ q.1 ≠ gF)
  (hb : Below W0.heap.size W0 w2) {kv m cv s : Nat} {sv : Int} {vs : List Nat} {us : List Value} (hkv : W0.heap.size <= kv) (hr : Rd w2 w2.heap.size 1 (some ⟨kv, 0, none⟩) m us) (hu : us = u64s vs) (hv : ∀ v ∈ vs, v < 18446744073709551616) (hsv : sv = (s : Nat)) (hs : s = 1 \/ s = 2 \/ s = 4 \/ s = 8) (hn : n <= 17592186044416) (hm : m <= 1048576) (hm0 : 0 < m) :
  Calls Tryz.prog 72 #[.pointer (some ⟨gF, 0, none⟩), .int .i64 sv, .slice (some ⟨kv, 0, none⟩) m cv] w2 fun e w3 => e = .returned (.tuple #[]) /\ OwF gF b0 W0 w3 (xs ++ Mk.lbs s vs) L := by
 subst hsv hu
 have hgl := hf.lt
 have hxl : xs.length = n := by simpa [bys] using hrA.len1
 have hvl : vs.length = m := by have := hr.1; simp [u64s] at this; omega
 have hsz := hb.size
 refine (pnumberG_any _ gF 0 _ b0 A n xs kv 0 m cv s vs w2 (hf.belowSz hb) rfl ((hrA.below hb).more hsz) hA (by omega) hr (by omega) hv hs hn hm hm0).mono ?_
 rintro e w3 ⟨rfl, A', c', E⟩
 have hnl : n + s * m = (xs ++ Mk.lbs s vs).length := by rw [List.length_append, zJy, hvl, hxl]
 rw [hnl] at E
 refine ⟨rfl, ⟨⟨A', c', E.m, fun q hq => ?_⟩, (hb.mono hb0).trans (E.below hg (fun k hk => by cases hk) (by omega)), hg, hb0⟩⟩
 obtain ⟨q1, q2⟩ := hL q hq
 refine ⟨E.blk (q1.belowSz hb) q2 (by simp [bk]), q2, fun e => ?_⟩
 rcases E.at_ _ e with h9 | h9
 ·cases h9
 ·have := q1.lt; omega
set_option maxRecDepth 100000 in
set_option maxHeartbeats 16000000 in
theorem phead_any (s : Xq) (Al : Option Addr) (nl cl B : Nat) (l : List Mk.Row) (w : World) (hB : B <= w.heap.size) (hl : l.length = nl) (hnl : nl <= 64) (hr : Rd w B 7 Al nl (rowC l)) (hok : ∀ r ∈ l, RowOk r) (hty : s.x.type < 65536) (hen : s.x.entry < 18446744073709551616) :
  Calls Tryz.prog 32 #[.agg s.l.toArray, .slice Al nl cl] w fun e w' => ∃ A' c', e = .returned (.slice A' (64 + 56 * nl) c') /\ w'.ownsRow w.heap.size 5 1 (.slice A' (64 + 56 * nl) c') (64 + 56 * nl) (bys (Mk.head s.x l)) /\ Below w.heap.size w w' := by
 have hb1 : Below w.heap.size w (w.alloc (.cells #[.int .u16 (s.x.type : Nat), .int .u64 (s.x.entry : Nat), .string s.x.interp, .slice s.At s.x.text.length s.ct, .slice s.Ad s.x.data.length s.cd, .int .u64 (s.x.more : Nat), .bool s.x.dynamic, .slice s.A1 s.x.dyn.needed.length s.c1, .string s.x.dyn.soname, .string s.x.dyn.run, .slice s.A2 s.x.dyn.syms.length s.c2, .slice s.A3 s.x.dyn.relas.length s.c3, .int .i64 s.x.apart] 66)) := (Below.refl _ _).alloc (Nat.le_refl _) _
 have hbl := Blk.new w 66 s.l
 have e1 : (w.alloc (.cells #[.int .u16 (s.x.type : Nat), .int .u64 (s.x.entry : Nat), .string s.x.interp, .slice s.At s.x.text.length s.ct, .slice s.Ad s.x.data.length s.cd, .int .u64 (s.x.more : Nat), .bool s.x.dynamic, .slice s.A1 s.x.dyn.needed.length s.c1, .string s.x.dyn.soname, .string s.x.dyn.run, .slice s.A2 s.x.dyn.syms.length s.c2, .slice s.A3 s.x.dyn.relas.length s.c3, .int .i64 s.x.apart] 66)).heap.size = w.heap.size + 1 := by simp
 have hcv := conv24 (w.alloc (.cells #[.int .u16 (s.x.type : Nat), .int .u64 (s.x.entry : Nat), .string s.x.interp, .slice s.At s.x.text.length s.ct, .slice s.Ad s.x.data.length s.cd, .int .u64 (s.x.more : Nat), .bool s.x.dynamic, .slice s.A1 s.x.dyn.needed.length s.c1, .string s.x.dyn.soname, .string s.x.dyn.run, .slice s.A2 s.x.dyn.syms.length s.c2, .slice s.A3 s.x.dyn.relas.length s.c3, .int .i64 s.x.apart] 66)) #[.int .u8 127, .int .u8 69, .int .u8 76, .int .u8 70, .int .u8 2, .int .u8 1, .int .u8 1, .int .u8 0, .int .u8 0, .int .u8 0, .int .u8 0, .int .u8 0, .int .u8 0, .int .u8 0, .int .u8 0, .int .u8 0] 16 16
 rw [e1] at hcv
 have hbM : Below (w.alloc (.cells #[.int .u16 (s.x.type : Nat), .int .u64 (s.x.entry : Nat), .string s.x.interp, .slice s.At s.x.text.length s.ct, .slice s.Ad s.x.data.length s.cd, .int .u64 (s.x.more : Nat), .bool s.x.dynamic, .slice s.A1 s.x.dyn.needed.length s.c1, .string s.x.dyn.soname, .string s.x.dyn.run, .slice s.A2 s.x.dyn.syms.length s.c2, .slice s.A3 s.x.dyn.relas.length s.c3, .int .i64 s.x.apart] 66)).heap.size (w.alloc (.cells #[.int .u16 (s.x.type : Nat), .int .u64 (s.x.entry : Nat), .string s.x.interp, .slice s.At s.x.text.length s.ct, .slice s.Ad s.x.data.length s.cd, .int .u64 (s.x.more : Nat), .bool s.x.dynamic, .slice s.A1 s.x.dyn.needed.length s.c1, .string s.x.dyn.soname, .string s.x.dyn.run, .slice s.A2 s.x.dyn.syms.length s.c2, .slice s.A3 s.x.dyn.relas.length s.c3, .int .i64 s.x.apart] 66)) ((w.alloc (.cells #[.int .u16 (s.x.type : Nat), .int .u64 (s.x.entry : Nat), .string s.x.interp, .slice s.At s.x.text.length s.ct, .slice s.Ad s.x.data.length s.cd, .int .u64 (s.x.more : Nat), .bool s.x.dynamic, .slice s.A1 s.x.dyn.needed.length s.c1, .string s.x.dyn.soname, .string s.x.dyn.run, .slice s.A2 s.x.dyn.syms.length s.c2, .slice s.A3 s.x.dyn.relas.length s.c3, .int .i64 s.x.apart] 66)).alloc (.cells #[.int .u8 127, .int .u8 69, .int .u8 76, .int .u8 70, .int .u8 2, .int .u8 1, .int .u8 1, .int .u8 0, .int .u8 0, .int .u8 0, .int .u8 0, .int .u8 0, .int .u8 0, .int .u8 0, .int .u8 0, .int .u8 0] 5 (16, 17))) := zJ3 _ _
 have e2 : ((w.alloc (.cells #[.int .u16 (s.x.type : Nat), .int .u64 (s.x.entry : Nat), .string s.x.interp, .slice s.At s.x.text.length s.ct, .slice s.Ad s.x.data.length s.cd, .int .u64 (s.x.more : Nat), .bool s.x.dynamic, .slice s.A1 s.x.dyn.needed.length s.c1, .string s.x.dyn.soname, .string s.x.dyn.run, .slice s.A2 s.x.dyn.syms.length s.c2, .slice s.A3 s.x.dyn.relas.length s.c3, .int .i64 s.x.apart] 66)).alloc (.cells #[.int .u8 127, .int .u8 69, .int .u8 76, .int .u8 70, .int .u8 2, .int .u8 1, .int .u8 1, .int .u8 0, .int .u8 0, .int .u8 0, .int .u8 0, .int .u8 0, .int .u8 0, .int .u8 0, .int .u8 0, .int .u8 0] 5 (16, 17))).heap.size = w.heap.size + 1 + 1 := by simp
 have hb2 : Below w.heap.size w (((w.alloc (.cells #[.int .u16 (s.x.type : Nat), .int .u64 (s.x.entry : Nat), .string s.x.interp, .slice s.At s.x.text.length s.ct, .slice s.Ad s.x.data.length s.cd, .int .u64 (s.x.more : Nat), .bool s.x.dynamic, .slice s.A1 s.x.dyn.needed.length s.c1, .string s.x.dyn.soname, .string s.x.dyn.run, .slice s.A2 s.x.dyn.syms.length s.c2, .slice s.A3 s.x.dyn.relas.length s.c3, .int .i64 s.x.apart] 66)).alloc (.cells #[.int .u8 127, .int .u8 69, .int .u8 76, .int .u8 70, .int .u8 2, .int .u8 1, .int .u8 1, .int .u8 0, .int .u8 0, .int .u8 0, .int .u8 0, .int .u8 0, .int .u8 0, .int .u8 0, .int .u8 0, .int .u8 0] 5 (16, 17))).alloc (.cells #[.slice (some ⟨w.heap.size + 1, 0, none⟩) 16 16] 71)) := (hb1.alloc (by simp) _).alloc (by simp; omega) _
 have hbl2 : Blk (((w.alloc (.cells #[.int .u16 (s.x.type : Nat), .int .u64 (s.x.entry : Nat), .string s.x.interp, .slice s.At s.x.text.length s.ct, .slice s.Ad s.x.data.length s.cd, .int .u64 (s.x.more : Nat), .bool s.x.dynamic, .slice s.A1 s.x.dyn.needed.length s.c1, .string s.x.dyn.soname, .string s.x.dyn.run, .slice s.A2 s.x.dyn.syms.length s.c2, .slice s.A3 s.x.dyn.relas.length s.c3, .int .i64 s.x.apart] 66)).alloc (.cells #[.int .u8 127, .int .u8 69, .int .u8 76, .int .u8 70, .int .u8 2, .int .u8 1, .int .u8 1, .int .u8 0, .int .u8 0, .int .u8 0, .int .u8 0, .int .u8 0, .int .u8 0, .int .u8 0, .int .u8 0, .int .u8 0] 5 (16, 17))).alloc (.cells #[.slice (some ⟨w.heap.size + 1, 0, none⟩) 16 16] 71)) w.heap.size 66 s.l := ((show Blk (w.alloc (.cells #[.int .u16 (s.x.type : Nat), .int .u64 (s.x.entry : Nat), .string s.x.interp, .slice s.At s.x.text.length s.ct, .slice s.Ad s.x.data.length s.cd, .int .u64 (s.x.more : Nat), .bool s.x.dynamic, .slice s.A1 s.x.dyn.needed.length s.c1, .string s.x.dyn.soname, .string s.x.dyn.run, .slice s.A2 s.x.dyn.syms.length s.c2, .slice s.A3 s.x.dyn.relas.length s.c3, .int .i64 s.x.apart] 66)) w.heap.size 66 s.l from hbl).alloc _).alloc _
 have hf2 : Blk (((w.alloc (.cells #[.int .u16 (s.x.type : Nat), .int .u64 (s.x.entry : Nat), .string s.x.interp, .slice s.At s.x.text.length s.ct, .slice s.Ad s.x.data.length s.cd, .int .u64 (s.x.more : Nat), .bool s.x.dynamic, .slice s.A1 s.x.dyn.needed.length s.c1, .string s.x.dyn.soname, .string s.x.dyn.run, .slice s.A2 s.x.dyn.syms.length s.c2, .slice s.A3 s.x.dyn.relas.length s.c3, .int .i64 s.x.apart] 66)).alloc (.cells #[.int .u8 127, .int .u8 69, .int .u8 76, .int .u8 70, .int .u8 2, .int .u8 1, .int .u8 1, .int .u8 0, .int .u8 0, .int .u8 0, .int .u8 0, .int .u8 0, .int .u8 0, .int .u8 0, .int .u8 0, .int .u8 0] 5 (16, 17))).alloc (.cells #[.slice (some ⟨w.heap.size + 1, 0, none⟩) 16 16] 71)) (w.heap.size + 1 + 1) 71 [.slice (some ⟨w.heap.size + 1, 0, none⟩) 16 16] := by
  have h9 := Blk.new ((w.alloc (.cells #[.int .u16 (s.x.type : Nat), .int .u64 (s.x.entry : Nat), .string s.x.interp, .slice s.At s.x.text.length s.ct, .slice s.Ad s.x.data.length s.cd, .int .u64 (s.x.more : Nat), .bool s.x.dynamic, .slice s.A1 s.x.dyn.needed.length s.c1, .string s.x.dyn.soname, .string s.x.dyn.run, .slice s.A2 s.x.dyn.syms.length s.c2, .slice s.A3 s.x.dyn.relas.length s.c3, .int .i64 s.x.apart] 66)).alloc (.cells #[.int .u8 127, .int .u8 69, .int .u8 76, .int .u8 70, .int .u8 2, .int .u8 1, .int .u8 1, .int .u8 0, .int .u8 0, .int .u8 0, .int .u8 0, .int .u8 0, .int .u8 0, .int .u8 0, .int .u8 0, .int .u8 0] 5 (16, 17))) 71 [.slice (some ⟨w.heap.size + 1, 0, none⟩) 16 16]
  rw [e2] at h9
  exact h9
 have hs0 : (((w.alloc (.cells #[.int .u16 (s.x.type : Nat), .int .u64 (s.x.entry : Nat), .string s.x.interp, .slice s.At s.x.text.length s.ct, .slice s.Ad s.x.data.length s.cd, .int .u64 (s.x.more : Nat), .bool s.x.dynamic, .slice s.A1 s.x.dyn.needed.length s.c1, .string s.x.dyn.soname, .string s.x.dyn.run, .slice s.A2 s.x.dyn.syms.length s.c2, .slice s.A3 s.x.dyn.relas.length s.c3, .int .i64 s.x.apart] 66)).alloc (.cells #[.int .u8 127, .int .u8 69, .int .u8 76, .int .u8 70, .int .u8 2, .int .u8 1, .int .u8 1, .int .u8 0, .int .u8 0, .int .u8 0, .int .u8 0, .int .u8 0, .int .u8 0, .int .u8 0, .int .u8 0, .int .u8 0] 5 (16, 17))).alloc (.cells #[.slice (some ⟨w.heap.size + 1, 0, none⟩) 16 16] 71)).heap.size = w.heap.size + 3 := by simp
 have hm2 : Rd (((w.alloc (.cells #[.int .u16 (s.x.type : Nat), .int .u64 (s.x.entry : Nat), .string s.x.interp, .slice s.At s.x.text.length s.ct, .slice s.Ad s.x.data.length s.cd, .int .u64 (s.x.more : Nat), .bool s.x.dynamic, .slice s.A1 s.x.dyn.needed.length s.c1, .string s.x.dyn.soname, .string s.x.dyn.run, .slice s.A2 s.x.dyn.syms.length s.c2, .slice s.A3 s.x.dyn.relas.length s.c3, .int .i64 s.x.apart] 66)).alloc (.cells #[.int .u8 127, .int .u8 69, .int .u8 76, .int .u8 70, .int .u8 2, .int .u8 1, .int .u8 1, .int .u8 0, .int .u8 0, .int .u8 0, .int .u8 0, .int .u8 0, .int .u8 0, .int .u8 0, .int .u8 0, .int .u8 0] 5 (16, 17))).alloc (.cells #[.slice (some ⟨w.heap.size + 1, 0, none⟩) 16 16] 71)) (((w.alloc (.cells #[.int .u16 (s.x.type : Nat), .int .u64 (s.x.entry : Nat), .string s.x.interp, .slice s.At s.x.text.length s.ct, .slice s.Ad s.x.data.length s.cd, .int .u64 (s.x.more : Nat), .bool s.x.dynamic, .slice s.A1 s.x.dyn.needed.length s.c1, .string s.x.dyn.soname, .string s.x.dyn.run, .slice s.A2 s.x.dyn.syms.length s.c2, .slice s.A3 s.x.dyn.relas.length s.c3, .int .i64 s.x.apart] 66)).alloc (.cells #[.int .u8 127, .int .u8 69, .int .u8 76, .int .u8 70, .int .u8 2, .int .u8 1, .int .u8 1, .int .u8 0, .int .u8 0, .int .u8 0, .int .u8 0, .int .u8 0, .int .u8 0, .int .u8 0, .int .u8 0, .int .u8 0] 5 (16, 17))).alloc (.cells #[.slice (some ⟨w.heap.size + 1, 0, none⟩) 16 16] 71)).heap.size 1 (some ⟨w.heap.size + 1, 0, none⟩) 16 (bys Mk.magic) := by
  have h9 := Rd.rowF (w := (w.alloc (.cells #[.int .u16 (s.x.type : Nat), .int .u64 (s.x.entry : Nat), .string s.x.interp, .slice s.At s.x.text.length s.ct, .slice s.Ad s.x.data.length s.cd, .int .u64 (s.x.more : Nat), .bool s.x.dynamic, .slice s.A1 s.x.dyn.needed.length s.c1, .string s.x.dyn.soname, .string s.x.dyn.run, .slice s.A2 s.x.dyn.syms.length s.c2, .slice s.A3 s.x.dyn.relas.length s.c3, .int .i64 s.x.apart] 66))) (cs := #[.int .u8 127, .int .u8 69, .int .u8 76, .int .u8 70, .int .u8 2, .int .u8 1, .int .u8 1, .int .u8 0, .int .u8 0, .int .u8 0, .int .u8 0, .int .u8 0, .int .u8 0, .int .u8 0, .int .u8 0, .int .u8 0]) (e := 5) (size := 1) (n := 16) (fz := (16, 17)) rfl
  rw [e1] at h9
  exact (h9.below (((Below.refl _ _).alloc (by simp) _))).more (by rw [hs0]; omega)
 have hr2 := hr.below (hb2.mono hB)
 have yt : (((w.alloc (.cells #[.int .u16 (s.x.type : Nat), .int .u64 (s.x.entry : Nat), .string s.x.interp, .slice s.At s.x.text.length s.ct, .slice s.Ad s.x.data.length s.cd, .int .u64 (s.x.more : Nat), .bool s.x.dynamic, .slice s.A1 s.x.dyn.needed.length s.c1, .string s.x.dyn.soname, .string s.x.dyn.run, .slice s.A2 s.x.dyn.syms.length s.c2, .slice s.A3 s.x.dyn.relas.length s.c3, .int .i64 s.x.apart] 66)).alloc (.cells #[.int .u8 127, .int .u8 69, .int .u8 76, .int .u8 70, .int .u8 2, .int .u8 1, .int .u8 1, .int .u8 0, .int .u8 0, .int .u8 0, .int .u8 0, .int .u8 0, .int .u8 0, .int .u8 0, .int .u8 0, .int .u8 0] 5 (16, 17))).alloc (.cells #[.slice (some ⟨w.heap.size + 1, 0, none⟩) 16 16] 71)).cell? ⟨w.heap.size, 0, none⟩ = some (.int .u16 (s.x.type : Nat)) := hbl2.cell (i := 0) rfl
 have Hbl : Hid (Blk (((w.alloc (.cells #[.int .u16 (s.x.type : Nat), .int .u64 (s.x.entry : Nat), .string s.x.interp, .slice s.At s.x.text.length s.ct, .slice s.Ad s.x.data.length s.cd, .int .u64 (s.x.more : Nat), .bool s.x.dynamic, .slice s.A1 s.x.dyn.needed.length s.c1, .string s.x.dyn.soname, .string s.x.dyn.run, .slice s.A2 s.x.dyn.syms.length s.c2, .slice s.A3 s.x.dyn.relas.length s.c3, .int .i64 s.x.apart] 66)).alloc (.cells #[.int .u8 127, .int .u8 69, .int .u8 76, .int .u8 70, .int .u8 2, .int .u8 1, .int .u8 1, .int .u8 0, .int .u8 0, .int .u8 0, .int .u8 0, .int .u8 0, .int .u8 0, .int .u8 0, .int .u8 0, .int .u8 0] 5 (16, 17))).alloc (.cells #[.slice (some ⟨w.heap.size + 1, 0, none⟩) 16 16] 71)) w.heap.size 66 s.l) := zJ2 hbl2
 have Hf2 := zJ2 hf2
 have Hm2 := zJ2 hm2
 have Hb2 := zJ2 hb2
 have Hr := zJ2 hr2
 have Hl := zJ2 hl
 have Hok := zJ2 hok
 have Hs0 := zJ2 hs0
 show Calls _ _ #[.agg #[.int .u16 (s.x.type : Nat), .int .u64 (s.x.entry : Nat), .string s.x.interp, .slice s.At s.x.text.length s.ct, .slice s.Ad s.x.data.length s.cd, .int .u64 (s.x.more : Nat), .bool s.x.dynamic, .slice s.A1 s.x.dyn.needed.length s.c1, .string s.x.dyn.soname, .string s.x.dyn.run, .slice s.A2 s.x.dyn.syms.length s.c2, .slice s.A3 s.x.dyn.relas.length s.c3, .int .i64 s.x.apart], .slice Al nl cl] w _
 clear hb1 hbl e1 e2 hbM hbl2 hf2 hm2 hb2 hr2 hr hl hok hs0
 go_enter Tryz.func32, Tryz.ntmps32
 go_upto_region 2 with fail
 generalize (((w.alloc (.cells #[.int .u16 (s.x.type : Nat), .int .u64 (s.x.entry : Nat), .string s.x.interp, .slice s.At s.x.text.length s.ct, .slice s.Ad s.x.data.length s.cd, .int .u64 (s.x.more : Nat), .bool s.x.dynamic, .slice s.A1 s.x.dyn.needed.length s.c1, .string s.x.dyn.soname, .string s.x.dyn.run, .slice s.A2 s.x.dyn.syms.length s.c2, .slice s.A3 s.x.dyn.relas.length s.c3, .int .i64 s.x.apart] 66)).alloc (.cells #[.int .u8 127, .int .u8 69, .int .u8 76, .int .u8 70, .int .u8 2, .int .u8 1, .int .u8 1, .int .u8 0, .int .u8 0, .int .u8 0, .int .u8 0, .int .u8 0, .int .u8 0, .int .u8 0, .int .u8 0, .int .u8 0] 5 (16, 17))).alloc (.cells #[.slice (some ⟨w.heap.size + 1, 0, none⟩) 16 16] 71)) = W0 at *
 have hs0 : w.heap.size + 3 <= W0.heap.size := by rw [zJ1 Hs0]; exact Nat.le_refl _
 have HL1 := zJ2 (lit2 W0 (s.x.type : Nat) 62)
 have KN1 := zJ2 (OwF.startG (b0 := w.heap.size + 1) (L := [(w.heap.size, 66, s.l)]) (w2 := W0.alloc (.cells #[.int .u64 (s.x.type : Nat), .int .u64 62] 23)) (zJ1 Hf2) (zJ1 Hm2) (fun e => by injection e with e; have h9 : w.heap.size + 1 = w.heap.size + 1 + 1 := e; omega) (by omega) (by omega) (fun q hq => by rw [List.mem_singleton] at hq; subst hq; exact ⟨zJ1 Hbl, by show w.heap.size ≠ _; omega⟩) (zJ3 _ _) (kv := W0.heap.size) (m := 2) (cv := 2) (s := 2) (sv := 2) (vs := [s.x.type, 62]) (Nat.le_refl _) (zJ1 HL1) rfl (by intro v hv; simp at hv; omega) rfl (by omega) (by omega) (by omega) (by omega))
 go_wp2_with fail
 refine (zJ1 KN1).mono ?_
 rintro e v1 ⟨rfl, hS1⟩
 have HS1 := zJ2 hS1
 clear hS1 KN1 HL1 yt Hf2 Hm2 Hs0
 have hf1 : (Mk.magic ++ Mk.lbs 2 [s.x.type, 62]).length <= 20 := by rw [List.length_append, zJy]; show 16 + 2 * 2 <= 20; decide
 have HL2 := zJ2 (lit1 v1 1)
 have KN2 := zJ2 ((zJ1 HS1).callNumber (w2 := v1.alloc (.cells #[.int .u64 1] 23)) (zJ3 _ _) (kv := v1.heap.size) (m := 1) (cv := 1) (s := 4) (sv := 4) (vs := [1]) (Nat.le_refl _) (zJ1 HL2) rfl (by intro v hv; simp at hv; omega) rfl (by omega) (by omega) (by omega))
 go_wp2_with fail
 refine (zJ1 KN2).mono ?_
 rintro e v2 ⟨rfl, hS2⟩
 have hf2 : (Mk.magic ++ Mk.lbs 2 [s.x.type, 62] ++ Mk.lbs 4 [1]).length <= 24 := by rw [List.length_append, zJy]; exact Nat.le_trans (Nat.add_le_add_right hf1 _) (by simp)
 have HS2 := zJ2 hS2
 clear hS2 KN2 HL2
 have ye := (zJ1 HS2).cell List.mem_cons_self (i := 1) rfl
 have HL3 := zJ2 (lit3 v2 (s.x.entry : Nat) 64 0)
 have KN3 := zJ2 ((zJ1 HS2).callNumber (w2 := v2.alloc (.cells #[.int .u64 (s.x.entry : Nat), .int .u64 64, .int .u64 0] 23)) (zJ3 _ _) (kv := v2.heap.size) (m := 3) (cv := 3) (s := 8) (sv := 8) (vs := [s.x.entry, 64, 0]) (Nat.le_refl _) (zJ1 HL3) rfl (by intro v hv; simp at hv; omega) rfl (by omega) (by omega) (by omega))
 go_wp2_with fail
 refine (zJ1 KN3).mono ?_
 rintro e v3 ⟨rfl, hS3⟩
 have hf3 : (Mk.magic ++ Mk.lbs 2 [s.x.type, 62] ++ Mk.lbs 4 [1] ++ Mk.lbs 8 [s.x.entry, 64, 0]).length <= 48 := by rw [List.length_append, zJy]; exact Nat.le_trans (Nat.add_le_add_right hf2 _) (by simp)
 have HS3 := zJ2 hS3
 clear ye hS3 KN3 HL3
 have HL4 := zJ2 (lit1 v3 0)
 have KN4 := zJ2 ((zJ1 HS3).callNumber (w2 := v3.alloc (.cells #[.int .u64 0] 23)) (zJ3 _ _) (kv := v3.heap.size) (m := 1) (cv := 1) (s := 4) (sv := 4) (vs := [0]) (Nat.le_refl _) (zJ1 HL4) rfl (by intro v hv; simp at hv; omega) rfl (by omega) (by omega) (by omega))
 go_wp2_with fail
 refine (zJ1 KN4).mono ?_
 rintro e v4 ⟨rfl, hS4⟩
 have hf4 : (Mk.magic ++ Mk.lbs 2 [s.x.type, 62] ++ Mk.lbs 4 [1] ++ Mk.lbs 8 [s.x.entry, 64, 0] ++ Mk.lbs 4 [0]).length <= 52 := by rw [List.length_append, zJy]; exact Nat.le_trans (Nat.add_le_add_right hf3 _) (by simp)
 have HS4 := zJ2 hS4
 clear hS4 KN4 HL4
 have HL5 := zJ2 (lit6 v4 64 56 (nl : Nat) 64 0 0)
 have KN5 := zJ2 ((zJ1 HS4).callNumber (w2 := v4.alloc (.cells #[.int .u64 64, .int .u64 56, .int .u64 (nl : Nat), .int .u64 64, .int .u64 0, .int .u64 0] 23)) (zJ3 _ _) (kv := v4.heap.size) (m := 6) (cv := 6) (s := 2) (sv := 2) (vs := [64, 56, nl, 64, 0, 0]) (Nat.le_refl _) (zJ1 HL5) rfl (by intro v hv; simp at hv; omega) rfl (by omega) (by omega) (by omega))
 go_wp2_with fail
 refine (zJ1 KN5).mono ?_
 rintro e v5 ⟨rfl, hS5⟩
 have hf5 : (Mk.magic ++ Mk.lbs 2 [s.x.type, 62] ++ Mk.lbs 4 [1] ++ Mk.lbs 8 [s.x.entry, 64, 0] ++ Mk.lbs 4 [0] ++ Mk.lbs 2 [64, 56, nl, 64, 0, 0]).length <= 64 := by rw [List.length_append, zJy]; exact Nat.le_trans (Nat.add_le_add_right hf4 _) (by simp)
 have HS5 := zJ2 hS5
 clear hS5 KN5 HL5
 obtain ⟨h5, he5⟩ : ∃ h5, Mk.magic ++ Mk.lbs 2 [s.x.type, 62] ++ Mk.lbs 4 [1] ++ Mk.lbs 8 [s.x.entry, 64, 0] ++ Mk.lbs 4 [0] ++ Mk.lbs 2 [64, 56, nl, 64, 0, 0] = h5 := ⟨_, rfl⟩
 rw [he5] at HS5 hf5
 have Hh5 := zJ2 he5
 clear he5 hf1 hf2 hf3 hf4
 go_wp2_with fail
 go_loopg [37] nl (fun gk iv wr => ∃ j : Nat, gk = nl - j /\ j <= nl /\ iv = .int .i64 j /\ OwF (w.heap.size + 1 + 1) (w.heap.size + 1) W0 wr (h5 ++ Mk.rowsB (l.take j)) [])
 case atStart => exact ⟨0, by omega, by omega, rfl, by simpa [Mk.rowsB] using (zJ1 HS5).sub (by intro q hq; cases hq)⟩
 case round =>
 clear HS5
 obtain ⟨j, hgk, hj, rfl, hS⟩ := hrel
 have Hgk := zJ2 hgk
 have HS := zJ2 hS
 have hbw := hS.bel
 have Hbw := zJ2 hbw
 clear hgk hS hbw
 rcases Nat.lt_or_ge j nl with hlt | hge
 ·obtain ⟨r, hr⟩ : ∃ r, l[j]? = some r := ⟨_, List.getElem?_eq_getElem (by rw [zJ1 Hl]; exact hlt)⟩
  have hro := (zJ1 Hok) r (List.mem_of_getElem? hr)
  obtain ⟨b1, o1, hA1, hb1, st0, st1, st2, st3, st4, st5, st6⟩ := mkrow_at ((zJ1 Hr).below ((zJ1 Hbw).mono (by omega))) hr
  subst hA1
  have ilt : (j : Int) < (nl : Int) := by omega
  have Hx := zJ2 hr
  have Hro := zJ2 hro
  have hfj : (h5 ++ Mk.rowsB (l.take j)).length <= 3700 := by rw [List.length_append, vJn, List.length_take]; omega
  obtain ⟨fj, hfe⟩ : ∃ fj, h5 ++ Mk.rowsB (l.take j) = fj := ⟨_, rfl⟩
  rw [hfe] at hfj HS
  have Hfe := zJ2 hfe
  have HSl : Hid (OwF (w.heap.size + 1 + 1) (w.heap.size + 1) W0 (wr.alloc (.cells #[.int .u64 (r.kind : Nat), .int .u64 (r.flags : Nat), .int .u64 (r.off : Nat), .int .u64 (r.addr : Nat), .int .u64 (r.fsz : Nat), .int .u64 (r.msz : Nat), .int .u64 (r.align : Nat)] 74)) fj [(wr.heap.size, 74, [.int .u64 (r.kind : Nat), .int .u64 (r.flags : Nat), .int .u64 (r.off : Nat), .int .u64 (r.addr : Nat), .int .u64 (r.fsz : Nat), .int .u64 (r.msz : Nat), .int .u64 (r.align : Nat)])]) := zJ2 ((zJ1 HS).lay 74 [.int .u64 (r.kind : Nat), .int .u64 (r.flags : Nat), .int .u64 (r.off : Nat), .int .u64 (r.addr : Nat), .int .u64 (r.fsz : Nat), .int .u64 (r.msz : Nat), .int .u64 (r.align : Nat)])
  have hsx : (wr.alloc (.cells #[.int .u64 (r.kind : Nat), .int .u64 (r.flags : Nat), .int .u64 (r.off : Nat), .int .u64 (r.addr : Nat), .int .u64 (r.fsz : Nat), .int .u64 (r.msz : Nat), .int .u64 (r.align : Nat)] 74)).heap.size = wr.heap.size + 1 := by simp
  have HL7 := zJ2 (lit2 (wr.alloc (.cells #[.int .u64 (r.kind : Nat), .int .u64 (r.flags : Nat), .int .u64 (r.off : Nat), .int .u64 (r.addr : Nat), .int .u64 (r.fsz : Nat), .int .u64 (r.msz : Nat), .int .u64 (r.align : Nat)] 74)) (r.kind : Nat) (r.flags : Nat))
  rw [hsx] at HL7
  have KN7 := zJ2 ((zJ1 HSl).callNumber (w2 := (wr.alloc (.cells #[.int .u64 (r.kind : Nat), .int .u64 (r.flags : Nat), .int .u64 (r.off : Nat), .int .u64 (r.addr : Nat), .int .u64 (r.fsz : Nat), .int .u64 (r.msz : Nat), .int .u64 (r.align : Nat)] 74)).alloc (.cells #[.int .u64 (r.kind : Nat), .int .u64 (r.flags : Nat)] 23)) (zJ3 _ _) (kv := wr.heap.size + 1) (m := 2) (cv := 2) (s := 4) (sv := 4) (vs := [r.kind, r.flags]) (by rw [hsx]; exact Nat.le_refl _) (zJ1 HL7) rfl (by intro v hv; simp at hv; have h8 := (zJ1 Hro).kind; have h9 := (zJ1 Hro).flags; rcases hv with rfl | rfl <;> assumption) rfl (by omega) (by omega) (by omega))
  clear hr hro hfe hb1 hsx HSl HS
  go_wp2_with fail
  refine (zJ1 KN7).mono ?_
  rintro e v7 ⟨rfl, hS7⟩
  have z2 := hS7.cell List.mem_cons_self (i := 2) rfl
  have z3 := hS7.cell List.mem_cons_self (i := 3) rfl
  have z4 := hS7.cell List.mem_cons_self (i := 4) rfl
  have z5 := hS7.cell List.mem_cons_self (i := 5) rfl
  have z6 := hS7.cell List.mem_cons_self (i := 6) rfl
  have hf7 : (fj ++ Mk.lbs 4 [r.kind, r.flags]).length <= 3708 := by rw [List.length_append, zJy]; exact Nat.le_trans (Nat.add_le_add_right hfj _) (by simp)
  have HL8 := zJ2 (lit6 v7 (r.off : Nat) (r.addr : Nat) (r.addr : Nat) (r.fsz : Nat) (r.msz : Nat) (r.align : Nat))
  have KN8 := zJ2 (hS7.callNumber (w2 := v7.alloc (.cells #[.int .u64 (r.off : Nat), .int .u64 (r.addr : Nat), .int .u64 (r.addr : Nat), .int .u64 (r.fsz : Nat), .int .u64 (r.msz : Nat), .int .u64 (r.align : Nat)] 23)) (zJ3 _ _) (kv := v7.heap.size) (m := 6) (cv := 6) (s := 8) (sv := 8) (vs := [r.off, r.addr, r.addr, r.fsz, r.msz, r.align]) (Nat.le_refl _) (zJ1 HL8) rfl (by intro v hv; simp at hv; have q2 := (zJ1 Hro).off; have q3 := (zJ1 Hro).addr; have q4 := (zJ1 Hro).fsz; have q5 := (zJ1 Hro).msz; have q6 := (zJ1 Hro).align; rcases hv with rfl | rfl | rfl | rfl | rfl <;> assumption) rfl (by omega) (by omega) (by omega))
  clear hS7 KN7 HL7
  go_wp2_with fail
  refine (zJ1 KN8).mono ?_
  rintro e v8 ⟨rfl, hS8⟩
  have HS8 := zJ2 hS8
  clear hS8 KN8 HL8 z2 z3 z4 z5 z6
  go_wp2_with fail
  go_roundg (nl - (j + 1))
  case measure => have := zJ1 Hgk; omega
  case rel => exact ⟨j + 1, rfl, by omega, by go_num, ((zJ1 HS8).sub (by intro q hq; cases hq)).bind (by rw [rowsB_next (zJ1 Hx), <- List.append_assoc, zJ1 Hfe]; simp [Mk.rowB, Mk.lbs, List.append_assoc])⟩
 ·obtain rfl : j = nl := by omega
  have ige : ¬ (j : Int) < (j : Int) := by omega
  have hS := zJ1 HS
  rw [List.take_of_length_le (by rw [zJ1 Hl]; omega)] at hS
  have hhd : h5 ++ Mk.rowsB l = Mk.head s.x l := by
   rw [<- zJ1 Hh5]
   unfold Mk.head
   rw [zJ1 Hl]
   simp [Mk.lbs, List.append_assoc]
  rw [hhd] at hS
  obtain ⟨A9, c9, F, -⟩ := hS.fi
  have hll := wJf s.x l
  rw [zJ1 Hl] at hll
  rw [hll] at F
  have y0 := F.cell
  have HF := zJ2 F
  have HS9 := zJ2 hS
  clear F hS hhd hll HS
  go_wp2_with fail
  go_ret
  exact ⟨A9, c9, rfl, zJh (zJ1 HF).row (by omega), (zJ1 Hb2).trans ((zJ1 Hbw).mono (by omega))⟩
end Go.Proofs.YtnbecdahfgkffaaGreat
namespace Go.Proofs.YtnbecdahfgkffaaGreat
open Go.RowKit Go.Lib Go.Sort
theorem join_any' (A : Option Addr) (n c : Nat) (l : List ByteArray) (sep : ByteArray) (w : World) (h : Rd w w.heap.size 1 A n (l.map Value.string)) (hc : n <= c) (hn : n <= 4294967296) (hlen : (Lib.join (l.map (·.data.toList)) sep.data.toList).length <= 140737488355328) :
  Calls Tryz.prog 70 #[.slice A n c, .string sep] w fun e w' => e = .returned (.string ⟨(Lib.join (l.map (·.data.toList)) sep.data.toList).toArray⟩) /\ Below w.heap.size w w' := by
 have hl : l.length = n := by simpa using h.1
 rcases h.2 with h0 | ⟨b, off, rfl, hb, hcl⟩
 ·have h1 : l = [] := by simpa using h0
  subst h1
  simp only [List.length_nil] at hl
  subst hl
  refine (Tryz.strings_Join_none A c sep w).mono ?_
  rintro e w' ⟨rfl, rfl⟩
  exact ⟨rfl, Below.refl _ _⟩
 ·subst hl
  exact Tryz.strings_Join b off c l sep w (fun j x hx => hcl j _ (by rw [List.getElem?_map, hx]; rfl)) hb (by omega) hc hlen
end Go.Proofs.YtnbecdahfgkffaaGreat
namespace Go.Proofs.YtnbecdahfgkffaaGreat
open Go.RowKit
theorem index_has (l : List UInt8) : decide (0 <= Lib.indexByte l 0) = l.contains 0 := by
 have h1 := Lib.indexByte_ge l 0
 by_cases h : Lib.indexByte l 0 = -1
 ·have h2 := Lib.indexByte_none h
  rw [decide_eq_false (by omega)]
  symm
  rw [<- Bool.not_eq_true, List.contains_iff_mem]
  intro hm
  obtain ⟨k, hk⟩ := List.mem_iff_getElem?.1 hm
  exact h2 k hk
 ·obtain ⟨o, ho⟩ : ∃ o : Nat, Lib.indexByte l 0 = o := ⟨(Lib.indexByte l 0).toNat, by omega⟩
  have h2 := (Lib.indexByte_some ho).1
  rw [decide_eq_true (by omega)]
  symm
  rw [List.contains_iff_mem]
  exact List.mem_of_getElem? h2
theorem join_flat (xs : List (List UInt8)) : Lib.join xs [] = xs.flatten := by
 cases xs with
 | nil => rfl
 | cons x r =>
  rw [Lib.join_cons]
  unfold Lib.joinTail
  simp
theorem names_has (l : List ByteArray) : (Lib.join (l.map (·.data.toList)) []).contains 0 = l.any Mk.has := by
 rw [join_flat]
 induction l with
 | nil => rfl
 | cons a r ih =>
  rw [List.map_cons, List.flatten_cons, List.any_cons, <- ih]
  unfold Mk.has
  rw [Bool.eq_iff_iff]
  simp
theorem any_or {α : Type} (f g : α -> Bool) (l : List α) : l.any (fun x => f x || g x) = (l.any f || l.any g) := by
 induction l with
 | nil => rfl
 | cons a r ih =>
  rw [List.any_cons, List.any_cons, List.any_cons, ih]
  cases f a <;> cases g a <;> cases r.any f <;> cases r.any g <;> rfl
theorem all_not {α : Type} (g : α -> Bool) (l : List α) : l.all (fun x => !g x) = !l.any g := by
 induction l with
 | nil => rfl
 | cons a r ih => rw [List.all_cons, List.any_cons, ih, Bool.not_or]
theorem le2 (b : Nat) : decide ((b : Int) <= 2) = !decide (2 < b) := by
 by_cases h : 2 < b
 ·rw [decide_eq_true h, decide_eq_false (by omega)]; rfl
 ·rw [decide_eq_false h, decide_eq_true (by omega)]; rfl
theorem leN (n : Nat) (x : Int) : decide (x <= (n : Int)) = !decide ((n : Int) < x) := by
 by_cases h : (n : Int) < x
 ·rw [decide_eq_true h, decide_eq_false (by omega)]; rfl
 ·rw [decide_eq_false h, decide_eq_true (by omega)]; rfl
def fits1 (l : List Dy.Sym) : Bool := l.all fun s => !decide (2 < s.bind)
def fits2 (n : Nat) (l : List Mk.Rel) : Bool := l.all fun r => !Mk.badRel n r
def namesOf (d : Mk.Dyn) : List ByteArray := [d.soname, d.run] ++ d.needed ++ Mk.names d.syms
theorem bad_eq (d : Mk.Dyn) : Mk.bad d = (!(fits1 d.syms && fits2 d.syms.length d.relas) || (namesOf d).any Mk.has) := by
 unfold Mk.bad fits1 fits2 namesOf Mk.names
 rw [all_not, all_not]
 have h1 : d.syms.any Mk.badSym = ((d.syms.any fun s => Mk.has s.name) || (d.syms.any fun s => decide (2 < s.bind))) := any_or _ _ _
 have h2 : (d.syms.map (·.name)).any Mk.has = d.syms.any fun s => Mk.has s.name := by rw [List.any_map]; rfl
 rw [h1, List.any_append, List.any_append, h2]
 simp only [List.any_cons, List.any_nil, Bool.or_false]
 cases Mk.has d.soname <;> cases Mk.has d.run <;> cases d.needed.any Mk.has <;> cases (d.syms.any fun s => Mk.has s.name) <;> cases (d.syms.any fun s => decide (2 < s.bind)) <;> cases d.relas.any (Mk.badRel d.syms.length) <;> rfl
def sumB (l : List ByteArray) : Nat := (l.map (·.data.toList)).flatten.length
theorem sumB_app (a b : List ByteArray) : sumB (a ++ b) = sumB a + sumB b := by unfold sumB; simp
theorem vJi (a : ByteArray) (b : List ByteArray) : sumB (a :: b) = a.size + sumB b := by unfold sumB; simp
theorem put_ge (t : List UInt8) (s : ByteArray) : t.length + s.size <= (Mk.put t s).length := by
 unfold Mk.put
 split
 ·omega
 ·simp
theorem puts_sum (t : List UInt8) (l : List ByteArray) : t.length + sumB l <= (Mk.puts t l).length := by
 induction l generalizing t with
 | nil => exact Nat.le_refl _
 | cons s r ih =>
  have h1 := ih (Mk.put t s)
  have h2 := put_ge t s
  rw [vJi]
  show _ <= (Mk.puts (Mk.put t s) r).length
  omega
theorem namesOf_sum (d : Mk.Dyn) : sumB (namesOf d) <= (Mk.texts3 d).length := by
 have h1 := puts_sum [0] d.needed
 have h2 := put_ge (Mk.texts0 d) d.soname
 have h3 := put_ge (Mk.texts1 d) d.run
 have h4 := puts_sum (Mk.texts2 d) (Mk.names d.syms)
 have e1 : (Mk.texts0 d) = Mk.puts [0] d.needed := rfl
 have e2 : (Mk.texts1 d) = Mk.put (Mk.texts0 d) d.soname := rfl
 have e3 : (Mk.texts2 d) = Mk.put (Mk.texts1 d) d.run := rfl
 have e4 : (Mk.texts3 d) = Mk.puts (Mk.texts2 d) (Mk.names d.syms) := rfl
 unfold namesOf
 rw [sumB_app, sumB_app, vJi, vJi]
 have h5 : sumB [] = 0 := rfl
 rw [<- e1] at h1
 rw [<- e2] at h2
 rw [<- e3] at h3
 rw [<- e4] at h4
 omega
set_option maxRecDepth 100000 in
set_option maxHeartbeats 60000000 in
theorem pcheck_any (s : Xq) (B : Nat) (w : World) (hB : B <= w.heap.size) (h : XqM w B s) (hf : MkFit s) (hn12 : s.x.dyn.needed.length + s.x.dyn.syms.length <= 1048576) :
  Calls Tryz.prog 25 #[.agg s.l.toArray] w fun e w' => e = .returned (.int .i64 (Mk.may s.x)) /\ Below w.heap.size w w' := by
 have e1 : (w.alloc (.cells #[.int .u16 (s.x.type : Nat), .int .u64 (s.x.entry : Nat), .string s.x.interp, .slice s.At s.x.text.length s.ct, .slice s.Ad s.x.data.length s.cd, .int .u64 (s.x.more : Nat), .bool s.x.dynamic, .slice s.A1 s.x.dyn.needed.length s.c1, .string s.x.dyn.soname, .string s.x.dyn.run, .slice s.A2 s.x.dyn.syms.length s.c2, .slice s.A3 s.x.dyn.relas.length s.c3, .int .i64 s.x.apart] 66)).heap.size = w.heap.size + 1 := by simp
 have hb1 : Below w.heap.size w ((w.alloc (.cells #[.int .u16 (s.x.type : Nat), .int .u64 (s.x.entry : Nat), .string s.x.interp, .slice s.At s.x.text.length s.ct, .slice s.Ad s.x.data.length s.cd, .int .u64 (s.x.more : Nat), .bool s.x.dynamic, .slice s.A1 s.x.dyn.needed.length s.c1, .string s.x.dyn.soname, .string s.x.dyn.run, .slice s.A2 s.x.dyn.syms.length s.c2, .slice s.A3 s.x.dyn.relas.length s.c3, .int .i64 s.x.apart] 66)).alloc (.cells #[.slice s.A1 s.x.dyn.needed.length s.c1, .string s.x.dyn.soname, .string s.x.dyn.run, .slice s.A2 s.x.dyn.syms.length s.c2, .slice s.A3 s.x.dyn.relas.length s.c3] 29)) := ((Below.refl _ _).alloc (Nat.le_refl _) _).alloc (by simp) _
 have hbl : Blk ((w.alloc (.cells #[.int .u16 (s.x.type : Nat), .int .u64 (s.x.entry : Nat), .string s.x.interp, .slice s.At s.x.text.length s.ct, .slice s.Ad s.x.data.length s.cd, .int .u64 (s.x.more : Nat), .bool s.x.dynamic, .slice s.A1 s.x.dyn.needed.length s.c1, .string s.x.dyn.soname, .string s.x.dyn.run, .slice s.A2 s.x.dyn.syms.length s.c2, .slice s.A3 s.x.dyn.relas.length s.c3, .int .i64 s.x.apart] 66)).alloc (.cells #[.slice s.A1 s.x.dyn.needed.length s.c1, .string s.x.dyn.soname, .string s.x.dyn.run, .slice s.A2 s.x.dyn.syms.length s.c2, .slice s.A3 s.x.dyn.relas.length s.c3] 29)) w.heap.size 66 s.l := (Blk.new w 66 s.l).alloc _
 have hbd : Blk ((w.alloc (.cells #[.int .u16 (s.x.type : Nat), .int .u64 (s.x.entry : Nat), .string s.x.interp, .slice s.At s.x.text.length s.ct, .slice s.Ad s.x.data.length s.cd, .int .u64 (s.x.more : Nat), .bool s.x.dynamic, .slice s.A1 s.x.dyn.needed.length s.c1, .string s.x.dyn.soname, .string s.x.dyn.run, .slice s.A2 s.x.dyn.syms.length s.c2, .slice s.A3 s.x.dyn.relas.length s.c3, .int .i64 s.x.apart] 66)).alloc (.cells #[.slice s.A1 s.x.dyn.needed.length s.c1, .string s.x.dyn.soname, .string s.x.dyn.run, .slice s.A2 s.x.dyn.syms.length s.c2, .slice s.A3 s.x.dyn.relas.length s.c3] 29)) (w.heap.size + 1) 29 [.slice s.A1 s.x.dyn.needed.length s.c1, .string s.x.dyn.soname, .string s.x.dyn.run, .slice s.A2 s.x.dyn.syms.length s.c2, .slice s.A3 s.x.dyn.relas.length s.c3] := by
  have h9 := Blk.new (w.alloc (.cells #[.int .u16 (s.x.type : Nat), .int .u64 (s.x.entry : Nat), .string s.x.interp, .slice s.At s.x.text.length s.ct, .slice s.Ad s.x.data.length s.cd, .int .u64 (s.x.more : Nat), .bool s.x.dynamic, .slice s.A1 s.x.dyn.needed.length s.c1, .string s.x.dyn.soname, .string s.x.dyn.run, .slice s.A2 s.x.dyn.syms.length s.c2, .slice s.A3 s.x.dyn.relas.length s.c3, .int .i64 s.x.apart] 66)) 29 [.slice s.A1 s.x.dyn.needed.length s.c1, .string s.x.dyn.soname, .string s.x.dyn.run, .slice s.A2 s.x.dyn.syms.length s.c2, .slice s.A3 s.x.dyn.relas.length s.c3]
  rw [e1] at h9
  exact h9
 have hs1 : ((w.alloc (.cells #[.int .u16 (s.x.type : Nat), .int .u64 (s.x.entry : Nat), .string s.x.interp, .slice s.At s.x.text.length s.ct, .slice s.Ad s.x.data.length s.cd, .int .u64 (s.x.more : Nat), .bool s.x.dynamic, .slice s.A1 s.x.dyn.needed.length s.c1, .string s.x.dyn.soname, .string s.x.dyn.run, .slice s.A2 s.x.dyn.syms.length s.c2, .slice s.A3 s.x.dyn.relas.length s.c3, .int .i64 s.x.apart] 66)).alloc (.cells #[.slice s.A1 s.x.dyn.needed.length s.c1, .string s.x.dyn.soname, .string s.x.dyn.run, .slice s.A2 s.x.dyn.syms.length s.c2, .slice s.A3 s.x.dyn.relas.length s.c3] 29)).heap.size = w.heap.size + 2 := by simp
 have hxm := h.below (hb1.mono hB)
 have Hx : Hid (∀ W, Below (w.heap.size + 2) ((w.alloc (.cells #[.int .u16 (s.x.type : Nat), .int .u64 (s.x.entry : Nat), .string s.x.interp, .slice s.At s.x.text.length s.ct, .slice s.Ad s.x.data.length s.cd, .int .u64 (s.x.more : Nat), .bool s.x.dynamic, .slice s.A1 s.x.dyn.needed.length s.c1, .string s.x.dyn.soname, .string s.x.dyn.run, .slice s.A2 s.x.dyn.syms.length s.c2, .slice s.A3 s.x.dyn.relas.length s.c3, .int .i64 s.x.apart] 66)).alloc (.cells #[.slice s.A1 s.x.dyn.needed.length s.c1, .string s.x.dyn.soname, .string s.x.dyn.run, .slice s.A2 s.x.dyn.syms.length s.c2, .slice s.A3 s.x.dyn.relas.length s.c3] 29)) W -> (Blk W w.heap.size 66 s.l /\ Blk W (w.heap.size + 1) 29 [.slice s.A1 s.x.dyn.needed.length s.c1, .string s.x.dyn.soname, .string s.x.dyn.run, .slice s.A2 s.x.dyn.syms.length s.c2, .slice s.A3 s.x.dyn.relas.length s.c3]) /\ XqM W B s) := zJ2 (fun W hW => ⟨⟨hbl.below hW (by omega), hbd.below hW (by omega)⟩, hxm.below (hW.mono (by omega))⟩)
 have Hbr := zJ2 (Below.refl (w.heap.size + 2) ((w.alloc (.cells #[.int .u16 (s.x.type : Nat), .int .u64 (s.x.entry : Nat), .string s.x.interp, .slice s.At s.x.text.length s.ct, .slice s.Ad s.x.data.length s.cd, .int .u64 (s.x.more : Nat), .bool s.x.dynamic, .slice s.A1 s.x.dyn.needed.length s.c1, .string s.x.dyn.soname, .string s.x.dyn.run, .slice s.A2 s.x.dyn.syms.length s.c2, .slice s.A3 s.x.dyn.relas.length s.c3, .int .i64 s.x.apart] 66)).alloc (.cells #[.slice s.A1 s.x.dyn.needed.length s.c1, .string s.x.dyn.soname, .string s.x.dyn.run, .slice s.A2 s.x.dyn.syms.length s.c2, .slice s.A3 s.x.dyn.relas.length s.c3] 29)))
 have Hb1 := zJ2 hb1
 have Hs1 := zJ2 (show w.heap.size + 2 <= ((w.alloc (.cells #[.int .u16 (s.x.type : Nat), .int .u64 (s.x.entry : Nat), .string s.x.interp, .slice s.At s.x.text.length s.ct, .slice s.Ad s.x.data.length s.cd, .int .u64 (s.x.more : Nat), .bool s.x.dynamic, .slice s.A1 s.x.dyn.needed.length s.c1, .string s.x.dyn.soname, .string s.x.dyn.run, .slice s.A2 s.x.dyn.syms.length s.c2, .slice s.A3 s.x.dyn.relas.length s.c3, .int .i64 s.x.apart] 66)).alloc (.cells #[.slice s.A1 s.x.dyn.needed.length s.c1, .string s.x.dyn.soname, .string s.x.dyn.run, .slice s.A2 s.x.dyn.syms.length s.c2, .slice s.A3 s.x.dyn.relas.length s.c3] 29)).heap.size by rw [hs1]; exact Nat.le_refl _)
 have KB : Hid (∀ W, Calls Tryz.prog 27 #[.agg #[.int .u16 (s.x.type : Nat), .int .u64 (s.x.entry : Nat), .string s.x.interp, .slice s.At s.x.text.length s.ct, .slice s.Ad s.x.data.length s.cd, .int .u64 (s.x.more : Nat), .bool s.x.dynamic, .slice s.A1 s.x.dyn.needed.length s.c1, .string s.x.dyn.soname, .string s.x.dyn.run, .slice s.A2 s.x.dyn.syms.length s.c2, .slice s.A3 s.x.dyn.relas.length s.c3, .int .i64 s.x.apart]] W fun e w' => e = .returned (.int .u64 (Mk.base s.x : Nat)) /\ Below W.heap.size W w') := zJ2 (fun W => wJ7 s W)
 have Hf := zJ2 hf
 have hty := hf.ok.type
 have hen := hf.ok.entry
 have hmo := hf.ok.more
 have hte := hf.ok.text
 have hb4 : Mk.base s.x <= 4194304 := by unfold Mk.base; split <;> omega
 obtain ⟨a0, a1, a2, a3, a4, a5, a6, a7, a8, a9, a10, a11, a12⟩ := zJ6 hbl
 show Calls _ _ #[.agg #[.int .u16 (s.x.type : Nat), .int .u64 (s.x.entry : Nat), .string s.x.interp, .slice s.At s.x.text.length s.ct, .slice s.Ad s.x.data.length s.cd, .int .u64 (s.x.more : Nat), .bool s.x.dynamic, .slice s.A1 s.x.dyn.needed.length s.c1, .string s.x.dyn.soname, .string s.x.dyn.run, .slice s.A2 s.x.dyn.syms.length s.c2, .slice s.A3 s.x.dyn.relas.length s.c3, .int .i64 s.x.apart]] w _
 clear e1 hb1 hbl hbd hs1 hxm h hf
 go_enter Tryz.func25, Tryz.ntmps25
 go_upto_region 2 with fail
 generalize ((w.alloc (.cells #[.int .u16 (s.x.type : Nat), .int .u64 (s.x.entry : Nat), .string s.x.interp, .slice s.At s.x.text.length s.ct, .slice s.Ad s.x.data.length s.cd, .int .u64 (s.x.more : Nat), .bool s.x.dynamic, .slice s.A1 s.x.dyn.needed.length s.c1, .string s.x.dyn.soname, .string s.x.dyn.run, .slice s.A2 s.x.dyn.syms.length s.c2, .slice s.A3 s.x.dyn.relas.length s.c3, .int .i64 s.x.apart] 66)).alloc (.cells #[.slice s.A1 s.x.dyn.needed.length s.c1, .string s.x.dyn.soname, .string s.x.dyn.run, .slice s.A2 s.x.dyn.syms.length s.c2, .slice s.A3 s.x.dyn.relas.length s.c3] 29)) = W1 at *
 have hs1 := zJ1 Hs1
 have Henr := zJ2 (show Mk.enters s.x = (Mk.within s.x || (decide (s.x.type = 3) && decide (s.x.entry = 0))) from rfl)
 have Hwi := zJ2 (show Mk.within s.x = (decide (Mk.base s.x + 65536 <= s.x.entry) && decide (s.x.entry - (Mk.base s.x + 65536) < s.x.text.length)) from rfl)
 go_cut [4] (fun v wx => v = .bool (decide (s.x.type = 3) && decide (s.x.entry = 0)) /\ wx = W1)
 case first =>
  by_cases c1 : s.x.type = 3
  ·have q1 : ((s.x.type : Int) == 3) = true := by rw [c1]; rfl
   by_cases c2 : s.x.entry = 0
   ·have q2 : ((s.x.entry : Int) == 0) = true := by rw [c2]; rfl
    have He := zJ2 (show (decide (s.x.type = 3) && decide (s.x.entry = 0)) = true by simp [c1, c2])
    clear c1 c2
    go_wp2_with fail
    go_meet
    case rel => exact ⟨by rw [zJ1 He], rfl⟩
   ·have q2 : ((s.x.entry : Int) == 0) = false := by rw [beq_eq_false_iff_ne]; omega
    have He := zJ2 (show (decide (s.x.type = 3) && decide (s.x.entry = 0)) = false by simp [c2])
    clear c1 c2
    go_wp2_with fail
    go_meet
    case rel => exact ⟨by rw [zJ1 He], rfl⟩
  ·have q1 : ((s.x.type : Int) == 3) = false := by rw [beq_eq_false_iff_ne]; omega
   have He := zJ2 (show (decide (s.x.type = 3) && decide (s.x.entry = 0)) = false by simp [c1])
   clear c1
   go_wp2_with fail
   go_meet
   case rel => exact ⟨by rw [zJ1 He], rfl⟩
 case rest =>
  obtain ⟨rfl, hwc⟩ := hcut
  obtain rfl : W1 = wc := hwc.symm
  generalize (decide (s.x.type = 3) && decide (s.x.entry = 0)) = ef at *
  have KB1 := zJ2 ((zJ1 KB) W1)
  go_wp2_with fail
  refine (zJ1 KB1).mono ?_
  rintro e w2 ⟨rfl, hb2⟩
  have hx2 := (zJ1 Hx) w2 ((zJ1 Hbr).trans (hb2.mono hs1))
  obtain ⟨x0, x1, x2, x3, x4, x5, x6, x7, x8, x9, x10, x11, x12⟩ := zJ6 hx2.1.1
  have d0 := hx2.1.2.cell (i := 0) rfl
  have d1 := hx2.1.2.cell (i := 1) rfl
  have d2 := hx2.1.2.cell (i := 2) rfl
  have d3 := hx2.1.2.cell (i := 3) rfl
  have HB2 := zJ2 ((zJ1 Hbr).trans (hb2.mono hs1))
  have Hxm2 := zJ2 hx2.2
  have hs2 := hb2.size
  clear hb2 hx2 KB KB1 a0 a1 a2 a3 a4 a5 a6 a7 a8 a9 a10 a11 a12
  generalize Mk.base s.x = bs at *
  go_upto_region 4 with fail
  go_cut [39] (fun v wx => v = .bool (Mk.within s.x) /\ wx = w2)
  case first =>
   by_cases c1 : bs + 65536 <= s.x.entry
   ·have c1i : decide (bs + 65536 <= s.x.entry) = true := decide_eq_true c1
    have c1j : ((bs : Int) + 65536 <= (s.x.entry : Int)) := by omega
    have c3 : (s.x.entry : Int) - ((bs : Int) + 65536) = ((s.x.entry - (bs + 65536) : Nat) : Int) := by omega
    have c4 : Mk.within s.x = decide (s.x.entry - (bs + 65536) < s.x.text.length) := by rw [zJ1 Hwi, decide_eq_true c1, Bool.true_and]
    obtain ⟨d, hd⟩ : ∃ d, s.x.entry - (bs + 65536) = d := ⟨_, rfl⟩
    rw [hd] at c3 c4
    have hdl : d < 18446744073709551616 := by omega
    by_cases c5 : d < s.x.text.length
    ·have c5i : ((d : Int) < (s.x.text.length : Int)) := by omega
     have He := zJ2 (show Mk.within s.x = true by rw [c4, decide_eq_true c5])
     clear hd c4 c5 c1
     go_wp2_with fail
     go_meet
     case rel => exact ⟨by rw [zJ1 He], rfl⟩
    ·have c5i : ¬ ((d : Int) < (s.x.text.length : Int)) := by omega
     have He := zJ2 (show Mk.within s.x = false by rw [c4, decide_eq_false c5])
     clear hd c4 c5 c1
     go_wp2_with fail
     go_meet
     case rel => exact ⟨by rw [zJ1 He], rfl⟩
   ·have c1i : ¬ ((bs : Int) + 65536 <= (s.x.entry : Int)) := by omega
    have He := zJ2 (show Mk.within s.x = false by rw [zJ1 Hwi, decide_eq_false c1]; rfl)
    clear c1
    go_wp2_with fail
    go_meet
    case rel => exact ⟨by rw [zJ1 He], rfl⟩
  case rest =>
   obtain ⟨rfl, hwc⟩ := hcut
   obtain rfl : w2 = wc := hwc.symm
   clear Hwi
   generalize Mk.within s.x = wi at *
   go_upto_if 39 with fail
   go_cut [4] (fun v wx => v = .bool (Mk.enters s.x) /\ wx = w2)
   case first =>
    cases wi
    case false =>
     go_wp2_with fail
     go_meet
     case rel => exact ⟨by rw [zJ1 Henr]; rfl, rfl⟩
    case true =>
     go_wp2_with fail
     go_meet
     case rel => exact ⟨by rw [zJ1 Henr]; rfl, rfl⟩
   case rest =>
    obtain ⟨rfl, hwc⟩ := hcut
    obtain rfl : w2 = wc := hwc.symm
    clear Henr
    obtain ⟨en, hene⟩ : ∃ en, Mk.enters s.x = en := ⟨_, rfl⟩
    rw [hene]
    have Hene := zJ2 hene
    clear hene
    have hn1 : s.x.dyn.needed.length <= 4294967296 := (zJ1 Hf).ok.dyn.n1
    have hn2 : s.x.dyn.syms.length <= 4294967296 := (zJ1 Hf).ok.dyn.n2
    have hn3 : s.x.dyn.relas.length <= 4294967296 := (zJ1 Hf).ok.dyn.n3
    have hl2 : (w2.alloc (.cells #[.string s.x.dyn.soname, .string s.x.dyn.run] 9)).ownsRow (w.heap.size + 2) 9 1 (.slice (some ⟨w2.heap.size, 0, none⟩) 2 2) 2 (([s.x.dyn.soname, s.x.dyn.run] : List ByteArray).map Value.string) := ⟨rfl, .inr ⟨_, 2, _, rfl, by omega, Blk.new w2 9 [.string s.x.dyn.soname, .string s.x.dyn.run], Nat.le_refl _, by unfold maxLen; omega, rfl, rfl⟩⟩
    have hba : Below w2.heap.size w2 (w2.alloc (.cells #[.string s.x.dyn.soname, .string s.x.dyn.run] 9)) := zJ3 _ _
    have hBW := (zJ1 HB2).trans (hba.mono (by omega))
    have hx3 := (zJ1 Hx) _ hBW
    have y0 : (w2.alloc (.cells #[.string s.x.dyn.soname, .string s.x.dyn.run] 9)).cell? ⟨w.heap.size + 1, 0, none⟩ = some (.slice s.A1 s.x.dyn.needed.length s.c1) := hx3.1.2.cell (i := 0) rfl
    have Hl2 := zJ2 hl2
    have HBW := zJ2 hBW
    have Hxm3 := zJ2 hx3.2
    have hsz3 := hBW.size
    have Hsz3 := zJ2 hsz3
    clear hl2 hba hBW hx3 HB2 Hxm2
    go_upto_region 8 with (at_builtin; refine zJq strTy rfl _ _ rfl (w.heap.size + 2) (.slice (some ⟨w2.heap.size, 0, none⟩) 2 2) 2 _ rfl (zJ1 Hl2) B s.A1 s.x.dyn.needed.length s.c1 (s.x.dyn.needed.map Value.string) rfl (zJ1 Hxm3).dyn.needed (by intro u hu; obtain ⟨y, -, rfl⟩ := List.mem_map.1 hu; rfl) (by omega) (by omega) ?_; intro An cn w4 ho4 hg4 ha4; have HN := zJ2 (show w4.ownsRow (w.heap.size + 2) 9 1 (.slice An (2 + s.x.dyn.needed.length) cn) (2 + s.x.dyn.needed.length) (([s.x.dyn.soname, s.x.dyn.run] ++ s.x.dyn.needed).map Value.string) by rw [List.map_append]; exact ho4); have HB4 := zJ2 ((zJ1 HBW).grown hg4 (by omega) (fun k hk => ((zJ1 Hl2).lt k hk).1)); clear ho4 hg4 ha4)
    have hx4 := (zJ1 Hx) _ (zJ1 HB4)
    have d3 := hx4.1.2.cell (i := 3) rfl
    obtain ⟨A2v, hA2v⟩ : ∃ A2v, s.A2 = A2v := ⟨_, rfl⟩
    rw [hA2v] at d3
    have HA2v := zJ2 hA2v
    clear hx4 y0 d0 d1 d2 Hl2 HBW Hxm3 hA2v
    go_wp2_with fail
    go_loopg [6, 7, 52] s.x.dyn.syms.length (fun gk nv fv iv wr => ∃ (j : Nat) (An : Option Addr) (cn : Nat), gk = s.x.dyn.syms.length - j /\ j <= s.x.dyn.syms.length /\ iv = .int .i64 j /\ nv = .slice An (2 + s.x.dyn.needed.length + j) cn /\ fv = .bool (fits1 (s.x.dyn.syms.take j)) /\ wr.ownsRow (w.heap.size + 2) 9 1 (.slice An (2 + s.x.dyn.needed.length + j) cn) (2 + s.x.dyn.needed.length + j) (([s.x.dyn.soname, s.x.dyn.run] ++ s.x.dyn.needed ++ Mk.names (s.x.dyn.syms.take j)).map Value.string) /\ Below (w.heap.size + 2) W1 wr)
    case atStart => exact ⟨0, An, cn, by omega, by omega, rfl, rfl, rfl, by simpa [Mk.names] using zJ1 HN, zJ1 HB4⟩
    case round =>
    clear HN
    obtain ⟨j, An, cn, hgk, hj, rfl, rfl, rfl, hN, hB4⟩ := hrel
    have Hgk := zJ2 hgk
    have HN := zJ2 hN
    have HB5 := zJ2 hB4
    have hws : w.heap.size + 2 <= wr.heap.size := Nat.le_trans hs1 hB4.size
    clear hgk hN hB4 HB4
    rcases Nat.lt_or_ge j s.x.dyn.syms.length with hlt | hge
    ·obtain ⟨x, hx⟩ : ∃ x, s.x.dyn.syms[j]? = some x := ⟨_, List.getElem?_eq_getElem hlt⟩
     obtain ⟨b1, o1, hA1, hb1, st0, st1, st2, st3, st4⟩ := xJq ((zJ1 Hx) _ (zJ1 HB5)).2.dyn.syms hx
     have ilt : (j : Int) < (s.x.dyn.syms.length : Int) := by omega
     have htk : fits1 (s.x.dyn.syms.take (j + 1)) = (fits1 (s.x.dyn.syms.take j) && !decide (2 < x.bind)) := by unfold fits1; rw [List.take_add_one, hx, List.all_append]; simp
     have hnk : Mk.names (s.x.dyn.syms.take (j + 1)) = Mk.names (s.x.dyn.syms.take j) ++ [x.name] := by unfold Mk.names; rw [List.take_add_one, hx, List.map_append]; rfl
     have Htk := zJ2 htk
     have Hnk := zJ2 hnk
     have hA2' : A2v = some ⟨b1, o1, none⟩ := (zJ1 HA2v).symm.trans hA1
     subst hA2'
     have hbS : Below wr.heap.size wr (wr.alloc (.cells #[.string x.name, .int .u64 (x.value : Nat), .int .u64 (x.size : Nat), .int .u8 (x.bind : Nat), .bool x.isdef] 48)) := zJ3 _ _
     have hN2 := (own_below (zJ1 HN) hbS)
     have hSs : (wr.alloc (.cells #[.string x.name, .int .u64 (x.value : Nat), .int .u64 (x.size : Nat), .int .u8 (x.bind : Nat), .bool x.isdef] 48)).heap.size = wr.heap.size + 1 := by simp
     have HN2 := zJ2 hN2
     have HbS := zJ2 hbS
     have Hss := zJ2 (show w.heap.size + 2 <= (wr.alloc (.cells #[.string x.name, .int .u64 (x.value : Nat), .int .u64 (x.size : Nat), .int .u8 (x.bind : Nat), .bool x.isdef] 48)).heap.size by simp; omega)
     have Hbx := zJ2 (Blk.new wr 48 [.string x.name, .int .u64 (x.value : Nat), .int .u64 (x.size : Nat), .int .u8 (x.bind : Nat), .bool x.isdef])
     clear hx hA1 htk hnk hb1 hbS hN2 hSs
     obtain ⟨fv, hfv⟩ : ∃ fv, fits1 (s.x.dyn.syms.take j) = fv := ⟨_, rfl⟩
     rw [hfv]
     have Hfv := zJ2 hfv
     clear hfv
     go_upto_region 13 with (at_builtin; go_loud (refine zJl strTy rfl _ _ rfl (w.heap.size + 2) (.slice An (2 + s.x.dyn.needed.length + j) cn) (2 + s.x.dyn.needed.length + j) _ rfl (zJ1 HN2) #[.string x.name] _ rfl (by simp) rfl (by intro u hu; simp at hu; subst hu; rfl) (by omega) (zJ1 Hss) ?_; intro A3 c3 w5 ho5 hg5 ha5; have HN3 := zJ2 ho5; have hb5 := (zJ1 HB5).trans ((zJ1 HbS).mono hws) |>.grown hg5 (zJ1 Hss) (fun k hk => ((zJ1 HN2).lt k hk).1); have HB6 := zJ2 hb5; have Hbx2 := zJ2 (show Blk w5 wr.heap.size 48 [.string x.name, .int .u64 (x.value : Nat), .int .u64 (x.size : Nat), .int .u8 (x.bind : Nat), .bool x.isdef] from (hg5.block _ (zJ1 Hbx).lt (fun e => by have := ((zJ1 HN).lt _ e.symm).2; omega)).trans (zJ1 Hbx)); have z3 := (zJ1 Hbx2).cell (i := 3) rfl; clear ho5 hg5 ha5 hb5))
     cases fv
     case false =>
      go_wp2_with fail
      go_roundg (s.x.dyn.syms.length - (j + 1))
      case measure => have := zJ1 Hgk; omega
      case rel => exact ⟨j + 1, A3, c3, rfl, by omega, by go_num, by rw [<- Nat.add_assoc], by rw [zJ1 Htk, zJ1 Hfv]; rfl, by rw [zJ1 Hnk, <- Nat.add_assoc, <- List.append_assoc, List.map_append]; exact zJ1 HN3, zJ1 HB6⟩
     case true =>
      go_wp2_with fail
      go_roundg (s.x.dyn.syms.length - (j + 1))
      case measure => have := zJ1 Hgk; omega
      case rel => exact ⟨j + 1, A3, c3, rfl, by omega, by go_num, by rw [<- Nat.add_assoc], by rw [zJ1 Htk, zJ1 Hfv, le2]; rfl, by rw [zJ1 Hnk, <- Nat.add_assoc, <- List.append_assoc, List.map_append]; exact zJ1 HN3, zJ1 HB6⟩
    ·obtain rfl : j = s.x.dyn.syms.length := by omega
     have ige : ¬ ((s.x.dyn.syms.length : Nat) : Int) < ((s.x.dyn.syms.length : Nat) : Int) := by omega
     rw [List.take_length] at *
     have hx6 := (zJ1 Hx) _ (zJ1 HB5)
     have d4 := hx6.1.2.cell (i := 4) rfl
     have d3b := hx6.1.2.cell (i := 3) rfl
     obtain ⟨A3v, hA3v⟩ : ∃ A3v, s.A3 = A3v := ⟨_, rfl⟩
     rw [hA3v] at d4
     have HA3v := zJ2 hA3v
     have HB7 := zJ2 (zJ1 HB5)
     obtain ⟨f1, hf1⟩ : ∃ f1, fits1 s.x.dyn.syms = f1 := ⟨_, rfl⟩
     have Hf1 := zJ2 hf1
     clear hf1 hA3v hx6
     rw [zJ1 Hf1]
     have hws2 := hws
     clear d3b
     go_wp2_with fail
     go_loopg [7, 71] s.x.dyn.relas.length (fun gk fv iv wr => ∃ i : Nat, gk = s.x.dyn.relas.length - i /\ i <= s.x.dyn.relas.length /\ iv = .int .i64 i /\ fv = .bool (f1 && fits2 s.x.dyn.syms.length (s.x.dyn.relas.take i)) /\ wr.ownsRow (w.heap.size + 2) 9 1 (.slice An (2 + s.x.dyn.needed.length + s.x.dyn.syms.length) cn) (2 + s.x.dyn.needed.length + s.x.dyn.syms.length) ((namesOf s.x.dyn).map Value.string) /\ Below (w.heap.size + 2) W1 wr)
     case atStart => exact ⟨0, by omega, by omega, rfl, by simp [fits2], zJ1 HN, zJ1 HB7⟩
     case round =>
     clear HN HB7 HB5 Hgk ige
     obtain ⟨i, hgk2, hi, rfl, rfl, hN, hB7⟩ := hrel
     have Hgk2 := zJ2 hgk2
     have HN := zJ2 hN
     have HB7 := zJ2 hB7
     have hws3 : w.heap.size + 2 <= wr.heap.size := Nat.le_trans hs1 hB7.size
     clear hgk2 hN hB7 hws hws2
     rcases Nat.lt_or_ge i s.x.dyn.relas.length with hlt | hge
     ·obtain ⟨x, hx⟩ : ∃ x, s.x.dyn.relas[i]? = some x := ⟨_, List.getElem?_eq_getElem hlt⟩
      obtain ⟨b1, o1, hA1, hb1, st0, st1, st2, st3⟩ := vJb ((zJ1 Hx) _ (zJ1 HB7)).2.dyn.relas hx
      have hA2' : A3v = some ⟨b1, o1, none⟩ := (zJ1 HA3v).symm.trans hA1
      subst hA2'
      have ilt : (i : Int) < (s.x.dyn.relas.length : Int) := by omega
      have htk : fits2 s.x.dyn.syms.length (s.x.dyn.relas.take (i + 1)) = (fits2 s.x.dyn.syms.length (s.x.dyn.relas.take i) && !(decide (x.sym < 0) || decide ((s.x.dyn.syms.length : Int) < x.sym))) := by unfold fits2; rw [List.take_add_one, hx, List.all_append]; simp [Mk.badRel]
      have hbS : Below wr.heap.size wr (wr.alloc (.cells #[.int .u64 (x.off : Nat), .int .u32 (x.type : Nat), .int .i64 x.sym, .int .i64 x.add] 141)) := zJ3 _ _
      have hBa := (zJ1 HB7).trans (hbS.mono hws3)
      have HBa := zJ2 hBa
      have HNa := zJ2 (own_below (zJ1 HN) hbS)
      have d3c : (wr.alloc (.cells #[.int .u64 (x.off : Nat), .int .u32 (x.type : Nat), .int .i64 x.sym, .int .i64 x.add] 141)).cell? ⟨w.heap.size + 1, 3, none⟩ = some (.slice s.A2 s.x.dyn.syms.length s.c2) := ((zJ1 Hx) _ hBa).1.2.cell (i := 3) rfl
      have z2 : (wr.alloc (.cells #[.int .u64 (x.off : Nat), .int .u32 (x.type : Nat), .int .i64 x.sym, .int .i64 x.add] 141)).cell? ⟨wr.heap.size, 2, none⟩ = some (.int .i64 x.sym) := (Blk.new wr 141 [.int .u64 (x.off : Nat), .int .u32 (x.type : Nat), .int .i64 x.sym, .int .i64 x.add]).cell (i := 2) rfl
      generalize fits2 s.x.dyn.syms.length (s.x.dyn.relas.take i) = f2 at *
      have Htk2 := zJ2 htk
      generalize x.sym = sm at *
      clear hx hA1 htk hb1 hbS hBa
      obtain ⟨ff, hff⟩ : ∃ ff, (f1 && f2) = ff := ⟨_, rfl⟩
      rw [hff]
      have Hff := zJ2 hff
      clear hff
      cases ff
      case false =>
       go_wp2_with fail
       go_roundg (s.x.dyn.relas.length - (i + 1))
       case measure => have := zJ1 Hgk2; omega
       case rel => exact ⟨i + 1, rfl, by omega, by go_num, by rw [zJ1 Htk2]; rw [<- Bool.and_assoc, zJ1 Hff]; rfl, zJ1 HNa, zJ1 HBa⟩
      case true =>
       by_cases c2 : 0 <= sm
       ·have c2i : decide (0 <= sm) = true := decide_eq_true c2
        have C2 := zJ2 (show decide (sm < 0) = false from decide_eq_false (by omega))
        clear c2
        go_wp2_with fail
        go_roundg (s.x.dyn.relas.length - (i + 1))
        case measure => have := zJ1 Hgk2; omega
        case rel => exact ⟨i + 1, rfl, by omega, by go_num, by rw [zJ1 Htk2]; rw [<- Bool.and_assoc, zJ1 Hff, zJ1 C2, Bool.false_or, Bool.true_and, leN], zJ1 HNa, zJ1 HBa⟩
       ·have c2i : decide (0 <= sm) = false := decide_eq_false c2
        have C2 := zJ2 (show decide (sm < 0) = true from decide_eq_true (by omega))
        clear c2
        go_wp2_with fail
        go_roundg (s.x.dyn.relas.length - (i + 1))
        case measure => have := zJ1 Hgk2; omega
        case rel => exact ⟨i + 1, rfl, by omega, by go_num, by rw [zJ1 Htk2]; rw [<- Bool.and_assoc, zJ1 Hff, zJ1 C2]; rfl, zJ1 HNa, zJ1 HBa⟩
     ·obtain rfl : i = s.x.dyn.relas.length := by omega
      have ige : ¬ ((s.x.dyn.relas.length : Nat) : Int) < ((s.x.dyn.relas.length : Nat) : Int) := by omega
      rw [List.take_length] at *
      obtain ⟨fz, hfz⟩ : ∃ fz, (f1 && fits2 s.x.dyn.syms.length s.x.dyn.relas) = fz := ⟨_, rfl⟩
      rw [hfz]
      have Hfz := zJ2 hfz
      have hx8 := (zJ1 Hx) _ (zJ1 HB7)
      obtain ⟨x0, x1, x2, x3, x4, x5, x6, x7, x8, x9, x10, x11, x12⟩ := zJ6 hx8.1.1
      clear hx8 hfz
      go_upto_region 20 with fail
      have Hmay := zJ2 (show Mk.may s.x = (if Mk.bad1 s.x = true then 1 else if Mk.bad2 s.x = true then 1 else if Mk.bad s.x.dyn = true then 1 else if Mk.tooBig s.x = true then 12 else 0) from rfl)
      have Hb1d := zJ2 (show Mk.bad1 s.x = ((!(decide (s.x.type = 2) || decide (s.x.type = 3))) || !Mk.enters s.x || (decide (s.x.interp.size ≠ 0) && decide (Pth.chk s.x.interp ≠ 0))) from rfl)
      have Hb2d := zJ2 (show Mk.bad2 s.x = ((!s.x.dynamic && !Mk.empty s.x.dyn) || decide (s.x.apart < 0) || decide ((s.x.dyn.relas.length : Int) < s.x.apart)) from rfl)
      have Hbd := zJ2 (bad_eq s.x.dyn)
      have Htb := zJ2 (show Mk.tooBig s.x = (decide (8 < s.x.dyn.needed.length) || decide (64 < s.x.dyn.syms.length) || decide (64 < s.x.dyn.relas.length) || decide (65536 < s.x.text.length) || decide (1048576 < s.x.more)) from rfl)
      rw [zJ1 Hene] at Hb1d
      rw [zJ1 Hf1, zJ1 Hfz] at Hbd
      go_cut [90] (fun v wx => v = .bool (!(decide (s.x.type = 2) || decide (s.x.type = 3))) /\ wx = wr)
      case first =>
       by_cases c2 : s.x.type = 2
       ·have q1 : ((s.x.type : Int) != 2) = false := by rw [c2]; rfl
        have He := zJ2 (show (!(decide (s.x.type = 2) || decide (s.x.type = 3))) = false by simp [c2])
        clear c2
        go_wp2_with fail
        go_meet
        case rel => exact ⟨by rw [zJ1 He], rfl⟩
       ·have q1 : ((s.x.type : Int) != 2) = true := by rw [bne_iff_ne]; omega
        by_cases c3 : s.x.type = 3
        ·have q2 : ((s.x.type : Int) != 3) = false := by rw [c3]; rfl
         have He := zJ2 (show (!(decide (s.x.type = 2) || decide (s.x.type = 3))) = false by simp [c3])
         clear c2 c3
         go_wp2_with fail
         go_meet
         case rel => exact ⟨by rw [zJ1 He], rfl⟩
        ·have q2 : ((s.x.type : Int) != 3) = true := by rw [bne_iff_ne]; omega
         have He := zJ2 (show (!(decide (s.x.type = 2) || decide (s.x.type = 3))) = true by simp [c2, c3])
         clear c2 c3
         go_wp2_with fail
         go_meet
         case rel => exact ⟨by rw [zJ1 He], rfl⟩
      case rest =>
       obtain ⟨rfl, hwc⟩ := hcut
       obtain rfl : wr = wc := hwc.symm
       generalize (!(decide (s.x.type = 2) || decide (s.x.type = 3))) = tb at *
       cases tb
       case true =>
        have HM : Hid (Mk.may s.x = 1) := zJ2 (by rw [zJ1 Hmay, zJ1 Hb1d]; rfl)
        go_wp2_with fail
        go_ret
        exact ⟨yJ3 (zJ1 HM).symm, (zJ1 Hb1).trans ((zJ1 HB7).mono (by omega))⟩
       cases en
       case false =>
        have HM : Hid (Mk.may s.x = 1) := zJ2 (by rw [zJ1 Hmay, zJ1 Hb1d]; rfl)
        go_wp2_with fail
        go_ret
        exact ⟨yJ3 (zJ1 HM).symm, (zJ1 Hb1).trans ((zJ1 HB7).mono (by omega))⟩
       have KC := zJ2 (check_any s.x.interp (by have := (zJ1 Hf).interp; unfold maxLen; omega) wr)
       go_upto_region 22 with fail
       go_cut [90] (fun v wx => v = .bool (decide (s.x.interp.size ≠ 0) && decide (Pth.chk s.x.interp ≠ 0)) /\ Below wr.heap.size wr wx)
       case first =>
        by_cases ci : s.x.interp.size = 0
        ·have q3 := yJp ci
         have He := zJ2 (show (decide (s.x.interp.size ≠ 0) && decide (Pth.chk s.x.interp ≠ 0)) = false by simp [ci])
         clear ci
         go_wp2_with fail
         go_meet
         case rel => exact ⟨by rw [zJ1 He], Below.refl _ _⟩
        ·have q3 := toList_some ci
         have He := zJ2 (show (decide (s.x.interp.size ≠ 0) && decide (Pth.chk s.x.interp ≠ 0)) = decide (Pth.chk s.x.interp ≠ 0) by simp [ci])
         clear ci
         go_wp2_with (go_at_call 54; refine (zJ1 KC).mono ?_; rintro e w5 ⟨rfl, hb5⟩; have Hb5 := zJ2 hb5; clear hb5)
         go_meet
         case rel => exact ⟨by rw [zJ1 He]; congr 1; by_cases hc : Pth.chk s.x.interp = 0 <;> simp [hc], zJ1 Hb5⟩
       case rest =>
        obtain ⟨rfl, hbw⟩ := hcut
        have HB8 := zJ2 ((zJ1 HB7).trans (hbw.mono hws3))
        have HN8 := zJ2 (own_below (zJ1 HN) hbw)
        have hws8 : w.heap.size + 2 <= wc.heap.size := Nat.le_trans hws3 hbw.size
        clear hbw KC x0 x1 x2 x3 x4 x5 x6 x7 x8 x9 x10 x11 x12
        generalize (decide (s.x.interp.size ≠ 0) && decide (Pth.chk s.x.interp ≠ 0)) = ib at *
        cases ib
        case true =>
         have HM : Hid (Mk.may s.x = 1) := zJ2 (by rw [zJ1 Hmay, zJ1 Hb1d]; rfl)
         go_wp2_with fail
         go_ret
         exact ⟨yJ3 (zJ1 HM).symm, (zJ1 Hb1).trans ((zJ1 HB8).mono (by omega))⟩
        have hx8 := (zJ1 Hx) _ (zJ1 HB8)
        obtain ⟨x0, x1, x2, x3, x4, x5, x6, x7, x8, x9, x10, x11, x12⟩ := zJ6 hx8.1.1
        have d0 := hx8.1.2.cell (i := 0) rfl
        have d1 := hx8.1.2.cell (i := 1) rfl
        have d2 := hx8.1.2.cell (i := 2) rfl
        have d3 := hx8.1.2.cell (i := 3) rfl
        have d4 := hx8.1.2.cell (i := 4) rfl
        have KE := zJ2 (pempty_any s wc (zJ1 Hf).ok.dyn)
        clear hx8
        obtain ⟨dy, hdy⟩ : ∃ dy, s.x.dynamic = dy := ⟨_, rfl⟩
        rw [hdy] at x6
        rw [hdy] at Hb2d
        obtain ⟨em, hem⟩ : ∃ em, Mk.empty s.x.dyn = em := ⟨_, rfl⟩
        rw [hem] at KE
        rw [hem] at Hb2d
        clear hdy hem
        go_upto_region 24 with fail
        go_cut [110] (fun v wx => v = .bool (!dy && !em) /\ Below wc.heap.size wc wx)
        case first =>
         cases dy
         case true =>
          go_wp2_with fail
          go_meet
          case rel => exact ⟨rfl, Below.refl _ _⟩
         case false =>
          go_wp2_with (go_at_call 68; refine (zJ1 KE).mono ?_; rintro e w5 ⟨rfl, hb5⟩; have Hb5 := zJ2 hb5; clear hb5)
          go_meet
          case rel => exact ⟨by cases em <;> rfl, zJ1 Hb5⟩
        case rest =>
         obtain ⟨rfl, hbw⟩ := hcut
         have HB9 := zJ2 ((zJ1 HB8).trans (hbw.mono hws8))
         have HN9 := zJ2 (own_below (zJ1 HN8) hbw)
         have hws9 := Nat.le_trans hws8 hbw.size
         clear hbw KE x0 x1 x2 x3 x4 x5 x6 x7 x8 x9 x10 x11 x12 d0 d1 d2 d3 d4
         generalize (!dy && !em) = de at *
         cases de
         case true =>
          have HM : Hid (Mk.may s.x = 1) := zJ2 (by rw [zJ1 Hmay, zJ1 Hb1d, zJ1 Hb2d]; rfl)
          go_wp2_with fail
          go_ret
          exact ⟨yJ3 (zJ1 HM).symm, (zJ1 Hb1).trans ((zJ1 HB9).mono (by omega))⟩
         have hx9 := (zJ1 Hx) _ (zJ1 HB9)
         obtain ⟨x0, x1, x2, x3, x4, x5, x6, x7, x8, x9, x10, x11, x12⟩ := zJ6 hx9.1.1
         have d0 := hx9.1.2.cell (i := 0) rfl
         have d3 := hx9.1.2.cell (i := 3) rfl
         have d4 := hx9.1.2.cell (i := 4) rfl
         clear hx9
         by_cases ca : s.x.apart < 0
         ·have HM : Hid (Mk.may s.x = 1) := zJ2 (by rw [zJ1 Hmay, zJ1 Hb1d, zJ1 Hb2d, decide_eq_true ca]; rfl)
          go_wp2_with fail
          go_ret
          exact ⟨yJ3 (zJ1 HM).symm, (zJ1 Hb1).trans ((zJ1 HB9).mono (by omega))⟩
         by_cases cb : (s.x.dyn.relas.length : Int) < s.x.apart
         ·have HM : Hid (Mk.may s.x = 1) := zJ2 (by rw [zJ1 Hmay, zJ1 Hb1d, zJ1 Hb2d, decide_eq_true cb, Bool.or_true]; rfl)
          go_wp2_with fail
          go_ret
          exact ⟨yJ3 (zJ1 HM).symm, (zJ1 Hb1).trans ((zJ1 HB9).mono (by omega))⟩
         have Hb2f : Hid (Mk.bad2 s.x = false) := zJ2 (by rw [zJ1 Hb2d, decide_eq_false ca, decide_eq_false cb]; rfl)
         cases fz
         case false =>
          have HM : Hid (Mk.may s.x = 1) := zJ2 (by rw [zJ1 Hmay, zJ1 Hb1d, zJ1 Hb2f, zJ1 Hbd]; rfl)
          go_wp2_with fail
          go_ret
          exact ⟨yJ3 (zJ1 HM).symm, (zJ1 Hb1).trans ((zJ1 HB9).mono (by omega))⟩
         have hsum := namesOf_sum s.x.dyn
         have htx := (zJ1 Hf).texts
         have hnl : (namesOf s.x.dyn).length = 2 + s.x.dyn.needed.length + s.x.dyn.syms.length := by unfold namesOf Mk.names; simp; omega
         have hcap : 2 + s.x.dyn.needed.length + s.x.dyn.syms.length <= cn := by
          obtain ⟨g9, e9, -⟩ := xJ9 (zJ1 HN9) (by omega)
          subst e9
          exact (wJb (zJ1 HN9)).2.2
         have KJ := zJ2 (join_any' An (2 + s.x.dyn.needed.length + s.x.dyn.syms.length) cn (namesOf s.x.dyn) ⟨#[]⟩ wc (Rd.of_own (zJ1 HN9)) hcap (by omega) (by rw [show (⟨#[]⟩ : ByteArray).data.toList = [] from rfl, join_flat]; unfold sumB at hsum; omega))
         clear hsum htx hnl hcap
         go_wp2_with fail
         refine (zJ1 KJ).mono ?_
         rintro e w10 ⟨rfl, hbj⟩
         have hct := Tryz.strings_Contains_one ⟨(Lib.join ((namesOf s.x.dyn).map (·.data.toList)) (⟨#[]⟩ : ByteArray).data.toList).toArray⟩ 0 w10
         have hix : decide (0 <= Lib.indexByte (⟨(Lib.join ((namesOf s.x.dyn).map (·.data.toList)) (⟨#[]⟩ : ByteArray).data.toList).toArray⟩ : ByteArray).data.toList 0) = (namesOf s.x.dyn).any Mk.has := by
          rw [index_has, <- names_has]
         rw [hix] at hct
         have KC2 := zJ2 hct
         have HB10 := zJ2 ((zJ1 HB9).trans (hbj.mono hws9))
         have hx10 := (zJ1 Hx) _ (zJ1 HB10)
         have hws10 := Nat.le_trans hws9 hbj.size
         obtain ⟨x0, x1, x2, x3, x4, x5, x6, x7, x8, x9, x10, x11, x12⟩ := zJ6 hx10.1.1
         have d0 := hx10.1.2.cell (i := 0) rfl
         have d3 := hx10.1.2.cell (i := 3) rfl
         have d4 := hx10.1.2.cell (i := 4) rfl
         generalize (namesOf s.x.dyn).any Mk.has = nh at *
         generalize (⟨(Lib.join ((namesOf s.x.dyn).map (·.data.toList)) (⟨#[]⟩ : ByteArray).data.toList).toArray⟩ : ByteArray) = js at *
         clear hx10 hbj hct hix KJ HN9 HB9
         go_wp2_with fail
         refine (zJ1 KC2).mono ?_
         rintro e w11 ⟨rfl, rfl⟩
         cases nh
         case true =>
          have HM : Hid (Mk.may s.x = 1) := zJ2 (by rw [zJ1 Hmay, zJ1 Hb1d, zJ1 Hb2f, zJ1 Hbd]; rfl)
          go_wp2_with fail
          go_ret
          exact ⟨yJ3 (zJ1 HM).symm, (zJ1 Hb1).trans ((zJ1 HB10).mono (by omega))⟩
         have HM0 : Hid (Mk.may s.x = if Mk.tooBig s.x = true then 12 else 0) := zJ2 (by rw [zJ1 Hmay, zJ1 Hb1d, zJ1 Hb2f, zJ1 Hbd]; rfl)
         clear KC2
         by_cases e0 : 8 < s.x.dyn.needed.length
         ·have g0 : (8 : Int) < (s.x.dyn.needed.length : Int) := by omega
          have HT : Hid (Mk.may s.x = 12) := zJ2 (by rw [zJ1 HM0, zJ1 Htb]; simp [e0])
          clear e0
          go_wp2_with fail
          go_ret
          exact ⟨yJ3 (zJ1 HT).symm, (zJ1 Hb1).trans ((zJ1 HB10).mono (by omega))⟩
         have g0 : ¬ (8 : Int) < (s.x.dyn.needed.length : Int) := by omega
         by_cases e1 : 64 < s.x.dyn.syms.length
         ·have g1 : (64 : Int) < (s.x.dyn.syms.length : Int) := by omega
          have HT : Hid (Mk.may s.x = 12) := zJ2 (by rw [zJ1 HM0, zJ1 Htb]; simp [e1])
          clear e1
          go_wp2_with fail
          go_ret
          exact ⟨yJ3 (zJ1 HT).symm, (zJ1 Hb1).trans ((zJ1 HB10).mono (by omega))⟩
         have g1 : ¬ (64 : Int) < (s.x.dyn.syms.length : Int) := by omega
         by_cases e2 : 64 < s.x.dyn.relas.length
         ·have g2 : (64 : Int) < (s.x.dyn.relas.length : Int) := by omega
          have HT : Hid (Mk.may s.x = 12) := zJ2 (by rw [zJ1 HM0, zJ1 Htb]; simp [e2])
          clear e2
          go_wp2_with fail
          go_ret
          exact ⟨yJ3 (zJ1 HT).symm, (zJ1 Hb1).trans ((zJ1 HB10).mono (by omega))⟩
         have g2 : ¬ (64 : Int) < (s.x.dyn.relas.length : Int) := by omega
         by_cases e3 : 65536 < s.x.text.length
         ·have g3 : (65536 : Int) < (s.x.text.length : Int) := by omega
          have HT : Hid (Mk.may s.x = 12) := zJ2 (by rw [zJ1 HM0, zJ1 Htb]; simp [e3])
          clear e3
          go_wp2_with fail
          go_ret
          exact ⟨yJ3 (zJ1 HT).symm, (zJ1 Hb1).trans ((zJ1 HB10).mono (by omega))⟩
         have g3 : ¬ (65536 : Int) < (s.x.text.length : Int) := by omega
         by_cases e4 : 1048576 < s.x.more
         ·have g4 : (1048576 : Int) < (s.x.more : Int) := by omega
          have HT : Hid (Mk.may s.x = 12) := zJ2 (by rw [zJ1 HM0, zJ1 Htb]; simp [e4])
          clear e4
          go_wp2_with fail
          go_ret
          exact ⟨yJ3 (zJ1 HT).symm, (zJ1 Hb1).trans ((zJ1 HB10).mono (by omega))⟩
         have g4 : ¬ (1048576 : Int) < (s.x.more : Int) := by omega
         have HT : Hid (Mk.may s.x = 0) := zJ2 (by rw [zJ1 HM0, zJ1 Htb]; simp [e0, e1, e2, e3, e4])
         clear e0 e1 e2 e3 e4
         go_wp2_with fail
         go_ret
         exact ⟨yJ3 (zJ1 HT).symm, (zJ1 Hb1).trans ((zJ1 HB10).mono (by omega))⟩
theorem wJ1 {w : World} {base n c size k : Nat} {A : Option Addr} {e : TypeId} {xs : List Value} (h : w.ownsRow base e size (.slice A n c) n xs) (hk : k < base) (cs : Array Value) : (w.setRow k cs).ownsRow base e size (.slice A n c) n xs := by
 refine ⟨h.1, h.2.imp id ?_⟩
 rintro ⟨g, cap, cur, e1, e2, e3, r'⟩
 exact ⟨g, cap, cur, e1, e2, (setRow_other w k g cs (by omega)).trans e3, r'⟩
theorem mkreInfo : (Tryz.prog.info? 141).map (·.size) = some 4 := by kernel_rfl
theorem OldK.step {t : TypeId} {w w' : World} {g o base base2 n c n1 c1 n2 c2 : Nat} {l : List Value} {A A1 A2 : Option Addr} {xs ys zs : List UInt8} (h : OldK 5 1 w base A n c (bys xs) A1 n1 c1) (E : FiE t g o l base2 A1 w w' A2 n2 c2 zs) (k : OldK 5 1 w' base2 A1 n1 c1 (bys (xs ++ ys)) A2 n2 c2) (hb : base <= base2) (hb2 : base2 = base) (hg : bk A ≠ some g) (hn : xs.length = n) (hn1 : n1 = n + ys.length) : OldK 5 1 w' base A n c (bys xs) A2 n2 c2 := by
 subst hb2
 rcases h.at_ with ⟨rfl, rfl, h1⟩ | h1
 ·have k1 := k.own
  rw [hn1, xJ0] at k1
  refine ⟨uJf k1 (by rw [bys_len]; exact hn), ?_⟩
  rcases k.at_ with ⟨h2, h3, h4⟩ | h2
  ·exact .inl ⟨h2, h3, by omega⟩
  ·exact .inr h2
 ·obtain ⟨r1, r2⟩ := E.own h.own hg h1
  exact ⟨r1, .inr r2⟩
def tellF (k : Nat) : Nat := match k with
 | 0 => 75
 | 1 => 76
 | 2 => 78
 | 3 => 79
 | _ => 80
theorem lit4 (w : World) (a b c d : Int) : Rd (w.alloc (.cells #[.int .u64 a, .int .u64 b, .int .u64 c, .int .u64 d] 23)) (w.alloc (.cells #[.int .u64 a, .int .u64 b, .int .u64 c, .int .u64 d] 23)).heap.size 1 (some ⟨w.heap.size, 0, none⟩) 4 [.int .u64 a, .int .u64 b, .int .u64 c, .int .u64 d] := by
 rw [show (w.alloc (.cells #[.int .u64 a, .int .u64 b, .int .u64 c, .int .u64 d] 23)).heap.size = w.heap.size + 1 by simp]
 exact Rd.rowF (n := 4) (size := 1) rfl
def TellE (t : TypeId) (g o : Nat) (l : List Value) (base : Nat) (A : Option Addr) (n c : Nat) (xs : List UInt8) (es : List (Nat × Nat)) (w : World) (e : Ending) (w' : World) : Prop :=
 e = .returned (.tuple #[]) /\ ∃ A' c', FiE t g o l base A w w' A' (n + 16 * es.length) c' (xs ++ Mk.entsB es) /\ OldK 5 1 w' base A n c (bys xs) A' (n + 16 * es.length) c'
set_option maxRecDepth 100000 in
set_option maxHeartbeats 4000000 in
theorem tell0_any (t : TypeId) (g o : Nat) (l : List Value) (base : Nat) (A : Option Addr) (n c a m : Nat) (xs : List UInt8) (w : World) (h : FiM w t g o l base A n c xs) (hbase : base <= w.heap.size) (hn : n <= 17592186044416) (ha : a < 18446744073709551616) (hm : m <= 4294967296) :
  Calls Tryz.prog 75 #[.pointer (some ⟨g, o, none⟩), .int .u64 (a : Nat), .int .i64 (m : Nat)] w (TellE t g o l base A n c xs (Mk.tell 0 a m) w) := by
 have hb := zJ3 w (.cells #[.int .u64 4, .int .u64 (a : Nat)] 23)
 have hlt := h.lt
 have hgl := h.blk.lt
 have H1 := lit2 w 4 (a : Nat)
 have KN := zJ2 (zJp t g o l base A n c xs w.heap.size 0 2 2 8 [4, a] (w.alloc (.cells #[.int .u64 4, .int .u64 (a : Nat)] 23)) (h.below hb) (Nat.le_trans hbase hb.size) H1 (by omega) (fun e => by have := (hlt _ e).2; omega) (by intro v hv; simp at hv; omega) (by omega) hn (by omega))
 have Hb := zJ2 hb
 clear hb hlt hgl H1 h
 go_enter Tryz.func75, Tryz.ntmps75
 go_wp2_with fail
 refine (zJ1 KN).mono ?_
 rintro e w1 ⟨rfl, A1, c1, hE, hK⟩
 have HE := zJ2 (FiE.after (zJ1 Hb) hE)
 have HK := zJ2 hK
 clear hE hK KN
 go_wp2_with fail
 go_end0
 exact ⟨rfl, A1, c1, by simpa [Mk.tell, Mk.entsB, Mk.pairB, Mk.lbs, List.append_assoc] using zJ1 HE, by simpa [Mk.tell] using zJ1 HK⟩
set_option maxRecDepth 100000 in
set_option maxHeartbeats 4000000 in
theorem tell1_any (t : TypeId) (g o : Nat) (l : List Value) (base : Nat) (A : Option Addr) (n c a m : Nat) (xs : List UInt8) (w : World) (h : FiM w t g o l base A n c xs) (hbase : base <= w.heap.size) (hn : n <= 17592186044416) (ha : a < 18446744073709551616) (hm : m <= 4294967296) :
  Calls Tryz.prog 76 #[.pointer (some ⟨g, o, none⟩), .int .u64 (a : Nat), .int .i64 (m : Nat)] w (TellE t g o l base A n c xs (Mk.tell 1 a m) w) := by
 have hb := zJ3 w (.cells #[.int .u64 6, .int .u64 (a : Nat), .int .u64 11, .int .u64 24] 23)
 have hlt := h.lt
 have hgl := h.blk.lt
 have H1 := lit4 w 6 (a : Nat) 11 24
 have KN := zJ2 (zJp t g o l base A n c xs w.heap.size 0 4 4 8 [6, a, 11, 24] (w.alloc (.cells #[.int .u64 6, .int .u64 (a : Nat), .int .u64 11, .int .u64 24] 23)) (h.below hb) (Nat.le_trans hbase hb.size) H1 (by omega) (fun e => by have := (hlt _ e).2; omega) (by intro v hv; simp at hv; omega) (by omega) hn (by omega))
 have Hb := zJ2 hb
 clear hb hlt hgl H1 h
 go_enter Tryz.func76, Tryz.ntmps76
 go_wp2_with fail
 refine (zJ1 KN).mono ?_
 rintro e w1 ⟨rfl, A1, c1, hE, hK⟩
 have HE := zJ2 (FiE.after (zJ1 Hb) hE)
 have HK := zJ2 hK
 clear hE hK KN
 go_wp2_with fail
 go_end0
 exact ⟨rfl, A1, c1, by simpa [Mk.tell, Mk.entsB, Mk.pairB, Mk.lbs, List.append_assoc] using zJ1 HE, by simpa [Mk.tell] using zJ1 HK⟩
set_option maxRecDepth 100000 in
set_option maxHeartbeats 4000000 in
theorem tell2_any (t : TypeId) (g o : Nat) (l : List Value) (base : Nat) (A : Option Addr) (n c a m : Nat) (xs : List UInt8) (w : World) (h : FiM w t g o l base A n c xs) (hbase : base <= w.heap.size) (hn : n <= 17592186044416) (ha : a < 18446744073709551616) (hm : m <= 4294967296) :
  Calls Tryz.prog 78 #[.pointer (some ⟨g, o, none⟩), .int .u64 (a : Nat), .int .i64 (m : Nat)] w (TellE t g o l base A n c xs (Mk.tell 2 a m) w) := by
 have hb := zJ3 w (.cells #[.int .u64 7, .int .u64 (a : Nat), .int .u64 8, .int .u64 (m : Nat), .int .u64 9, .int .u64 24] 23)
 have hlt := h.lt
 have hgl := h.blk.lt
 have H1 := lit6 w 7 (a : Nat) 8 (m : Nat) 9 24
 have KN := zJ2 (zJp t g o l base A n c xs w.heap.size 0 6 6 8 [7, a, 8, m, 9, 24] (w.alloc (.cells #[.int .u64 7, .int .u64 (a : Nat), .int .u64 8, .int .u64 (m : Nat), .int .u64 9, .int .u64 24] 23)) (h.below hb) (Nat.le_trans hbase hb.size) H1 (by omega) (fun e => by have := (hlt _ e).2; omega) (by intro v hv; simp at hv; omega) (by omega) hn (by omega))
 have Hb := zJ2 hb
 clear hb hlt hgl H1 h
 go_enter Tryz.func78, Tryz.ntmps78
 go_wp2_with fail
 refine (zJ1 KN).mono ?_
 rintro e w1 ⟨rfl, A1, c1, hE, hK⟩
 have HE := zJ2 (FiE.after (zJ1 Hb) hE)
 have HK := zJ2 hK
 clear hE hK KN
 go_wp2_with fail
 go_end0
 exact ⟨rfl, A1, c1, by simpa [Mk.tell, Mk.entsB, Mk.pairB, Mk.lbs, List.append_assoc] using zJ1 HE, by simpa [Mk.tell] using zJ1 HK⟩
set_option maxRecDepth 100000 in
set_option maxHeartbeats 4000000 in
theorem tell3_any (t : TypeId) (g o : Nat) (l : List Value) (base : Nat) (A : Option Addr) (n c a m : Nat) (xs : List UInt8) (w : World) (h : FiM w t g o l base A n c xs) (hbase : base <= w.heap.size) (hn : n <= 17592186044416) (ha : a < 18446744073709551616) (hm : m <= 4294967296) :
  Calls Tryz.prog 79 #[.pointer (some ⟨g, o, none⟩), .int .u64 (a : Nat), .int .i64 (m : Nat)] w (TellE t g o l base A n c xs (Mk.tell 3 a m) w) := by
 have hb := zJ3 w (.cells #[.int .u64 23, .int .u64 (a : Nat), .int .u64 2, .int .u64 (m : Nat), .int .u64 20, .int .u64 7] 23)
 have hlt := h.lt
 have hgl := h.blk.lt
 have H1 := lit6 w 23 (a : Nat) 2 (m : Nat) 20 7
 have KN := zJ2 (zJp t g o l base A n c xs w.heap.size 0 6 6 8 [23, a, 2, m, 20, 7] (w.alloc (.cells #[.int .u64 23, .int .u64 (a : Nat), .int .u64 2, .int .u64 (m : Nat), .int .u64 20, .int .u64 7] 23)) (h.below hb) (Nat.le_trans hbase hb.size) H1 (by omega) (fun e => by have := (hlt _ e).2; omega) (by intro v hv; simp at hv; omega) (by omega) hn (by omega))
 have Hb := zJ2 hb
 clear hb hlt hgl H1 h
 go_enter Tryz.func79, Tryz.ntmps79
 go_wp2_with fail
 refine (zJ1 KN).mono ?_
 rintro e w1 ⟨rfl, A1, c1, hE, hK⟩
 have HE := zJ2 (FiE.after (zJ1 Hb) hE)
 have HK := zJ2 hK
 clear hE hK KN
 go_wp2_with fail
 go_end0
 exact ⟨rfl, A1, c1, by simpa [Mk.tell, Mk.entsB, Mk.pairB, Mk.lbs, List.append_assoc] using zJ1 HE, by simpa [Mk.tell] using zJ1 HK⟩
set_option maxRecDepth 100000 in
set_option maxHeartbeats 4000000 in
theorem tell4_any (t : TypeId) (g o : Nat) (l : List Value) (base : Nat) (A : Option Addr) (n c a m : Nat) (xs : List UInt8) (w : World) (h : FiM w t g o l base A n c xs) (hbase : base <= w.heap.size) (hn : n <= 17592186044416) (ha : a < 18446744073709551616) (hm : m <= 4294967296) :
  Calls Tryz.prog 80 #[.pointer (some ⟨g, o, none⟩), .int .u64 (a : Nat), .int .i64 (m : Nat)] w (TellE t g o l base A n c xs (Mk.tell 4 a m) w) := by
 have hb := zJ3 w (.cells #[.int .u64 5, .int .u64 (a : Nat), .int .u64 10, .int .u64 (m : Nat), .int .u64 0, .int .u64 0] 23)
 have hlt := h.lt
 have hgl := h.blk.lt
 have H1 := lit6 w 5 (a : Nat) 10 (m : Nat) 0 0
 have KN := zJ2 (zJp t g o l base A n c xs w.heap.size 0 6 6 8 [5, a, 10, m, 0, 0] (w.alloc (.cells #[.int .u64 5, .int .u64 (a : Nat), .int .u64 10, .int .u64 (m : Nat), .int .u64 0, .int .u64 0] 23)) (h.below hb) (Nat.le_trans hbase hb.size) H1 (by omega) (fun e => by have := (hlt _ e).2; omega) (by intro v hv; simp at hv; omega) (by omega) hn (by omega))
 have Hb := zJ2 hb
 clear hb hlt hgl H1 h
 go_enter Tryz.func80, Tryz.ntmps80
 go_wp2_with fail
 refine (zJ1 KN).mono ?_
 rintro e w1 ⟨rfl, A1, c1, hE, hK⟩
 have HE := zJ2 (FiE.after (zJ1 Hb) hE)
 have HK := zJ2 hK
 clear hE hK KN
 go_wp2_with fail
 go_end0
 exact ⟨rfl, A1, c1, by simpa [Mk.tell, Mk.entsB, Mk.pairB, Mk.lbs, List.append_assoc] using zJ1 HE, by simpa [Mk.tell] using zJ1 HK⟩
theorem tell_any (k : Nat) (t : TypeId) (g o : Nat) (l : List Value) (base : Nat) (A : Option Addr) (n c a m : Nat) (xs : List UInt8) (w : World) (h : FiM w t g o l base A n c xs) (hbase : base <= w.heap.size) (hn : n <= 17592186044416) (ha : a < 18446744073709551616) (hm : m <= 4294967296) :
  Calls Tryz.prog (tellF k) #[.pointer (some ⟨g, o, none⟩), .int .u64 (a : Nat), .int .i64 (m : Nat)] w (TellE t g o l base A n c xs (Mk.tell k a m) w) := by
 match k with
 | 0 => exact tell0_any t g o l base A n c a m xs w h hbase hn ha hm
 | 1 => exact tell1_any t g o l base A n c a m xs w h hbase hn ha hm
 | 2 => exact tell2_any t g o l base A n c a m xs w h hbase hn ha hm
 | 3 => exact tell3_any t g o l base A n c a m xs w h hbase hn ha hm
 | k + 4 => exact tell4_any t g o l base A n c a m xs w h hbase hn ha hm
structure PQ where
 k : Nat
 A : Option Addr
 n : Nat
 c : Nat
 b : List UInt8
def PQ.cells (q : PQ) : List Value := [.slice q.A q.n q.c, .func (.func (tellF q.k)) #[] #[]]
def partC (l : List PQ) : List Value := l.flatMap PQ.cells
def PQ.p (q : PQ) : Nat × List UInt8 := (q.k, q.b)
theorem partC_one (q : PQ) : partC [q] = q.cells := by simp [partC]
theorem partC_app (a b : List PQ) : partC (a ++ b) = partC a ++ partC b := by simp [partC]
theorem part_cell1 (l : List PQ) : ∀ u ∈ partC l, u.oneCell' = true := by
 intro u hu
 obtain ⟨q, -, hq⟩ := List.mem_flatMap.1 hu
 simp only [PQ.cells, List.mem_cons, List.not_mem_nil, or_false] at hq
 rcases hq with rfl | rfl <;> rfl
theorem part_at {w : World} {B n : Nat} {A : Option Addr} {l : List PQ} (h : Rd w B 2 A n (partC l)) {k : Nat} {x : PQ} (hk : l[k]? = some x) :
  ∃ b off, A = some ⟨b, off, none⟩ /\ b < B /\ w.cell? ⟨b, off + k * 2, none⟩ = some (.slice x.A x.n x.c) /\ w.cell? ⟨b, off + k * 2 + 1, none⟩ = some (.func (.func (tellF x.k)) #[] #[]) := by
 have hc := tJ8 PQ.cells 2 (fun _ => rfl) l k x hk
 obtain ⟨b, off, ea, hb, hx⟩ := h.open_ (by intro e0; have := hc 0 _ rfl; rw [show l.flatMap PQ.cells = partC l from rfl, e0] at this; simp at this)
 refine ⟨b, off, ea, hb, ?_, ?_⟩
 ·exact hx _ _ (hc 0 _ rfl)
 ·rw [Nat.add_assoc]; exact hx _ _ (hc 1 _ rfl)
theorem vJ8 {w w' : World} {base n c z : Nat} {A : Option Addr} {e : TypeId} {ys : List Value} (r : w.ownsRow base e z (.slice A n c) n ys) (hk : ∀ k, bk A = some k -> w'.heap[k]? = w.heap[k]?) : w'.ownsRow base e z (.slice A n c) n ys := by
 refine ⟨r.1, r.2.imp id ?_⟩
 rintro ⟨k, cap, cur, e1, e2, e3, r'⟩
 have hk1 : bk A = some k := by injection e1 with e1; rw [e1]; rfl
 exact ⟨k, cap, cur, e1, e2, (hk k hk1).trans e3, r'⟩
structure PaS (h0 : Nat) (av : Nat -> Prop) (w2 wr : World) (qs : List PQ) (Ap : Option Addr) (np cp : Nat) : Prop where
 below : Below w2.heap.size w2 wr
 row : wr.ownsRow w2.heap.size 158 2 (.slice Ap np cp) np (partC qs)
 len : np = qs.length
 own : ∀ q ∈ qs, wr.ownsRow h0 5 1 (.slice q.A q.n q.c) q.n (bys q.b) /\ ∀ k, bk q.A = some k -> bk Ap ≠ some k /\ av k
section
variable {h0 np cp : Nat} {av : Nat -> Prop} {w2 wr w' : World} {qs : List PQ} {Ap : Option Addr}
theorem PaS.nil : PaS h0 av w2 w2 [] none 0 0 := ⟨Below.refl _ _, World.ownsRow_nil _ _ _ _, rfl, fun q hq => by cases hq⟩
theorem PaS.size (h : PaS h0 av w2 wr qs Ap np cp) : w2.heap.size <= wr.heap.size := h.below.size
theorem PaS.calm (h : PaS h0 av w2 wr qs Ap np cp) (hb : Below wr.heap.size wr w') : PaS h0 av w2 w' qs Ap np cp :=
 ⟨h.below.trans (hb.mono h.size), own_below h.row hb, h.len, fun q hq => ⟨own_below (h.own q hq).1 hb, (h.own q hq).2⟩⟩
theorem PaS.add (h : PaS h0 av w2 wr qs Ap np cp) (new : List PQ) {A2 : Option Addr} {m c2 : Nat} (hm : m = new.length) (hnew : ∀ q ∈ new, wr.ownsRow h0 5 1 (.slice q.A q.n q.c) q.n (bys q.b) /\ ∀ k, bk q.A = some k -> bk Ap ≠ some k /\ av k)
  (ho : w'.ownsRow w2.heap.size 158 2 (.slice A2 (np + m) c2) (np + m) (partC qs ++ partC new)) (hg : wr.grownBy w' (Value.slice Ap np cp).ownBlock) (ha : ∀ k, (Value.slice A2 (np + m) c2).ownBlock = some k -> (Value.slice Ap np cp).ownBlock = some k \/ wr.heap.size <= k) : PaS h0 av w2 w' (qs ++ new) A2 (np + m) c2 := by
 rw [zJr] at hg
 simp only [zJr] at ha
 refine ⟨h.below.grown hg h.size (fun k hk => (zJ7 h.row k hk).1), by rw [partC_app]; exact ho, by rw [h.len, hm, List.length_append], fun q hq => ?_⟩
 have hq' : wr.ownsRow h0 5 1 (.slice q.A q.n q.c) q.n (bys q.b) /\ ∀ k, bk q.A = some k -> bk Ap ≠ some k /\ av k := by
  rcases List.mem_append.1 hq with hq | hq
  ·exact h.own q hq
  ·exact hnew q hq
 refine ⟨xJo hq'.1 hg (fun k hk => (hq'.2 k hk).1), fun k hk => ⟨fun e => ?_, (hq'.2 k hk).2⟩⟩
 rcases ha k e with h3 | h3
 ·exact (hq'.2 k hk).1 h3
 ·have := (zJ7 hq'.1 k hk).2; omega
end
structure PaF (h0 gs : Nat) (As : Option Addr) (w : World) (qs : List PQ) (Ap : Option Addr) (np cp : Nat) : Prop where
 row : w.ownsRow h0 158 2 (.slice Ap np cp) np (partC qs)
 rav : ∀ k, bk Ap = some k -> k ≠ gs /\ bk As ≠ some k
 len : np = qs.length
 own : ∀ q ∈ qs, w.ownsRow h0 5 1 (.slice q.A q.n q.c) q.n (bys q.b) /\ ∀ k, bk q.A = some k -> k ≠ gs /\ bk As ≠ some k
section
variable {h0 gs np cp : Nat} {w2 wr w w' : World} {qs : List PQ} {Ap As : Option Addr}
theorem PaF.same (h : PaF h0 gs As w qs Ap np cp) (hs : ∀ k, h0 <= k -> k < w.heap.size -> k ≠ gs -> bk As ≠ some k -> w'.heap[k]? = w.heap[k]?) : PaF h0 gs As w' qs Ap np cp :=
 ⟨vJ8 h.row fun k hk => hs k (zJ7 h.row k hk).1 (zJ7 h.row k hk).2 (h.rav k hk).1 (h.rav k hk).2, h.rav, h.len, fun q hq => ⟨vJ8 (h.own q hq).1 fun k hk => hs k (zJ7 (h.own q hq).1 k hk).1 (zJ7 (h.own q hq).1 k hk).2 ((h.own q hq).2 k hk).1 ((h.own q hq).2 k hk).2, (h.own q hq).2⟩⟩
theorem PaF.calm (h : PaF h0 gs As w qs Ap np cp) (hb : Below w.heap.size w w') : PaF h0 gs As w' qs Ap np cp := h.same fun k _ h1 _ _ => hb.block k h1
theorem PaS.fix (h : PaS h0 (fun k => k ≠ gs /\ bk As ≠ some k) w2 wr qs Ap np cp) (h1 : h0 <= w2.heap.size) (h2 : gs < w2.heap.size) (h3 : ∀ k, bk As = some k -> k < w2.heap.size) : PaF h0 gs As wr qs Ap np cp :=
 ⟨zJh h.row h1, fun k hk => by
  have h4 := (zJ7 h.row k hk).1
  exact ⟨by omega, fun e => by have := h3 k e; omega⟩, h.len, fun q hq => ⟨(h.own q hq).1, fun k hk => ((h.own q hq).2 k hk).2⟩⟩
end
structure LoS (gf gs base : Nat) (l : List Value) (A As : Option Addr) (w w3 wr : World) (fs ss : List UInt8) (L : Option Nat) : Prop where
 st : ∃ Af nf cf A2 c2, FiE 71 gf 0 l base A w wr Af nf cf fs /\ FiM wr 71 gs 0 [.slice A2 ss.length c2] w.heap.size A2 ss.length c2 ss /\ (∀ k, bk A2 = some k -> bk Af ≠ some k) /\ bk Af ≠ some gs /\ (∀ k, bk Af = some k -> bk A = some k \/ w3.heap.size <= k) /\ (∀ k, bk A2 = some k -> bk As = some k \/ w3.heap.size <= k) /\ (∀ k, L = some k -> w.heap.size <= k /\ k < wr.heap.size /\ k ≠ gs /\ bk Af ≠ some k /\ bk A2 ≠ some k)
 keep : ∀ k, w.heap.size <= k -> k < w3.heap.size -> k ≠ gs -> bk As ≠ some k -> wr.heap[k]? = w3.heap[k]?
 hgs : w.heap.size <= gs
 hgf : gf < w.heap.size
 hA : ∀ k, bk A = some k -> base <= k /\ k < w.heap.size
 hb : base <= w.heap.size
 size : w3.heap.size <= wr.heap.size
 h3 : w.heap.size <= w3.heap.size
section
variable {gf gs base np cp : Nat} {l : List Value} {A As Ap : Option Addr} {w w3 wr w' : World} {fs ss ps : List UInt8} {qs : List PQ} {L : Option Nat}
theorem LoS.calm (h : LoS gf gs base l A As w w3 wr fs ss L) (hb : Below wr.heap.size wr w') : LoS gf gs base l A As w w3 w' fs ss L := by
 obtain ⟨Af, nf, cf, A2, c2, h1, h2, h3, h4, h5, h6, h7⟩ := h.st
 exact ⟨⟨Af, nf, cf, A2, c2, h1.then_ hb, h2.below hb, h3, h4, h5, h6, fun k hk => ⟨(h7 k hk).1, Nat.lt_of_lt_of_le (h7 k hk).2.1 hb.size, (h7 k hk).2.2⟩⟩, fun k k1 k2 k3 k4 => (hb.block k (Nat.lt_of_lt_of_le k2 h.size)).trans (h.keep k k1 k2 k3 k4), h.hgs, h.hgf, h.hA, h.hb, Nat.le_trans h.size hb.size, h.h3⟩
theorem LoS.drop (h : LoS gf gs base l A As w w3 wr fs ss L) : LoS gf gs base l A As w w3 wr fs ss none := by
 obtain ⟨Af, nf, cf, A2, c2, h1, h2, h3, h4, h5, h6, h7⟩ := h.st
 exact ⟨⟨Af, nf, cf, A2, c2, h1, h2, h3, h4, h5, h6, fun k hk => by cases hk⟩, h.keep, h.hgs, h.hgf, h.hA, h.hb, h.size, h.h3⟩
theorem LoS.lay (h : LoS gf gs base l A As w w3 wr fs ss L) (c : Obj) : LoS gf gs base l A As w w3 (wr.alloc c) fs ss (some wr.heap.size) := by
 obtain ⟨Af, nf, cf, A2, c2, h1, h2, h3, h4, h5, h6, h7⟩ := (h.calm (zJ3 wr c)).st
 obtain ⟨Af', nf', cf', A2', c2', g1, g2, -⟩ := h.st
 have h0 := h.calm (zJ3 wr c)
 obtain ⟨Ag, ng, cg, A3, c3, k1, k2, k3, k4, k5, k6, k7⟩ := h.st
 have hb := zJ3 wr c
 refine ⟨⟨Ag, ng, cg, A3, c3, k1.then_ hb, k2.below hb, k3, k4, k5, k6, fun k hk => ?_⟩, h0.keep, h.hgs, h.hgf, h.hA, h.hb, h0.size, h.h3⟩
 injection hk with hk
 subst hk
 refine ⟨k1.size, by simp, fun e => ?_, fun e => ?_, fun e => ?_⟩
 ·have := k2.blk.lt; omega
 ·have := (k1.m.lt _ e).2; omega
 ·have := (k2.lt _ e).2; omega
theorem LoS.parts (h : LoS gf gs base l A As w w3 wr fs ss L) (p : PaF w.heap.size gs As w3 qs Ap np cp) : PaF w.heap.size gs As wr qs Ap np cp := p.same h.keep
theorem LoS.blk (h : LoS gf gs base l A As w w3 wr fs ss L) {k : Nat} {t : TypeId} {l2 : List Value} (b : Blk w3 k t l2) (h1 : w.heap.size <= k) (h2 : k ≠ gs) (h3 : bk As ≠ some k) : Blk wr k t l2 := (h.keep k h1 b.lt h2 h3).trans b
theorem LoS.bind (h : LoS gf gs base l A As w w3 wr fs ss L) {fs' ss' : List UInt8} (h1 : fs = fs') (h2 : ss = ss') : LoS gf gs base l A As w w3 wr fs' ss' L := by subst h1 h2; exact h
theorem LoS.callPut (h : LoS gf gs base l A As w w3 wr fs ss L) (hfs : fs.length <= 4294967296) (r : w3.ownsRow w.heap.size 5 1 (.slice Ap np cp) np (bys ps)) (hav : ∀ k, bk Ap = some k -> k ≠ gs /\ bk As ≠ some k) (hnp : np <= 4294967296) :
  Calls Tryz.prog 28 #[.pointer (some ⟨gf, 0, none⟩), .slice Ap np cp] wr fun e w' => e = .returned (.int .u64 ((Mk.pad 8 fs).length : Nat)) /\ LoS gf gs base l A As w w3 w' (Mk.pad 8 fs ++ ps) ss L /\ ∀ k, L = some k -> w'.heap[k]? = wr.heap[k]? := by
 obtain ⟨Af, nf, cf, A2, c2, h1, h2, h3, h4, h5, h6, h7⟩ := h.st
 have hlt := zJ7 r
 have r1 := vJ8 r fun k hk => h.keep k (hlt k hk).1 (hlt k hk).2 (hav k hk).1 (hav k hk).2
 have hl := h1.m.len
 have hgf := h.hgf
 have hh3 := h.h3
 have hwr := h1.size
 refine (pput_any _ gf 0 _ base Af nf cf fs Ap np cp ps wr h1.m (Nat.le_trans h.hb h1.size) (by omega) hnp (Rd.of_own r1) (fun e => by have := (hlt _ e).1; omega) (fun k hk e => ?_)).mono ?_
 ·rcases h5 k e with h9 | h9
  ·have := (h.hA k h9).2; have := (hlt k hk).1; omega
  ·have := (hlt k hk).2; omega
 rintro e w' ⟨A9, n9, c9, rfl, E⟩
 have hgs := h.hgs
 have hgsw := h2.blk.lt
 have hEs := E.size
 obtain ⟨m1, m2⟩ := h2.aside E (by omega) h4 (fun e => by have := (h2.lt _ e).1; omega) h3
 refine ⟨rfl, ⟨⟨A9, n9, c9, A2, c2, h1.trans E, m1, m2, fun e => ?_, fun k hk => ?_, h6, fun k hk => ?_⟩, fun k k1 k2 k3 k4 => (E.block k (Nat.lt_of_lt_of_le k2 h.size) (by omega) (fun e => ?_)).trans (h.keep k k1 k2 k3 k4), h.hgs, h.hgf, h.hA, h.hb, Nat.le_trans h.size E.size, h.h3⟩, fun k hk => ?_⟩
 ·rcases E.at_ _ e with h9 | h9
  ·exact h4 h9
  ·omega
 ·rcases E.at_ _ hk with h9 | h9
  ·exact h5 k h9
  ·exact .inr (Nat.le_trans h.size h9)
 ·obtain ⟨q1, q2, q3, q4, q5⟩ := h7 k hk
  refine ⟨q1, by omega, q3, fun e => ?_, q5⟩
  rcases E.at_ _ e with h9 | h9
  ·exact q4 h9
  ·omega
 ·rcases h5 k e with h9 | h9
  ·have := (h.hA k h9).2; omega
  ·omega
 ·obtain ⟨q1, q2, q3, q4, q5⟩ := h7 k hk
  exact E.block k q2 (by omega) q4
theorem LoS.callTell (h : LoS gf gs base l A As w w3 wr fs ss L) (k a m : Nat) (ai mi : Int) (hai : ai = (a : Nat)) (hmi : mi = (m : Nat)) (hss : ss.length <= 17592186044416) (ha : a < 18446744073709551616) (hm : m <= 4294967296) :
  Calls Tryz.prog (tellF k) #[.pointer (some ⟨gs, 0, none⟩), .int .u64 ai, .int .i64 mi] wr fun e w' => e = .returned (.tuple #[]) /\ LoS gf gs base l A As w w3 w' fs (ss ++ Mk.entsB (Mk.tell k a m)) L /\ ∀ k, L = some k -> w'.heap[k]? = wr.heap[k]? := by
 subst hai hmi
 obtain ⟨Af, nf, cf, A2, c2, h1, h2, h3, h4, h5, h6, h7⟩ := h.st
 have hgs := h.hgs
 have hgf := h.hgf
 have hlt := h2.lt
 refine (tell_any k _ gs 0 _ w.heap.size A2 ss.length c2 a m ss wr h2 h1.size hss ha hm).mono ?_
 rintro e w' ⟨rfl, A9, c9, E, -⟩
 have hn : ss.length + 16 * (Mk.tell k a m).length = (ss ++ Mk.entsB (Mk.tell k a m)).length := by rw [List.length_append, yJ0]
 rw [hn] at E
 have hEs := E.size
 obtain ⟨m1, m2⟩ := h1.aside E hgs (fun k hk => (hlt k hk).1) (by omega) (fun e => by have := (hlt _ e).1; omega) h4 (fun k k1 k2 => h3 k k2 k1)
 refine ⟨rfl, ⟨⟨Af, nf, cf, A9, c9, m1, E.m, fun k k1 k2 => m2 k k2 k1, h4, h5, fun k hk => ?_, fun k hk => ?_⟩, fun k k1 k2 k3 k4 => (E.block k (Nat.lt_of_lt_of_le k2 h.size) k3 (fun e => ?_)).trans (h.keep k k1 k2 k3 k4), h.hgs, h.hgf, h.hA, h.hb, Nat.le_trans h.size E.size, h.h3⟩, fun k hk => ?_⟩
 ·rcases E.at_ _ hk with h9 | h9
  ·exact h6 k h9
  ·exact .inr (Nat.le_trans h.size h9)
 ·obtain ⟨q1, q2, q3, q4, q5⟩ := h7 k hk
  refine ⟨q1, by omega, q3, q4, fun e => ?_⟩
  rcases E.at_ _ e with h9 | h9
  ·exact q5 h9
  ·omega
 ·rcases h6 k e with h9 | h9
  ·exact k4 h9
  ·omega
 ·obtain ⟨q1, q2, q3, q4, q5⟩ := h7 k hk
  exact E.block k q2 q3 q5
end
open Go.RowKit
theorem textInfo : (Tryz.prog.info? 9).map (fun i => (i.zero, i.size, i.bytes)) = some (some (.string ⟨#[]⟩), 1, 16) := by kernel_rfl
theorem strs_at {b : List ByteArray} {i : Nat} {x : ByteArray} (h : b[i]? = some x) : (b.map Value.string)[i]? = some (.string x) := by simp [h]
def backToT (b : List ByteArray) (k : Nat) : List Value := List.replicate k (.string ⟨#[]⟩) ++ (b.drop k).map Value.string
theorem backToT_set {b : List ByteArray} {k : Nat} {x : ByteArray} (h : b[k]? = some x) : (backToT b (k + 1)).set k (.string x) = backToT b k := by
 unfold backToT
 rw [List.drop_eq_getElem_cons (i := k) (by have := (List.getElem?_eq_some_iff.1 h).1; exact this)]
 have hx : b[k]'((List.getElem?_eq_some_iff.1 h).1) = x := (List.getElem?_eq_some_iff.1 h).2
 rw [hx, List.replicate_succ', List.append_assoc]
 rw [List.set_append]
 simp
set_option maxRecDepth 20000 in
set_option maxHeartbeats 1000000 in
theorem tJb (A : Option Addr) (m c B : Nat) (b : List ByteArray) (w : World) (hB : B <= w.heap.size) (hb : Rd w B 1 A m (b.map Value.string)) (hm : m <= 4294967296) :
  Calls Tryz.prog 67 #[.slice A m c] w fun e w' => ∃ A' c', e = .returned (.slice A' m c') /\ w'.ownsRow w.heap.size 9 1 (.slice A' m c') m (b.map Value.string) /\ Below w.heap.size w w' := by
 have hbl : b.length = m := by simpa using hb.len1
 rcases Nat.eq_zero_or_pos m with rfl | hpos
 ·have hb0 : b = [] := List.eq_nil_of_length_eq_zero hbl
  subst hb0
  clear hb hbl
  go_enter Tryz.func67, Tryz.ntmps67
  go_wp2
  go_ret
  exact ⟨none, 0, rfl, World.ownsRow_nil _ _ _ _, Below.refl _ _⟩
 have hne : decide (m = 0) = false := by simp; omega
 obtain ⟨i, hi, hz0, hz1, hz2⟩ := info_parts textInfo
 have Hb := zJ2 hb
 have Hbl := zJ2 hbl
 have Hi := zJ2 hi
 have Hz0 := zJ2 hz0
 have Hz1 := zJ2 hz1
 have Hz2 := zJ2 hz2
 clear hb hbl hi hz0 hz1 hz2
 go_enter Tryz.func67, Tryz.ntmps67
 go_wp2_with (at_make; refine wpList_make_full _ rfl _ _ 25 rfl w.heap.size 9 i (.string ⟨#[]⟩) 1 Tryz.underlying25 (zJ1 Hi) (zJ1 Hz0) (zJ1 Hz1) _ _ _ _ m rfl rfl rfl rfl (by rw [zJ1 Hz2]; omega) (by unfold maxLen; omega) (Nat.le_refl _) ?_; intro w1 hown hgrow; have hb1 := (Below.refl w.heap.size w).grown hgrow (Nat.le_refl _) (fun k hk => by cases hk); have Hown := zJ2 hown; have Hb1 := zJ2 hb1; clear hown hgrow hb1)
 go_loopw [4] (fun at_ wr => ∃ k : Nat, k <= m /\ at_ = .int .i64 ((k : Int) - 1) /\ wr.ownsRow w.heap.size 9 1 (.slice (some ⟨w.heap.size, 0, none⟩) m m) m (backToT b k) /\ Below w.heap.size w wr) (fun at_ _ => (intOf at_ + 1).toNat)
 case atStart =>
  refine ⟨m, Nat.le_refl _, rfl, ?_, zJ1 Hb1⟩
  have := zJ1 Hown
  have e : (madeCells (Value.string ⟨#[]⟩).cells (m * 1)).toList = backToT b m := by
   unfold backToT
   rw [List.drop_eq_nil_of_le (by rw [zJ1 Hbl]; exact Nat.le_refl _)]
   simp [Value.cells, toList_madeCells_one]
  rwa [e] at this
 case round =>
 clear Hown Hb1
 obtain ⟨k, hk, rfl, hown, hb2⟩ := hrel
 have Hown := zJ2 hown
 have Hb2 := zJ2 hb2
 clear hown hb2
 by_cases hk0 : k = 0
 ·subst hk0
  go_wp2
  go_ret
  refine ⟨_, _, rfl, ?_, zJ1 Hb2⟩
  have := zJ1 Hown
  simpa [backToT] using this
 ·obtain ⟨j, rfl⟩ : ∃ j, k = j + 1 := ⟨k - 1, by omega⟩
  obtain ⟨x, hx⟩ : ∃ x, b[j]? = some x := ⟨_, List.getElem?_eq_getElem (by rw [zJ1 Hbl]; omega)⟩
  obtain ⟨ab, ao, rfl, hlt, hc⟩ := ((zJ1 Hb).below ((zJ1 Hb2).mono hB)).at_ (strs_at hx)
  have hset := vJv (i := j) (zJ1 Hown) (.string x)
  rw [backToT_set hx] at hset
  have hcl : (backToT b (j + 1))[j]? = some (.string ⟨#[]⟩) := by simp [backToT, List.getElem?_append]
  have hc2 := xJp (zJ1 Hown) hcl
  have hf2 := wJa (zJ1 Hown) j
  have hge := wJb (zJ1 Hown)
  have e1 : ((j + 1 : Nat) : Int) - 1 = (j : Int) := by omega
  rw [e1]
  have Hset := zJ2 hset
  clear hset hcl hx
  go_wp2
  go_roundw
  case rel => exact ⟨j, by omega, rfl, zJ1 Hset, (zJ1 Hb2).setCell (Nat.le_refl _) _⟩
  case measure => simp [intOf]
end Go.Proofs.YtnbecdahfgkffaaGreat
