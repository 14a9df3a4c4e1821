/- Laws for a region that draws, all of whose operations leave the world alone: a load of a row, a store of what stands there. No conditions. The walk of check. Conditions: as each says. The walk of check: the loop over the entries. Conditions: as each says. The walks of open's closure and of rows of entries. Conditions: as each says. The walks of rows of symbols and of relocations. Conditions: as each says. The walk of the symbols' closure. Conditions: as each says. Under way. The walk of names. Conditions: as each says. The walks of bytes.Clone and of relas. Conditions: as each says. The walk of open. Conditions: as each says. Rows of symbols and of relocations, told by the file's own bytes: plain facts. No conditions. -/
import Derived.Test.YtdminnhfgdoibaaDyK1
import Derived.Deep.RegionHeld3
import Derived.Test.YtdminnhfgdoibaaProg
import Derived.WalkSpells
import Derived.WalkLawsBesides
import Derived.StillTailTactics
import Derived.Laws.RangeAny
import Derived.Maps.RangeRun
import Derived.Laws.CopyOwn
namespace Go.Proofs.Ytdminnhfgdoibaa
set_option linter.unusedVariables false
set_option linter.unusedSimpArgs false
open Go.RowKit

theorem setRow_same {w : World} {g : Nat} {cs : Array Value} {t : TypeId} {fr : Nat × Nat} (h : w.heap[g]? = some (.cells cs t fr)) : w.setRow g cs = w := by
  have h1 := setRow_heap w g cs cs t fr h
  have h2 : (w.setRow g cs).heap = w.heap := by
    apply Array.ext_getElem?
    intro i
    by_cases e : i = g
    · subst e; rw [h1, h]
    · exact setRow_other w g i cs e
  unfold World.setRow at h2 ⊢
  simp only at h2
  rw [h2]
section
variable {P : Program} {ops : Array Oper} {W : World} {o : Oper} {a : Act}
theorem yields_load (hw : Region.wanted o (yielded ops a.tmps) = true) (ty : TypeId) (x : Operand) (ho : o.op = .load ty x)
    (g : Nat) (hx : a.eval x = .pointer (some ⟨g, 0, none⟩)) (t : TypeId) (cs : Array Value) (fr : Nat × Nat) (d : TypeDesc) (hg : W.heap[g]? = some (.cells cs t fr))
    (hu : P.underlying ty = some d) (hd : (match d with | .struct _ | .array _ _ => true | _ => false) = true) (hi : (P.info? ty).map (·.size) = some cs.size) :
    YieldsIf P ops (fun w' => w' = W) o (.agg cs) a := by
  refine .inl ⟨hw, fun w' hw' => ?_⟩
  subst hw'
  unfold execOp
  simp only [ho, hx, Instr.loadAt, Instr.sureAddr, Sem.run_bind, Sem.run_pure, Result.andThen_ok, run_loadVar_row _ g t ty cs fr d hg hu hd hi]
variable {S : World → Prop}
theorem yields_move (hw : Region.wanted o (yielded ops a.tmps) = true) (x : Operand) (ho : o.op = .move x) (v : Value) (hx : a.eval x = v) : YieldsIf P ops S o v a := by
  refine .inl ⟨hw, fun w' hw' => ?_⟩
  subst hx
  unfold execOp
  simp [ho]
theorem yields_assign (hw : Region.wanted o (yielded ops a.tmps) = true) (x : Operand) (ho : o.op = .assign x) (v : Value) (hx : a.eval x = v) : YieldsIf P ops S o v a := by
  refine .inl ⟨hw, fun w' hw' => ?_⟩
  subst hx
  unfold execOp
  simp [ho]
end
theorem takeD {P : Program} {md : Region.Mode} {ops : Array Oper} {Q : Exit → Act → World → Prop} {S : World → Prop} {i : Nat} {oi : Oper} {v : Value} {d : Option Tmp} {fuel : Nat} {listed : Array Bool} {a : Act} {w : World} (hi : ops[i]? = some oi) (hd : oi.dst = d)
    (hs : Region.noSelect ops = true) (hf : Region.free md ops listed i = true) (hr : (Region.ready md ops listed).contains i = true)
    (hQ : ∀ c a w, Q (.panic c) (a.put d v) w → Q (.panic c) a w) (hy : YieldsIf P ops S oi v a) (hS : S w)
    (h : wpAnyH P md ops Q S fuel (listed.setIfInBounds i true) (a.put d v) w) : wpAnyH P md ops Q S (fuel + 1) listed a w := by
  subst hd
  exact wpAnyH_take hi hs hf hr hQ hy hS h
/-- A store of what stands there already, where nothing else may come up. -/
theorem storeD {P : Program} {md : Region.Mode} {ops : Array Oper} {Q : Exit → Act → World → Prop} {W : World} {i : Nat} {oi : Oper} {fuel : Nat} {listed : Array Bool} {a : Act} (hi : ops[i]? = some oi) (hd : oi.dst = none)
    (hr : Region.ready md ops listed = [i]) (hw : Region.wanted oi (yielded ops a.tmps) = true) (ty : TypeId) (x y : Operand) (ho : oi.op = .store ty x y)
    (g : Nat) (cs : Array Value) (hx : a.eval x = .pointer (some ⟨g, 0, none⟩)) (hy : a.eval y = .agg cs)
    (t : TypeId) (hg : W.heap[g]? = some (.cells cs t (0, 0))) (hsz : (P.info? ty).map (·.size) = some cs.size) (h1 : cs.all (·.oneCell') = true)
    (h : wpAnyH P md ops Q (fun w' => w' = W) fuel (listed.setIfInBounds i true) a W) : wpAnyH P md ops Q (fun w' => w' = W) (fuel + 1) listed a W := by
  refine wpAnyH_ready (rs := [i]) hr (by simp) ?_
  refine AllReadyH.cons hi (fun K hK => ?_) AllReadyH.nil
  rw [if_pos hw]
  refine wp_store_row ty x y ho g cs hx hy t cs hg hsz rfl h1 ?_
  rw [setRow_same hg, hd]
  exact hK.out _ _ rfl (fun _ => h)
section
variable {ops : Array Oper} {W : World} {o : Oper} {a : Act} {S : World → Prop}
theorem yields_len (hw : Region.wanted o (yielded ops a.tmps) = true) (x : Operand) (ho : o.op = .call { callee := .builtin .len, args := #[x], argTypes := #[22] }) (A : Option Addr) (n c : Nat) (hx : a.eval x = .slice A n c) : YieldsIf Try.prog ops S o (.int .i64 n) a := by
  refine .inl ⟨hw, fun w' hw' => ?_⟩
  unfold execOp
  simp only [ho]
  simp [resolve, invoke, builtin, hx]
  go_simp
theorem yields_nil (hw : Region.wanted o (yielded ops a.tmps) = true) (x : Operand) (ho : o.op = .nilCheck x) (ad : Addr) (hx : a.eval x = .pointer (some ad)) : YieldsIf Try.prog ops S o (.pointer (some ad)) a := by
  refine .inl ⟨hw, fun w' hw' => ?_⟩
  unfold execOp
  simp [ho, hx]
theorem yields_sub (hw : Region.wanted o (yielded ops a.tmps) = true) (x y : Operand) (ho : o.op = .binOp .sub 3 x y 3) (m n : Int) (hx : a.eval x = .int .i64 m) (hy : a.eval y = .int .i64 n) (hr : IntKind.i64.wrap (m - n) = m - n) : YieldsIf Try.prog ops S o (.int .i64 (m - n)) a := by
  refine .inl ⟨hw, fun w' hw' => ?_⟩
  unfold execOp
  simp only [ho, hx, hy]
  go_simp
theorem yields_slice (hw : Region.wanted o (yielded ops a.tmps) = true) (x : Operand) (ho : o.op = .load 22 x) (g i : Nat) (hx : a.eval x = .pointer (some ⟨g, i, none⟩)) (A : Option Addr) (n c : Nat) (hc : W.cell? ⟨g, i, none⟩ = some (.slice A n c)) : YieldsIf Try.prog ops (fun w' => w' = W) o (.slice A n c) a := by
  refine .inl ⟨hw, fun w' hw' => ?_⟩
  subst hw'
  unfold execOp
  simp only [ho, hx]
  go_simp
end
theorem stepD {P : Program} {md : Region.Mode} {ops : Array Oper} {Q : Exit → Act → World → Prop} {S : World → Prop} {i : Nat} {oi : Oper} {d : Option Tmp} {fuel : Nat} {listed : Array Bool} {a : Act} {w : World} (hi : ops[i]? = some oi) (hd : oi.dst = d)
    (hr : Region.ready md ops listed = [i]) (hw : Region.wanted oi (yielded ops a.tmps) = true)
    (h : ∀ K : Act → World → Prop, (∀ v w', S w' → wpAnyH P md ops Q S fuel (listed.setIfInBounds i true) (a.put d v) w' → K (a.put oi.dst v) w') → oi.wp P a w K Q) : wpAnyH P md ops Q S (fuel + 1) listed a w := by
  refine wpAnyH_ready (rs := [i]) hr (by simp) ?_
  refine AllReadyH.cons hi (fun K hK => ?_) AllReadyH.nil
  rw [if_pos hw]
  subst hd
  exact h K (fun v w' hS hh => hK.out _ _ hS (fun _ => hh))
end Go.Proofs.Ytdminnhfgdoibaa
namespace Go.Proofs.Ytdminnhfgdoibaa
set_option linter.unusedVariables false
set_option linter.unusedSimpArgs false
open Go.RowKit

namespace Dy
theorem mustV_once {t : Nat} (h : once t = false) : mustV t = 0 := by
  unfold mustV
  have h2 : t ≠ 2 ∧ t ≠ 4 ∧ t ≠ 5 ∧ t ≠ 6 ∧ t ≠ 7 ∧ t ≠ 8 ∧ t ≠ 9 ∧ t ≠ 10 ∧ t ≠ 11 ∧ t ≠ 20 ∧ t ≠ 23 := by
    refine ⟨?_, ?_, ?_, ?_, ?_, ?_, ?_, ?_, ?_, ?_, ?_⟩ <;> (rintro rfl; exact absurd h (by decide))
  simp [h2]
theorem mustV_bd (t : Nat) : -24 ≤ mustV t ∧ mustV t ≤ 23 := by
  cases h : once t with
  | false => rw [mustV_once h]; omega
  | true => rcases once_cases h with h | h | h | h | h | h | h | h | h | h | h | h | h | h <;> rw [h] <;> decide
theorem mustV_pos {t : Nat} (h : 0 < mustV t) : once (mustV t).toNat = true := by
  cases ho : once t with
  | false => rw [mustV_once ho] at h; omega
  | true => rcases once_cases ho with h2 | h2 | h2 | h2 | h2 | h2 | h2 | h2 | h2 | h2 | h2 | h2 | h2 | h2 <;> rw [h2] at h ⊢ <;> first | rfl | exact absurd h (by decide)
end Dy
theorem kn_mem {t : Nat} (h : Dy.once t = true) : (Value.int .u64 (t : Nat), Value.int .i64 (Dy.mustV t)) ∈ Dy.knownV := by
  rcases Dy.once_cases h with h | h | h | h | h | h | h | h | h | h | h | h | h | h <;> subst h <;> simp [Dy.knownV, Dy.kn, Dy.mustV]
theorem kn_none {t : Nat} (h : Dy.once t = false) (h1 : t ≠ 1) : ∀ p ∈ Dy.knownV, p.1 ≠ Value.int .u64 (t : Nat) := by
  intro p hp e
  have h2 : t ≠ 2 ∧ t ≠ 4 ∧ t ≠ 5 ∧ t ≠ 6 ∧ t ≠ 7 ∧ t ≠ 8 ∧ t ≠ 9 ∧ t ≠ 10 ∧ t ≠ 11 ∧ t ≠ 14 ∧ t ≠ 15 ∧ t ≠ 20 ∧ t ≠ 23 ∧ t ≠ 29 := by
    refine ⟨?_, ?_, ?_, ?_, ?_, ?_, ?_, ?_, ?_, ?_, ?_, ?_, ?_, ?_⟩ <;> (rintro rfl; exact absurd h (by decide))
  unfold Dy.knownV Dy.kn at hp
  simp only [List.mem_cons, List.not_mem_nil, or_false] at hp
  rcases hp with rfl | rfl | rfl | rfl | rfl | rfl | rfl | rfl | rfl | rfl | rfl | rfl | rfl | rfl | rfl <;> (simp at e; omega)
theorem look_known {w : World} {g t : Nat} (h : MapB w g (.int .u64) Dy.knownV) (h1 : t ≠ 1) :
    (Instr.lookup 129 (.map (some g)) (.int .u64 (t : Nat)) true).run Try.prog w = .ok (.tuple #[.int .i64 (Dy.mustV t), .bool (Dy.once t)]) w ∧
    (Instr.lookup 129 (.map (some g)) (.int .u64 (t : Nat)) false).run Try.prog w = .ok (.int .i64 (Dy.mustV t)) w := by
  cases ho : Dy.once t with
  | true => exact run_lookB_yes ht_known Try.underlying24 (by simp [Go.MapKept.IsKey]) h (kn_mem ho)
  | false =>
    rw [Dy.mustV_once ho]
    exact run_lookB_no ht_known Try.underlying24 (by simp [Go.MapKept.IsKey]) (zero_int w) h (kn_none ho h1)
theorem look_tagT {w : World} {B g : Nat} {d : Ds} {T : List (Nat × Nat)} (h : DsM w B g d T) {t : Nat} (ho : Dy.once t = true) :
    (Instr.lookup 107 (.map (some d.gm)) (.int .u64 (t : Nat)) true).run Try.prog w = .ok (.tuple #[.int .u64 ((Dy.val T t).getD 0 : Nat), .bool (Dy.val T t).isSome]) w := by
  cases hv : Dy.val T t with
  | none => exact (run_lookB_no Try.underlying107 Try.underlying24 (by simp [Go.MapKept.IsKey]) (zero_u64 w) h.tags (Dy.tagsV_no hv)).1
  | some v => exact (run_lookB_yes Try.underlying107 Try.underlying24 (by simp [Go.MapKept.IsKey]) h.tags (Dy.tagsV_yes hv ho)).1
section
variable {w w' : World} {B g : Nat} {d : Ds} {T T' : List (Nat × Nat)}
theorem DsM.put (h : DsM w B g d T) (hg : w.grownBy w' (some d.gm)) (hm : MapB w' d.gm (.int .u64) (Dy.tagsV T')) : DsM w' B g d T' := by
  obtain ⟨⟨es, clk, hmap, _⟩, _, _⟩ := h.tags
  have hne : ∀ k cs t fz, w.heap[k]? = some (.cells cs t fz) → k ≠ d.gm := by
    intro k cs t fz hk e
    rw [e, hmap] at hk
    cases hk
  refine ⟨h.hB, (hg.block g h.blk.lt (fun e => hne g _ _ _ h.blk (Option.some.inj e))).trans h.blk, h.b.keep ?_, h.segs.keep ?_, ?_, hm, h.tagsB⟩
  · intro p hp
    have := h.tagsB
    exact World.cell?_of_block (hg.block p.block (Nat.lt_of_lt_of_le hp h.sz) (fun e => by injection e with e; omega))
  · intro p hp
    have := h.tagsB
    exact World.cell?_of_block (hg.block p.block (Nat.lt_of_lt_of_le hp h.sz) (fun e => by injection e with e; omega))
  · refine ⟨h.list.1, h.list.2.imp id ?_⟩
    rintro ⟨q, cap, cur, e1, e2, e3, r⟩
    exact ⟨q, cap, cur, e1, e2, (hg.block q (Array.getElem?_eq_some_iff.1 e3).1 (fun e => hne q _ _ _ e3 (Option.some.inj e))).trans e3, r⟩
theorem DsM.same (h : DsM w B g d T) (ht : Dy.tagsV T' = Dy.tagsV T) : DsM w B g d T' := ⟨h.hB, h.blk, h.b, h.segs, h.list, by rw [ht]; exact h.tags, h.tagsB⟩
end
end Go.Proofs.Ytdminnhfgdoibaa
namespace Go.Proofs.Ytdminnhfgdoibaa
set_option linter.unusedVariables false
set_option linter.unusedSimpArgs false
open Go.RowKit

theorem entC_len (l : List (Nat × Nat)) : (entC l).length = l.length * 2 := by
  induction l with
  | nil => rfl
  | cons a r ih =>
    unfold entC at ih ⊢
    rw [List.flatMap_cons, List.length_append, ih]
    simp
    omega
theorem entC_at (l : List (Nat × Nat)) : ∀ (k : Nat) (e : Nat × Nat), l[k]? = some e → (entC l)[k * 2]? = some (.int .u64 (e.1 : Nat)) ∧ (entC l)[k * 2 + 1]? = some (.int .u64 (e.2 : Nat)) := by
  induction l with
  | nil => intro k e h; simp at h
  | cons a r ih =>
    intro k e h
    have e0 : entC (a :: r) = [.int .u64 (a.1 : Nat), .int .u64 (a.2 : Nat)] ++ entC r := rfl
    cases k with
    | zero =>
      simp at h
      subst h
      exact ⟨rfl, rfl⟩
    | succ k =>
      simp at h
      rw [e0, List.getElem?_append_right (by simp; omega), List.getElem?_append_right (by simp; omega)]
      have := ih k e h
      simp only [List.length_cons, List.length_nil]
      rw [show (k + 1) * 2 - (0 + 1 + 1) = k * 2 from by omega, show (k + 1) * 2 + 1 - (0 + 1 + 1) = k * 2 + 1 from by omega]
      exact this
theorem ent_at {w : World} {B n : Nat} {A : Option Addr} {l : List (Nat × Nat)} (h : Rd w B 2 A n (entC l)) {k : Nat} {e : Nat × Nat} (hk : l[k]? = some e) :
    ∃ b off, A = some ⟨b, off, none⟩ ∧ b < B ∧ w.cell? ⟨b, off + k * 2, none⟩ = some (.int .u64 (e.1 : Nat)) ∧ w.cell? ⟨b, off + k * 2 + 1, none⟩ = some (.int .u64 (e.2 : Nat)) := by
  have hc := entC_at l k e hk
  obtain ⟨b, off, ea, hb, hx⟩ := h.open_ (by
    intro e0
    have := hc.1
    rw [e0] at this
    simp at this)
  refine ⟨b, off, ea, hb, ?_, ?_⟩
  · exact hx _ _ hc.1
  · rw [Nat.add_assoc]
    exact hx _ _ hc.2
theorem tagsV_snoc (T : List (Nat × Nat)) (e : Nat × Nat) : Dy.tagsV (T ++ [e]) = Dy.tagsV T ++ if Dy.once e.1 = true then [(.int .u64 (e.1 : Nat), .int .u64 (e.2 : Nat))] else [] := by
  unfold Dy.tagsV
  rw [List.filter_append, List.map_append]
  congr 1
  by_cases h : Dy.once e.1 = true <;> simp [h]
theorem tagsV_take {L : List (Nat × Nat)} {k : Nat} {e : Nat × Nat} (he : L[k]? = some e) : Dy.tagsV (L.take (k + 1)) = Dy.tagsV (L.take k) ++ if Dy.once e.1 = true then [(.int .u64 (e.1 : Nat), .int .u64 (e.2 : Nat))] else [] := by
  rw [List.take_add_one, he]
  exact tagsV_snoc _ _
theorem DsM.len {w : World} {B g : Nat} {d : Ds} {T : List (Nat × Nat)} (h : DsM w B g d T) : d.k = d.L.length := by
  have := h.list.1
  rw [entC_len] at this
  omega
/-- One step of a range over a map that the loop does not write. -/
theorem next_below {P : Program} {w : World} {r gm clk : Nat} {seen : Array Nat} {es : Array MapEntry} (ty : TypeId) (hr : w.heap[r]? = some (.mapIter (some gm) clk seen clk)) (hm : w.heap[gm]? = some (.map es clk)) (hold : ∀ x ∈ es.toList, x.born < clk) :
    ((leftOf es seen).size = 0 ∧ (Instr.next (.pointer (some ⟨r, 0, none⟩)) false ty).run P w = .ok (.tuple #[.bool false]) w) ∨
    ∃ e ∈ (leftOf es seen).toList, ∃ w2 : World, Below r w w2 ∧ w2.heap[r]? = some (.mapIter (some gm) clk (seen.push e.born) clk) ∧ (Instr.next (.pointer (some ⟨r, 0, none⟩)) false ty).run P w = .ok (.tuple #[.bool true, e.key, e.val]) w2 := by
  rcases run_next_at (P := P) w ty r gm clk clk seen es clk hr hm hold (Nat.le_refl _) with h | ⟨e, he, w1, h1, hrun⟩
  · exact .inl h
  · have hlt : r < w.heap.size := (Array.getElem?_eq_some_iff.1 hr).1
    have hb1 : Below r w w1 := by
      rcases h1 with rfl | rfl
      · exact Below.refl _ _
      · exact below_drew' (Below.refl _ _)
    have hlt1 : r < w1.heap.size := Nat.lt_of_lt_of_le hlt hb1.size
    refine .inr ⟨e, he, Go.ChangeMaps.setBlock w1 r (.mapIter (some gm) clk (seen.push e.born) clk), ⟨hb1.os, hb1.tape, hb1.output, by simpa [Go.ChangeMaps.setBlock] using hb1.size, ?_⟩, ?_, hrun⟩
    · intro k hk
      rw [← hb1.block k hk]
      unfold Go.ChangeMaps.setBlock
      dsimp only
      rw [Array.getElem?_setIfInBounds, if_neg (by omega)]
    · unfold Go.ChangeMaps.setBlock
      dsimp only
      rw [Array.getElem?_setIfInBounds, if_pos rfl, if_pos hlt1]
theorem es_tag {L : List (Nat × Nat)} {es : Array MapEntry} (h : es.toList.map (fun e => (e.key, e.val)) = Dy.tagsV L) {e : MapEntry} (he : e ∈ es.toList) : ∃ x ∈ L, Dy.once x.1 = true ∧ e.key = .int .u64 (x.1 : Nat) ∧ e.val = .int .u64 (x.2 : Nat) := by
  have hm : (e.key, e.val) ∈ Dy.tagsV L := by rw [← h]; exact List.mem_map.2 ⟨e, he, rfl⟩
  unfold Dy.tagsV at hm
  obtain ⟨x, hx, he2⟩ := List.mem_map.1 hm
  obtain ⟨h1, h2⟩ := List.mem_filter.1 hx
  injection he2 with h3 h4
  exact ⟨x, h1, h2, h3.symm, h4.symm⟩
theorem tag_es {L : List (Nat × Nat)} {es : Array MapEntry} (h : es.toList.map (fun e => (e.key, e.val)) = Dy.tagsV L) {x : Nat × Nat} (hx : x ∈ L) (ho : Dy.once x.1 = true) : ∃ e ∈ es.toList, e.key = .int .u64 (x.1 : Nat) := by
  have hm : (Value.int .u64 (x.1 : Nat), Value.int .u64 (x.2 : Nat)) ∈ Dy.tagsV L := by
    unfold Dy.tagsV
    exact List.mem_map.2 ⟨x, List.mem_filter.2 ⟨hx, ho⟩, rfl⟩
  rw [← h] at hm
  obtain ⟨e, he, h2⟩ := List.mem_map.1 hm
  injection h2 with h3 h4
  exact ⟨e, he, h3⟩
/-- What check answers. -/
def CheckE (B g : Nat) (d : Ds) (w : World) (e : Ending) (w' : World) : Prop := e = .returned (.int .i64 (Dy.may d.L)) ∧ (Dy.may d.L = 0 → DsM w' B g d d.L) ∧ Below B w w'
theorem check_bad {B g : Nat} {d : Ds} {w w' : World} {j : Nat} {e : Nat × Nat} (he : d.L[j]? = some e) (h : Dy.okE (d.L.take j) e = false) (hb : Below B w w') : CheckE B g d w (.returned (.int .i64 25)) w' := by
  have hm : Dy.may d.L = 25 := by unfold Dy.may; rw [if_pos (Dy.fits_bad he h)]
  refine ⟨by rw [hm], fun h0 => ?_, hb⟩
  rw [hm] at h0
  exact absurd h0 (by decide)
/-- The loop's relation. -/
structure ChkR (w wr : World) (B g gkn : Nat) (d : Ds) (j : Nat) : Prop where
  ok : ∀ i e, i < j → d.L[i]? = some e → Dy.okE (d.L.take i) e = true
  ds : DsM wr B g d (d.L.take j)
  kn : MapB wr gkn (.int .u64) Dy.knownV
  b : Below B w wr
section
variable {w wr w2 : World} {B g gkn : Nat} {d : Ds} {j : Nat} {e : Nat × Nat}
theorem ChkR.keep (h : ChkR w wr B g gkn d j) (hb : Below wr.heap.size wr w2) : ChkR w w2 B g gkn d j :=
  ⟨h.ok, h.ds.belowSz hb, h.kn.belowSz hb, h.b.trans (hb.mono h.ds.sz)⟩
theorem ChkR.next (h : ChkR w wr B g gkn d j) (he : d.L[j]? = some e) (ho : Dy.once e.1 = false) : ChkR w wr B g gkn d (j + 1) := by
  refine ⟨?_, h.ds.same ?_, h.kn, h.b⟩
  · intro i x hi hx
    by_cases hij : i < j
    · exact h.ok i x hij hx
    · obtain rfl : i = j := by omega
      rw [he] at hx
      cases hx
      unfold Dy.okE
      rw [ho]
      rfl
  · rw [tagsV_take he, ho]
    simp
theorem ChkR.put (h : ChkR w wr B g gkn d j) (hgk : d.gm < gkn) (he : d.L[j]? = some e) (hok : Dy.okE (d.L.take j) e = true) (ho : Dy.once e.1 = true) (hm : MapB w2 d.gm (.int .u64) (Dy.tagsV (d.L.take j) ++ [(.int .u64 (e.1 : Nat), .int .u64 (e.2 : Nat))])) (hg : wr.grownBy w2 (some d.gm)) : ChkR w w2 B g gkn d (j + 1) := by
  refine ⟨?_, h.ds.put hg ?_, h.kn.keep (hg.block _ h.kn.lt (fun e => by have := Option.some.inj e; omega)), h.b.trans ((Below.refl B wr).grown hg h.ds.sz (fun k hk => by have := Option.some.inj hk; have := h.ds.tagsB; omega))⟩
  · intro i x hi hx
    by_cases hij : i < j
    · exact h.ok i x hij hx
    · obtain rfl : i = j := by omega
      rw [he] at hx
      cases hx
      exact hok
  · rw [tagsV_take he, if_pos ho]
    exact hm
end
set_option maxRecDepth 100000 in
set_option maxHeartbeats 4000000 in
theorem dcheck_any (B g : Nat) (d : Ds) (w : World) (hd : DsM w B g d []) (ho : DsOk d) (hkm : d.k ≤ 4294967296) :
    Calls Try.prog 53 #[.pointer (some ⟨g, 0, none⟩)] w (CheckE B g d w) := by
  have KK := hide (known_any w)
  have hlen := hd.len
  have hgmw := hd.tags.lt
  obtain ⟨kk, hkk⟩ : ∃ k, d.k = k := ⟨_, rfl⟩
  obtain ⟨Al, hAl⟩ : ∃ k, d.Al = k := ⟨_, rfl⟩
  obtain ⟨cl, hcl⟩ : ∃ k, d.cl = k := ⟨_, rfl⟩
  obtain ⟨gm, hgm⟩ : ∃ k, d.gm = k := ⟨_, rfl⟩
  have hcells : ∀ wr j, DsM wr B g d (d.L.take j) → wr.cell? ⟨g, 5, none⟩ = some (.slice Al kk cl) ∧ wr.cell? ⟨g, 6, none⟩ = some (.map (some gm)) := by
    intro wr j h
    obtain ⟨-, -, -, -, -, h5, h6⟩ := h.cells
    rw [hAl, hkk, hcl] at h5
    rw [hgm] at h6
    exact ⟨h5, h6⟩
  have hents : ∀ wr j e, DsM wr B g d (d.L.take j) → d.L[j]? = some e → ∃ b off, Al = some ⟨b, off, none⟩ ∧ wr.cell? ⟨b, off + j * 2, none⟩ = some (.int .u64 (e.1 : Nat)) ∧ wr.cell? ⟨b, off + j * 2 + 1, none⟩ = some (.int .u64 (e.2 : Nat)) := by
    intro wr j e h he
    obtain ⟨b, off, h1, _, h2⟩ := ent_at (Rd.of_own h.list) he
    exact ⟨b, off, hAl ▸ h1, h2⟩
  rw [hkk] at hlen hkm
  rw [hgm] at hgmw
  obtain ⟨x5, x6⟩ := hcells w 0 (by simpa using hd)
  have Hlen := hide hlen
  have Hcells := hide hcells
  have Hents := hide hents
  have Hd := hide hd
  have Ho := hide ho
  have Hgm := hide hgm
  clear hlen hcells hents hd ho hgm hkk hAl hcl
  go_enter Try.func53, Try.ntmps53
  go_wp2_with fail
  refine (unhide KK).mono ?_
  rintro e w1 ⟨gkn, rfl, hkn, hgk, hb1⟩
  have HR1 : Hid (ChkR w w1 B g gkn d 0) := hide ⟨fun i e hi => by omega, by simpa using (unhide Hd).belowSz hb1, hkn, hb1.mono (unhide Hd).sz⟩
  have hgkn : gm < gkn := by omega
  obtain ⟨y5, y6⟩ := (unhide Hcells) w1 0 (unhide HR1).ds
  clear x5 x6 hkn hb1 KK Hd
  go_wp2_with fail
  clear y5 y6
  go_loopg [4, 21] kk (fun gk nv iv wr => ∃ j : Nat, gk = kk - j ∧ j ≤ kk ∧ iv = .int .i64 j ∧ nv = .int .i64 (Dy.many (d.L.take j) : Nat) ∧ ChkR w wr B g gkn d j)
  case atStart => exact ⟨0, by omega, Nat.zero_le _, rfl, rfl, unhide HR1⟩
  case round =>
  obtain ⟨j, hgk2, hj, rfl, rfl, hr⟩ := hrel
  have HR := hide hr
  clear hr HR1
  by_cases hlt : j < kk
  case neg =>
    obtain rfl : j = kk := by omega
    have ige : ¬ (j : Int) < (j : Int) := by omega
    rename World => w5
    have hR := unhide HR
    have htk : d.L.take j = d.L := by rw [List.take_of_length_le]; rw [← unhide Hlen]; exact Nat.le_refl _
    have hds := hR.ds
    obtain ⟨-, z6⟩ := (unhide Hcells) w5 j hds
    rw [htk] at hds ⊢
    obtain ⟨⟨es, clk, hmap, hes, hold, hnd⟩, -, -⟩ := hds.tags
    rw [unhide Hgm] at hmap
    have hrg := run_range_map (P := Try.prog) w5 107 24 24 gm es clk Try.underlying107 hmap
    have hgmr : gm < w5.heap.size := (Array.getElem?_eq_some_iff.1 hmap).1
    have hmany : Dy.many d.L ≤ 4294967296 := Nat.le_trans (Dy.many_le _) (by rw [← unhide Hlen]; exact hkm)
    obtain ⟨mn, hmn⟩ : ∃ m, Dy.many d.L = m := ⟨_, rfl⟩
    rw [hmn] at hmany ⊢
    have Hds := hide hds
    have Hmap := hide hmap
    have Hes := hide hes
    have Hold := hide hold
    have Hnd := hide hnd
    have Hok := hide hR.ok
    have Hkn := hide hR.kn
    have Hb := hide hR.b
    have Hmn := hide hmn
    clear HR hR hds hmap hes hold hnd hmn hgk2 Hents Ho
    go_wp2_with fail
    clear hrg z6 ige
    go_loopg [] (leftOf es #[]).size (fun gk w' => ∃ seen : Array Nat, gk = (leftOf es seen).size ∧ w'.heap[w5.heap.size]? = some (.mapIter (some gm) clk seen clk) ∧ Below w5.heap.size w5 w' ∧ ∀ x ∈ es.toList, seen.contains x.born = true → ∀ t : Nat, x.key = .int .u64 (t : Nat) → Dy.okT d.L t = true)
    case atStart => exact ⟨#[], rfl, heap_alloc_new _ _, (Below.refl _ _).alloc (Nat.le_refl _) _, fun x _ h => by simp at h⟩
    case round =>
    obtain ⟨seen, hgk3, hit, hbq, hno⟩ := hrel
    have hmq := (hbq.block gm hgmr).trans (unhide Hmap)
    have law := fun ty => next_below (P := Try.prog) ty hit hmq (unhide Hold)
    rcases law 0 with ⟨h0, hrun⟩ | ⟨x, hx, w6, hb6, hi6, hrun⟩
    · have hnx : ∀ ty, (Instr.next (.pointer (some ⟨w5.heap.size, 0, none⟩)) false ty).run Try.prog wr = _ := fun _ => hrun
      have hfits : Dy.fits d.L = true := by
        refine Dy.fits_good (fun k e hk => (unhide Hok) k e ?_ hk) (fun x hx hxo => ?_)
        · have := (List.getElem?_eq_some_iff.1 hk).1
          have := unhide Hlen
          omega
        · obtain ⟨y, hy, hk⟩ := tag_es (unhide Hes) hx hxo
          exact hno y hy (all_seen es seen h0 y hy) _ hk
      have hmay : Dy.may d.L = if 8 < mn then 12 else 0 := by
        unfold Dy.may
        rw [hfits, unhide Hmn]
        rfl
      have Hmay := hide hmay
      have hfin : Below B w wr := (unhide Hb).trans (hbq.mono (unhide Hds).sz)
      have Hfin := hide hfin
      have Hds2 := hide ((unhide Hds).belowSz hbq)
      clear law hno hfits hmay hfin hit hmq hbq Hes Hold Hnd Hok
      by_cases h8 : 8 < mn
      · have h9 : (8 : Int) < (mn : Int) := by omega
        go_wp2_with fail
        go_ret
        have hm := unhide Hmay
        rw [if_pos h8] at hm
        exact ⟨by rw [hm]; rfl, fun h => by rw [hm] at h; exact absurd h (by decide), unhide Hfin⟩
      · have h9 : ¬ (8 : Int) < (mn : Int) := by omega
        go_wp2_with fail
        go_ret
        have hm := unhide Hmay
        rw [if_neg h8] at hm
        exact ⟨by rw [hm]; rfl, fun _ => unhide Hds2, unhide Hfin⟩
    · obtain ⟨⟨t, v⟩, hxm, hxo, hk, hv⟩ := es_tag (unhide Hes) (mem_left hx).1
      dsimp only at hxo hk hv
      have hshr := left_shrinks es seen x hx
      have hbw6 := hbq.trans hb6
      have hm6 := (hbw6.block gm hgmr).trans (unhide Hmap)
      have hen := run_entry_at (P := Try.prog) w6 w5.heap.size gm clk seen es clk x hi6 hm6 (mem_left hx).1 (unhide Hnd)
      rw [hk, hv] at hrun hen
      have hnx : ∀ ty, (Instr.next (.pointer (some ⟨w5.heap.size, 0, none⟩)) false ty).run Try.prog wr = _ := fun _ => hrun
      have hds6 := (unhide Hds).belowSz hbw6
      have hkn6 := (unhide Hkn).belowSz hbw6
      have ht1 : t ≠ 1 := by rintro rfl; exact absurd hxo (by decide)
      have hlk := (look_known hkn6 ht1).2
      have hlt6 := fun a (h : Dy.once a = true) => (look_tag hds6 (t := a) h).1
      rw [unhide Hgm] at hlt6
      obtain ⟨-, z6⟩ := (unhide Hcells) w6 j (by rw [htk]; exact hds6)
      have hmp := Dy.mustV_pos (t := t)
      have hmb := Dy.mustV_bd t
      have hnext : Dy.okT d.L t = true → ∀ y ∈ es.toList, (seen.push x.born).contains y.born = true → ∀ t2 : Nat, y.key = .int .u64 (t2 : Nat) → Dy.okT d.L t2 = true := by
        intro ho y hy hc t2 hk2
        rw [contains_push] at hc
        rcases Bool.or_eq_true _ _ ▸ hc with h1 | h1
        · exact hno y hy h1 t2 hk2
        · have : y = x := born_inj (unhide Hnd) hy (mem_left hx).1 (beq_iff_eq.1 h1)
          subst this
          rw [hk] at hk2
          have e2 : ((t : Nat) : Int) = ((t2 : Nat) : Int) := by injection hk2
          have : t = t2 := by omega
          rw [← this]
          exact ho
      have hbad : Dy.okT d.L t = false → CheckE B g d w (.returned (.int .i64 25)) w6 := by
        intro h
        have hm : Dy.may d.L = 25 := by unfold Dy.may; rw [if_pos (Dy.fits_pair hxm hxo h)]
        refine ⟨by rw [hm], fun h0 => ?_, (unhide Hb).trans (hbw6.mono (unhide Hds).sz)⟩
        rw [hm] at h0
        exact absurd h0 (by decide)
      have hokT : Dy.okT d.L t = (decide (Dy.mustV t ≤ 0) || (Dy.val d.L (Dy.mustV t).toNat).isSome) := rfl
      obtain ⟨u, hu⟩ : ∃ x, Dy.mustV t = x := ⟨_, rfl⟩
      rw [hu] at hlk hmp hmb hokT
      have Hnext := hide hnext
      have Hbad := hide hbad
      have Hbw6 := hide hbw6
      have Hi6 := hide hi6
      have Hshr := hide hshr
      have Hgk3 := hide hgk3
      clear law hx hnext hbad hbw6 hi6 hshr hgk3 hds6 hkn6 hm6 hb6 hit hmq hbq hno hk hv hu hxm Hes Hold Hnd Hok Hcells Hds Hkn Hb Hmn
      by_cases hu0 : 0 < u
      case neg =>
        have hok : Dy.okT d.L t = true := by rw [hokT, decide_eq_true (show u ≤ 0 by omega)]; rfl
        have Hok2 := hide hok
        clear hok hokT hlt6 z6 Hbad
        go_wp2_with fail
        go_roundg (leftOf es (seen.push x.born)).size
        case measure => rw [unhide Hgk3]; exact unhide Hshr
        case rel => exact ⟨seen.push x.born, rfl, unhide Hi6, unhide Hbw6, (unhide Hnext) (unhide Hok2)⟩
      obtain ⟨a, rfl⟩ : ∃ a : Nat, u = (a : Int) := ⟨u.toNat, by omega⟩
      have hlt7 := hlt6 a (hmp hu0)
      rw [Int.toNat_natCast] at hokT
      obtain ⟨ov, hov⟩ : ∃ o, Dy.val d.L a = o := ⟨_, rfl⟩
      rw [hov] at hlt7 hokT
      have hnu : decide ((a : Int) ≤ 0) = false := by simp; omega
      rw [hnu, Bool.false_or] at hokT
      clear hlt6 hmp hov hnu
      cases ov with
      | none =>
        have hb := (unhide Hbad) hokT
        have Hb2 := hide hb
        clear hb hokT Hbad Hnext
        go_wp2_with fail
        go_ret
        exact unhide Hb2
      | some z =>
        have Hok2 := hide hokT
        clear hokT Hbad
        go_wp2_with fail
        go_roundg (leftOf es (seen.push x.born)).size
        case measure => rw [unhide Hgk3]; exact unhide Hshr
        case rel => exact ⟨seen.push x.born, rfl, unhide Hi6, unhide Hbw6, (unhide Hnext) (unhide Hok2)⟩
  have ilt : (j : Int) < (kk : Int) := by omega
  obtain ⟨⟨t, v⟩, hej⟩ : ∃ e, d.L[j]? = some e := ⟨_, List.getElem?_eq_getElem (by rw [← unhide Hlen]; exact hlt)⟩
  obtain ⟨b1, o1, hA1, c0, c1⟩ := (unhide Hents) wr j _ (unhide HR).ds hej
  subst hA1
  have hmt := Dy.many_take hej
  have hml : Dy.many (d.L.take j) ≤ j := Nat.le_trans (Dy.many_le _) (by rw [List.length_take]; omega)
  obtain ⟨ht64, hv64⟩ := (unhide Ho).ent _ (List.mem_of_getElem? hej)
  obtain ⟨mj, hmj⟩ : ∃ m, Dy.many (d.L.take j) = m := ⟨_, rfl⟩
  rw [hmj] at hmt hml
  rw [hmj]
  dsimp only at c0 c1 ht64 hv64 hmt
  have HE : Hid (Blk (wr.alloc (.cells #[.int .u64 (t : Nat), .int .u64 (v : Nat)] 114)) wr.heap.size 114 [.int .u64 (t : Nat), .int .u64 (v : Nat)]) := hide (Blk.new wr 114 [.int .u64 (t : Nat), .int .u64 (v : Nat)])
  have HR2 : Hid (ChkR w (wr.alloc (.cells #[.int .u64 (t : Nat), .int .u64 (v : Nat)] 114)) B g gkn d j) := hide ((unhide HR).keep ((Below.refl _ _).alloc (Nat.le_refl _) _))
  have Hej := hide hej
  clear HR hej hmj
  by_cases ht1 : t = 1
  case pos =>
    subst ht1
    have hmt2 : Dy.many (d.L.take (j + 1)) = mj + 1 := hmt
    have Hmt := hide hmt2
    clear hmt hmt2
    go_wp2_with fail
    go_roundg (kk - (j + 1))
    case measure => omega
    case rel => exact ⟨j + 1, rfl, by omega, by go_num, by rw [unhide Hmt]; go_num, (unhide HR2).next (unhide Hej) rfl⟩
  have n1 : ¬ (t : Int) = 1 := by omega
  have hlk := (look_known (t := t) (unhide HR2).kn ht1).1
  have hmt2 : Dy.many (d.L.take (j + 1)) = mj := by rw [hmt, if_neg ht1, Nat.add_zero]
  have Hmt := hide hmt2
  have hmb := Dy.mustV_bd t
  clear hmt hmt2
  cases hon : Dy.once t with
  | false =>
    rw [hon] at hlk
    go_wp2_with fail
    go_roundg (kk - (j + 1))
    case measure => omega
    case rel => exact ⟨j + 1, rfl, by omega, by go_num, by rw [unhide Hmt], (unhide HR2).next (unhide Hej) hon⟩
  | true =>
  rw [hon] at hlk
  have htl := look_tagT (unhide HR2).ds hon
  rw [unhide Hgm] at htl
  obtain ⟨z5, z6⟩ := (unhide Hcells) _ j (unhide HR2).ds
  obtain ⟨T, hT⟩ : ∃ T, d.L.take j = T := ⟨_, rfl⟩
  obtain ⟨ov, hov⟩ : ∃ o, Dy.val T t = o := ⟨_, rfl⟩
  rw [hT, hov] at htl
  obtain ⟨W, hW⟩ : ∃ x, wr.alloc (.cells #[.int .u64 (t : Nat), .int .u64 (v : Nat)] 114) = x := ⟨_, rfl⟩
  obtain ⟨r, hr⟩ : ∃ x, wr.heap.size = x := ⟨_, rfl⟩
  have hE := unhide HE
  have hR2 := unhide HR2
  rw [hr, hW] at hE
  rw [hW] at hR2 htl z5 z6
  have HSK : ∀ w', ChkR w w' B g gkn d j → Blk w' r 114 [.int .u64 (t : Nat), .int .u64 (v : Nat)] → (ChkR w w' B g gkn d j ∧ Blk w' r 114 [.int .u64 (t : Nat), .int .u64 (v : Nat)] ∧ w'.cell? ⟨g, 6, none⟩ = some (.map (some gm)) ∧ w'.cell? ⟨r, 0, none⟩ = some (.int .u64 (t : Nat)) ∧ (Instr.lookup 107 (.map (some gm)) (.int .u64 (t : Nat)) true).run Try.prog w' = .ok (.tuple #[.int .u64 (ov.getD 0 : Nat), .bool ov.isSome]) w') := by
    intro w' hR hE
    have h3 := look_tagT hR.ds hon
    rw [unhide Hgm, hT, hov] at h3
    exact ⟨hR, hE, ((unhide Hcells) _ j hR.ds).2, hE.cell (i := 0) rfl, h3⟩
  have HSK' := hide HSK
  have HR3 := hide hR2
  have HE3 := hide hE
  have zt := hE.cell (i := 0) rfl
  rw [hW] at hlk
  clear HSK HR2 HE hE hR2 htl z5 z6
  go_wp2_with fail
  clear hW hr hlk zt
  refine wp_region_held_drew (S := fun w' => ChkR w w' B g gkn d j ∧ Blk w' r 114 [.int .u64 (t : Nat), .int .u64 (v : Nat)] ∧ w'.cell? ⟨g, 6, none⟩ = some (.map (some gm)) ∧ w'.cell? ⟨r, 0, none⟩ = some (.int .u64 (t : Nat)) ∧ (Instr.lookup 107 (.map (some gm)) (.int .u64 (t : Nat)) true).run Try.prog w' = .ok (.tuple #[.int .u64 (ov.getD 0 : Nat), .bool ov.isSome]) w') (by kernel_rfl) ((unhide HSK') _ ((unhide HR3).keep (below_drew' (Below.refl _ _))) ((unhide HE3).drew)) (fun HS0 => ?_)
  refine takeD (i := 0) (d := some 40) (v := ?_) rfl rfl (by kernel_rfl) (by kernel_rfl) (by kernel_rfl) (fun _ _ _ h => h) (Or.inl ⟨by rfl, ?y0⟩) HS0 ?_
  case y0 => (intro w' hSw; (try dsimp only at hSw); go_simp; (try with_reducible rfl))
  simp only [Act.put, List.setIfInBounds_toArray, List.set_cons_zero, List.set_cons_succ]
  refine takeD (i := 1) (d := some 41) (v := ?_) rfl rfl (by kernel_rfl) (by kernel_rfl) (by kernel_rfl) (fun _ _ _ h => h) (Or.inl ⟨by rfl, ?y1⟩) HS0 ?_
  case y1 => (intro w' hSw; (try dsimp only at hSw); go_simp; (try with_reducible rfl))
  simp only [Act.put, List.setIfInBounds_toArray, List.set_cons_zero, List.set_cons_succ]
  refine takeD (i := 2) (d := some 42) (v := ?_) rfl rfl (by kernel_rfl) (by kernel_rfl) (by kernel_rfl) (fun _ _ _ h => h) (Or.inl ⟨by rfl, ?y2⟩) HS0 ?_
  case y2 => (intro w' hSw; (try dsimp only at hSw); go_simp; (try with_reducible rfl))
  simp only [Act.put, List.setIfInBounds_toArray, List.set_cons_zero, List.set_cons_succ]
  refine takeD (i := 3) (d := some 43) (v := ?_) rfl rfl (by kernel_rfl) (by kernel_rfl) (by kernel_rfl) (fun _ _ _ h => h) (Or.inl ⟨by rfl, ?y3⟩) HS0 ?_
  case y3 => (intro w' hSw; (try dsimp only at hSw); go_simp; (try with_reducible rfl))
  simp only [Act.put, List.setIfInBounds_toArray, List.set_cons_zero, List.set_cons_succ]
  refine takeD (i := 4) (d := some 44) (v := ?_) rfl rfl (by kernel_rfl) (by kernel_rfl) (by kernel_rfl) (fun _ _ _ h => h) (Or.inl ⟨by rfl, ?y4⟩) HS0 ?_
  case y4 => (intro w' hSw; (try dsimp only at hSw); go_simp; (try with_reducible rfl))
  simp only [Act.put, List.setIfInBounds_toArray, List.set_cons_zero, List.set_cons_succ]
  refine takeD (i := 5) (d := some 45) (v := ?_) rfl rfl (by kernel_rfl) (by kernel_rfl) (by kernel_rfl) (fun _ _ _ h => h) (Or.inl ⟨by rfl, ?y5⟩) HS0 ?_
  case y5 => (intro w' hSw; (try dsimp only at hSw); go_simp; (try with_reducible rfl))
  simp only [Act.put, List.setIfInBounds_toArray, List.set_cons_zero, List.set_cons_succ]
  refine takeD (i := 6) (d := some 46) (v := ?_) rfl rfl (by kernel_rfl) (by kernel_rfl) (by kernel_rfl) (fun _ _ _ h => h) (Or.inl ⟨by rfl, ?y6⟩) HS0 ?_
  case y6 => (intro w' hSw; (try dsimp only at hSw); go_simp; (try with_reducible rfl))
  simp only [Act.put, List.setIfInBounds_toArray, List.set_cons_zero, List.set_cons_succ]
  refine takeD (i := 7) (d := some 39) (v := ?_) rfl rfl (by kernel_rfl) (by kernel_rfl) (by kernel_rfl) (fun _ _ _ h => h) (Or.inl ⟨by rfl, ?y7⟩) HS0 ?_
  case y7 => (intro w' hSw; (try dsimp only at hSw); go_simp; (try with_reducible rfl))
  simp only [Act.put, List.setIfInBounds_toArray, List.set_cons_zero, List.set_cons_succ]
  refine takeD (i := 8) (d := some 47) (v := ?_) rfl rfl (by kernel_rfl) (by kernel_rfl) (by kernel_rfl) (fun _ _ _ h => h) (Or.inl ⟨by rfl, ?y8⟩) HS0 ?_
  case y8 => (intro w' hSw; (try dsimp only at hSw); go_simp; (try with_reducible rfl))
  simp only [Act.put, List.setIfInBounds_toArray, List.set_cons_zero, List.set_cons_succ]
  refine takeD (i := 9) (d := some 48) (v := ?_) rfl rfl (by kernel_rfl) (by kernel_rfl) (by kernel_rfl) (fun _ _ _ h => h) (Or.inl ⟨by rfl, ?y9⟩) HS0 ?_
  case y9 => (intro w' hSw; (try dsimp only at hSw); go_simp; (try with_reducible rfl))
  simp only [Act.put, List.setIfInBounds_toArray, List.set_cons_zero, List.set_cons_succ]
  refine takeD (i := 10) (d := some 9) (v := ?_) rfl rfl (by kernel_rfl) (by kernel_rfl) (by kernel_rfl) (fun _ _ _ h => h) (Or.inl ⟨by rfl, ?y10⟩) HS0 ?_
  case y10 => (intro w' hSw; (try dsimp only at hSw); go_simp; (try with_reducible rfl))
  simp only [Act.put, List.setIfInBounds_toArray, List.set_cons_zero, List.set_cons_succ]
  refine takeD (i := 11) (d := some 10) (v := ?_) rfl rfl (by kernel_rfl) (by kernel_rfl) (by kernel_rfl) (fun _ _ _ h => h) (Or.inl ⟨by rfl, ?y11⟩) HS0 ?_
  case y11 => (intro w' hSw; (try dsimp only at hSw); go_simp; (try with_reducible rfl))
  simp only [Act.put, List.setIfInBounds_toArray, List.set_cons_zero, List.set_cons_succ]
  refine wpAnyH_done (by kernel_rfl) ?_ _
  have HR4 : Hid (ChkR w W.drew B g gkn d j) := hide ((unhide HR3).keep (below_drew' (Below.refl _ _)))
  have HE4 : Hid (Blk W.drew r 114 [.int .u64 (t : Nat), .int .u64 (v : Nat)]) := hide ((unhide HE3).drew)
  have hbad : (ov.isSome = true ∨ (Dy.mustV t < 0 ∧ ¬ (v : Int) = -Dy.mustV t)) → Dy.okE (d.L.take j) (t, v) = false := by
    intro h
    unfold Dy.okE
    dsimp only
    rw [hon, hT, hov]
    rcases h with h | ⟨h1, h2⟩
    · obtain ⟨x, rfl⟩ := Option.isSome_iff_exists.1 h
      rfl
    · have h3 : decide (0 ≤ Dy.mustV t) = false := by simp; omega
      rw [h3, decide_eq_false h2]
      simp
  have hgood : ov = none → (0 ≤ Dy.mustV t ∨ (v : Int) = -Dy.mustV t) → Dy.okE (d.L.take j) (t, v) = true := by
    intro h h2
    unfold Dy.okE
    dsimp only
    rw [hon, hT, hov, h]
    rcases h2 with h2 | h2
    · rw [decide_eq_true h2]; rfl
    · rw [decide_eq_true h2]; simp
  have Hbad := hide hbad
  have Hgood := hide hgood
  have hnone : ov = none → ∀ p ∈ Dy.tagsV T, p.1 ≠ Value.int .u64 (t : Nat) := fun h => Dy.tagsV_no (hov.trans h)
  rw [← hT] at hnone
  have Hnone := hide hnone
  clear hbad hgood hnone HR3 HE3 HS0 HSK'
  obtain ⟨u, hu⟩ : ∃ x, Dy.mustV t = x := ⟨_, rfl⟩
  rw [hu] at hmb ⊢
  have Hu := hide hu
  clear hu hov hT
  have zv := (unhide HE4).cell (i := 1) rfl
  cases ov with
  | some x =>
    have hok := (unhide Hbad) (.inl rfl)
    clear Hbad Hgood Hnone Hu
    go_wp2_with fail
    go_ret
    exact check_bad (unhide Hej) hok (unhide HR4).b
  | none =>
  by_cases hu0 : u < 0
  case neg =>
    have hok := (unhide Hgood) rfl (.inl (by have := unhide Hu; omega))
    have Hok := hide hok
    clear Hbad Hgood Hu hok zv
    go_wp2_with fail
    obtain ⟨-, q6⟩ := (unhide Hcells) _ j (unhide HR4).ds
    have q0 := (unhide HE4).cell (i := 0) rfl
    have q1 := (unhide HE4).cell (i := 1) rfl
    obtain ⟨V, hV⟩ : ∃ x, W.drew = x := ⟨_, rfl⟩
    have hR4 := unhide HR4
    rw [hV] at q0 q1 q6 hR4
    have HR5 := hide hR4
    have hmu : MapB V.drew gm (.int .u64) (Dy.tagsV (d.L.take j)) := by
      have := hR4.ds.tags
      rw [unhide Hgm] at this
      exact this.belowSz (below_drew' (Below.refl _ _))
    rw [hV]
    have q6' : World.cell? { heap := V.heap, tape := V.tape, drawn := V.drawn + 1, os := V.os, output := V.output } ⟨g, 6, none⟩ = some (.map (some gm)) := q6
    have q0' : World.cell? { heap := V.heap, tape := V.tape, drawn := V.drawn + 1, os := V.os, output := V.output } ⟨r, 0, none⟩ = some (.int .u64 (t : Nat)) := q0
    have q1' : World.cell? { heap := V.heap, tape := V.tape, drawn := V.drawn + 1, os := V.os, output := V.output } ⟨r, 1, none⟩ = some (.int .u64 (v : Nat)) := q1
    have Hmu := hide hmu
    clear hmu hR4 HR4 HE4 hV
    go_still_tail 8, (by kernel_rfl)
    change wpList _ _ _ _ _ V.drew
    refine wpList_updB (x := .int .u64 (t : Nat)) (g := gm) rfl _ _ _ rfl Try.underlying107 Try.underlying24 (by simp [Go.MapKept.IsKey]) rfl rfl rfl (unhide Hmu) ((unhide Hnone) (by first | trivial | rfl)) ?_
    intro V2 hm2 hg2 hs2
    have hR6 : ChkR w V2 B g gkn d (j + 1) := ((unhide HR5).keep (below_drew' (Below.refl _ _))).put (by rw [unhide Hgm]; exact hgkn) (unhide Hej) (unhide Hok) hon (by rw [unhide Hgm]; exact hm2) (by rw [unhide Hgm]; exact hg2)
    have HR6 := hide hR6
    clear hm2 hg2 hs2 hR6 HR5 Hmu Hnone q0' q1' q6' q0 q1 q6
    go_wp2_with fail
    go_roundg (kk - (j + 1))
    case measure => omega
    case rel => exact ⟨j + 1, rfl, by omega, by go_num, by rw [unhide Hmt], unhide HR6⟩
  obtain ⟨a, rfl⟩ : ∃ a : Nat, u = -(a : Int) := ⟨u.natAbs, by omega⟩
  have ha : a ≤ 24 := by omega
  by_cases hva : v = a
  case neg =>
    have hok := (unhide Hbad) (.inr ⟨by have := unhide Hu; omega, by have := unhide Hu; omega⟩)
    have hva2 : ¬ (v : Int) = (a : Int) := by omega
    have hva3 : ((v : Int) != (a : Int)) = true := by simpa using hva2
    clear Hbad Hgood Hnone Hu
    go_wp2_with fail
    go_ret
    exact check_bad (unhide Hej) hok (unhide HR4).b
  subst hva
  have hok := (unhide Hgood) rfl (.inr (by have := unhide Hu; omega))
  have Hok := hide hok
  have hva3 : ((v : Int) != (v : Int)) = false := by simp
  clear Hbad Hgood Hu hok
  go_wp2_with fail
  obtain ⟨-, q6⟩ := (unhide Hcells) _ j (unhide HR4).ds
  have q0 := (unhide HE4).cell (i := 0) rfl
  have q1 := (unhide HE4).cell (i := 1) rfl
  obtain ⟨V, hV⟩ : ∃ x, W.drew = x := ⟨_, rfl⟩
  have hR4 := unhide HR4
  rw [hV] at q0 q1 q6 hR4
  have HR5 := hide hR4
  have hmu : MapB V.drew gm (.int .u64) (Dy.tagsV (d.L.take j)) := by
    have := hR4.ds.tags
    rw [unhide Hgm] at this
    exact this.belowSz (below_drew' (Below.refl _ _))
  rw [hV]
  have q6' : World.cell? { heap := V.heap, tape := V.tape, drawn := V.drawn + 1, os := V.os, output := V.output } ⟨g, 6, none⟩ = some (.map (some gm)) := q6
  have q0' : World.cell? { heap := V.heap, tape := V.tape, drawn := V.drawn + 1, os := V.os, output := V.output } ⟨r, 0, none⟩ = some (.int .u64 (t : Nat)) := q0
  have q1' : World.cell? { heap := V.heap, tape := V.tape, drawn := V.drawn + 1, os := V.os, output := V.output } ⟨r, 1, none⟩ = some (.int .u64 (v : Nat)) := q1
  have Hmu := hide hmu
  clear hmu hR4 HR4 HE4 hV
  go_still_tail 8, (by kernel_rfl)
  change wpList _ _ _ _ _ V.drew
  refine wpList_updB (x := .int .u64 (t : Nat)) (g := gm) rfl _ _ _ rfl Try.underlying107 Try.underlying24 (by simp [Go.MapKept.IsKey]) rfl rfl rfl (unhide Hmu) ((unhide Hnone) (by first | trivial | rfl)) ?_
  intro V2 hm2 hg2 hs2
  have hR6 : ChkR w V2 B g gkn d (j + 1) := ((unhide HR5).keep (below_drew' (Below.refl _ _))).put (by rw [unhide Hgm]; exact hgkn) (unhide Hej) (unhide Hok) hon (by rw [unhide Hgm]; exact hm2) (by rw [unhide Hgm]; exact hg2)
  have HR6 := hide hR6
  clear hm2 hg2 hs2 hR6 HR5 Hmu Hnone q0' q1' q6' q0 q1 q6
  go_wp2_with fail
  go_roundg (kk - (j + 1))
  case measure => omega
  case rel => exact ⟨j + 1, rfl, by omega, by go_num, by rw [unhide Hmt], unhide HR6⟩
end Go.Proofs.Ytdminnhfgdoibaa
namespace Go.Proofs.Ytdminnhfgdoibaa
set_option linter.unusedVariables false
set_option linter.unusedSimpArgs false
open Go.RowKit

theorem enInfo : (Try.prog.info? 114).map (·.size) = some 2 := by kernel_rfl
theorem enOne (a b : Int) : (#[.int .u64 a, .int .u64 b] : Array Value).all (·.oneCell') = true := by simp [Value.oneCell']
set_option maxRecDepth 100000 in
theorem entOf_any (A : Option Addr) (c B : Nat) (b : List UInt8) (w : World) (hB : B ≤ w.heap.size) (h : Rd w B 1 A 16 (bys b)) :
    Calls Try.prog 52 #[.slice A 16 c] w fun e w' => e = .returned (.tuple #[.agg #[.int .u64 (Wd.num b 0 8 : Nat), .int .u64 (Wd.num b 8 8 : Nat)], .bool true]) ∧ Below w.heap.size w w' := by
  have hb0 : Below w.heap.size w (w.alloc (.cells #[.int .u64 0, .int .u64 0] 114)) := (Below.refl _ _).alloc (Nat.le_refl _) _
  have hk0 : Blk (w.alloc (.cells #[.int .u64 0, .int .u64 0] 114)) w.heap.size 114 [.int .u64 0, .int .u64 0] := Blk.new w 114 _
  have Hk0 := hide hk0
  have Hb0 := hide hb0
  have K1 := hide (number_any A 16 c B b 0 8 _ (Nat.le_trans hB hb0.size) (h.below (hb0.mono hB)) (by unfold maxLen; omega) (by omega) (by omega))
  have K2 := hide (fun w' (hb : Below w.heap.size w w') => number_any A 16 c B b 8 8 w' (Nat.le_trans hB hb.size) (h.below (hb.mono hB)) (by unfold maxLen; omega) (by omega) (by omega))
  clear h hb0 hk0
  obtain ⟨x, hx⟩ : ∃ x, Wd.num b 0 8 = x := ⟨_, rfl⟩
  obtain ⟨y, hy⟩ : ∃ x, Wd.num b 8 8 = x := ⟨_, rfl⟩
  rw [hx] at K1 ⊢
  rw [hy] at K2 ⊢
  clear hx hy
  go_enter Try.func52, Try.ntmps52
  go_wp2_with fail
  refine (unhide K1).mono ?_
  rintro e w1 ⟨rfl, hb1⟩
  have HB1 := hide ((unhide Hb0).trans (hb1.mono (unhide Hb0).size))
  have HK1 := hide ((unhide Hk0).belowSz hb1)
  have K3 := hide ((unhide K2) _ (unhide HB1))
  clear hb1 K1 K2 Hk0 Hb0
  go_wp2_with fail
  refine (unhide K3).mono ?_
  rintro e w2 ⟨rfl, hb2⟩
  have HB2 := hide ((unhide HB1).trans (hb2.mono (unhide HB1).size))
  have HK2 := hide ((unhide HK1).belowSz hb2)
  clear hb2 K3 HB1 HK1
  go_wp2_with ((with_reducible refine (@id (wpList _ _ _ (Oper.mk none (Op.store 114 (.tmp 2) (.tmp 8)) _ _ _ none :: _) _ _) ?_)); refine wpList_store_row rfl 114 (.tmp 2) (.tmp 8) rfl w.heap.size #[.int .u64 (x : Nat), .int .u64 (y : Nat)] rfl rfl 114 _ (unhide HK2) enInfo rfl (enOne _ _) ?_)
  refine bodyPost_ret (results_cell_tmp (P := Try.prog) rfl _ _ w.heap.size 114 #[.int .u64 (x : Nat), .int .u64 (y : Nat)] (0, 0) _ rfl (setRow_heap _ _ _ _ _ _ (unhide HK2)) Try.underlying114 rfl enInfo) rfl ?_
  exact ⟨rfl, below_setRow (unhide HB2) (Nat.le_refl _) _⟩

/-- The rows, each by itself: none where one is refused. -/
def rowsOf {α : Type} (of : Nat → Option α) : Nat → Nat → Option (List α)
  | 0, _ => some []
  | m + 1, k => match of k with
    | none => none
    | some v => (rowsOf of m (k + 1)).map (v :: ·)
theorem rowsOf_all {α : Type} {o : Option (List α)} : o.map (([] : List α) ++ ·) = o := by cases o <;> rfl
theorem rowsOf_no {α : Type} {of : Nat → Option α} {N k : Nat} {l : List α} (h : rowsOf of N 0 = (rowsOf of (N - k) k).map (l ++ ·)) (hk : k < N) (ho : of k = none) : rowsOf of N 0 = none := by
  rw [h, show N - k = (N - (k + 1)) + 1 from by omega, rowsOf, ho]
  rfl
theorem rowsOf_yes {α : Type} {of : Nat → Option α} {N k : Nat} {l : List α} {x : α} (h : rowsOf of N 0 = (rowsOf of (N - k) k).map (l ++ ·)) (hk : k < N) (ho : of k = some x) : rowsOf of N 0 = (rowsOf of (N - (k + 1)) (k + 1)).map ((l ++ [x]) ++ ·) := by
  rw [h, show N - k = (N - (k + 1)) + 1 from by omega, rowsOf, ho]
  dsimp only
  cases rowsOf of (N - (k + 1)) (k + 1) <;> simp
theorem rowsOf_end {α : Type} {of : Nat → Option α} {N k : Nat} {l : List α} (h : rowsOf of N 0 = (rowsOf of (N - k) k).map (l ++ ·)) (hk : k = N) : rowsOf of N 0 = some l := by
  rw [h, hk, Nat.sub_self]
  simp [rowsOf]

theorem enTy : SlTy Try.prog 108 114 2 16 := slTy_mk (z := .agg #[.int .u64 0, .int .u64 0]) Try.underlying108 (by kernel_rfl) rfl (by omega) (by omega)
/-- What the closure answers of one row. -/
def enRowE (o : Option (Nat × Nat)) (w : World) (e : Ending) (w' : World) : Prop := Below w.heap.size w w' ∧ match o with
  | none => e = .returned (.tuple #[.agg #[.int .u64 0, .int .u64 0], .bool false])
  | some x => e = .returned (.tuple #[.agg #[.int .u64 (x.1 : Nat), .int .u64 (x.2 : Nat)], .bool true])
/-- What the rows answer. -/
def enRowsE (o : Option (List (Nat × Nat))) (w : World) (e : Ending) (w' : World) : Prop :=
  ((o = none ∧ e = .returned (.tuple #[.slice none 0 0, .bool false])) ∨ ∃ (l : List (Nat × Nat)) (A' : Option Addr) (c' : Nat), o = some l ∧ e = .returned (.tuple #[.slice A' l.length c', .bool true]) ∧ w'.ownsRow w.heap.size 114 2 (.slice A' l.length c') l.length (entC l)) ∧ Below w.heap.size w w'
theorem en_bad {w w' : World} (hb : Below w.heap.size w w') : enRowsE none w (.returned (.tuple #[.slice none 0 0, .bool false])) w' := ⟨.inl ⟨rfl, rfl⟩, hb⟩
set_option maxRecDepth 100000 in
set_option maxHeartbeats 1000000 in
theorem en_rows (A : Option Addr) (n c B : Nat) (b : List UInt8) (of : Nat → Option (Nat × Nat)) (w : World) (hB : B ≤ w.heap.size) (h : Rd w B 1 A n (bys b)) (hn : n ≤ 4294967296) (hc : n ≤ c)
    (hK : ∀ k A2 c2 w', (k + 1) * 16 ≤ n → Below w.heap.size w w' → Rd w' B 1 A2 16 (bys (Dy.cut b (k * 16) 16)) → 16 ≤ c2 → Calls Try.prog 52 #[.slice A2 16 c2] w' (enRowE (of k) w')) :
    Calls Try.prog 51 #[.slice A n c, .int .i64 16, .func (.func 52) #[] #[]] w (enRowsE (rowsOf of (n / 16) 0) w) := by
  have Hr := hide h
  have HK := hide hK
  have kt : ∀ (A : Option Addr) (n c : Nat), 16 ≤ c → ∀ w' : World, (Instr.slice 22 (.slice A n c) none (some (.int .i64 16)) none).run Try.prog w' = .ok (.slice A 16 c) w' := fun A n c h w' => run_toK (P := Try.prog) Try.underlying22 (e := 5) (by kernel_rfl) .i64 A n c 16 h w'
  have kf : ∀ (A : Option Addr) (n c : Nat), 16 ≤ n → ∀ w' : World, (Instr.slice 22 (.slice A n c) (some (.int .i64 16)) none none).run Try.prog w' = .ok (.slice (fromA A c 16) (n - 16) (c - 16)) w' := fun A n c h w' => run_fromK (P := Try.prog) Try.underlying22 (e := 5) (by kernel_rfl) .i64 A n c 16 h w'
  have Hkt := hide kt
  have Hkf := hide kf
  have Hlen := hide h.1
  clear h hK kt kf
  go_enter Try.func51, Try.ntmps51
  go_wp2_with fail
  go_loopg [0, 6] n (fun gk bv lv wr => ∃ (m k : Nat) (A1 : Option Addr) (c1 : Nat) (A' : Option Addr) (c' : Nat) (l : List (Nat × Nat)), gk = m ∧ m + k * 16 = n ∧ bv = .slice A1 m c1 ∧ m ≤ c1 ∧ Rd wr B 1 A1 m (bys (b.drop (k * 16))) ∧ lv = .slice A' l.length c' ∧ l.length = k ∧ rowsOf of (n / 16) 0 = (rowsOf of (n / 16 - k) k).map (l ++ ·) ∧ wr.ownsRow w.heap.size 114 2 (.slice A' l.length c') l.length (entC l) ∧ Below w.heap.size w wr)
  case atStart => exact ⟨n, 0, A, c, none, 0, [], rfl, by omega, rfl, hc, by simpa using unhide Hr, rfl, rfl, rowsOf_all.symm, World.ownsRow_nil _ _ _ _, Below.refl _ _⟩
  case round =>
  obtain ⟨m, k, A1, c1, A', c', l, hgk, hmk, rfl, hmc, hr1, rfl, hll, hof, hown, hb⟩ := hrel
  have Hr1 := hide hr1
  have Hof := hide hof
  have Hown := hide hown
  have Hb := hide hb
  have Hll := hide hll
  clear hr1 hof hown hb Hr hll
  by_cases hms : 16 ≤ m
  case neg =>
    have h1 : ¬ (16 : Int) ≤ (m : Int) := by omega
    have h2 : (m : Int) < 16 := by omega
    have Hend := hide (rowsOf_end (unhide Hof) (by omega))
    clear Hof HK Hkt Hkf
    go_wp2_with fail
    go_ret2
    exact ⟨.inr ⟨l, A', c', unhide Hend, rfl, unhide Hown⟩, unhide Hb⟩
  have h1 : (16 : Int) ≤ (m : Int) := by omega
  have kt1 := (unhide Hkt) A1 m c1 (by omega)
  have kf1 := (unhide Hkf) A1 m c1 (by omega)
  have hkN : k < n / 16 := by omega
  have hcut : (bys (b.drop (k * 16))).take 16 = bys (Dy.cut b (k * 16) 16) := by unfold bys Dy.cut; rw [List.map_take]
  have K1 := hide ((unhide HK) k A1 c1 wr (by omega) (unhide Hb) (by rw [← hcut]; exact (unhide Hr1).to_ (k := 16) (by omega)) (by omega))
  have hdr : bys (b.drop ((k + 1) * 16)) = (bys (b.drop (k * 16))).drop 16 := by unfold bys; rw [← List.map_drop, List.drop_drop]; congr 2; omega
  have Hr2 : Hid (Rd wr B 1 (fromA A1 c1 16) (m - 16) (bys (b.drop ((k + 1) * 16)))) := hide (by rw [hdr]; exact (unhide Hr1).from_ (k := 16) (by omega) hmc)
  obtain ⟨A2, hA2⟩ : ∃ x, fromA A1 c1 16 = x := ⟨_, rfl⟩
  rw [hA2] at kf1
  have hr2 := unhide Hr2
  rw [hA2] at hr2
  have Hr3 := hide hr2
  clear hcut hdr Hr1 Hr2 hr2 hA2 Hkt Hkf
  go_wp2_with fail
  refine (unhide K1).mono ?_
  rintro e w2 ⟨hb2, he⟩
  have HB2 := hide ((unhide Hb).trans (hb2.mono (unhide Hb).size))
  have HO2 := hide (own_below (unhide Hown) hb2)
  have HR4 := hide ((unhide Hr3).below (hb2.mono (Nat.le_trans hB (unhide Hb).size)))
  clear hb2 K1 Hown Hr3
  have hlo : w.heap.size ≤ w2.heap.size := (unhide HB2).size
  cases hof : of k with
  | none =>
    rw [hof] at he
    subst he
    have Hno := hide (rowsOf_no (unhide Hof) hkN hof)
    have HB3 := hide ((unhide HB2).alloc hlo (.cells #[.int .u64 0, .int .u64 0] 114))
    clear Hof hof HK kt1 kf1
    go_wp2_with fail
    go_ret2
    rw [unhide Hno]
    exact en_bad (unhide HB3)
  | some x =>
    rw [hof] at he
    subst he
    have Hyes := hide (rowsOf_yes (unhide Hof) hkN hof)
    have HB3 := hide ((unhide HB2).alloc hlo (.cells #[.int .u64 (x.1 : Nat), .int .u64 (x.2 : Nat)] 114))
    have HO3 := hide (own_below (unhide HO2) ((Below.refl w2.heap.size w2).alloc (Nat.le_refl _) (.cells #[.int .u64 (x.1 : Nat), .int .u64 (x.2 : Nat)] 114)))
    clear Hof hof HB2 HO2
    go_wp2_with (at_builtin; refine wpList_app1g enTy rfl _ _ rfl w.heap.size (.slice A' l.length c') l.length (entC l) rfl (unhide HO3) #[.int .u64 (x.1 : Nat), .int .u64 (x.2 : Nat)] _ rfl (by simp) rfl (by intro u hu; simp at hu; rcases hu with rfl | rfl <;> rfl) (by have := unhide Hll; omega) (by simp; omega) ?_; intro A3 c3 w3 hown' hgrow hat; have HB4 := hide ((unhide HB3).grown hgrow (unhide HB3).size (fun k hk => ((unhide HO3).lt k hk).1)); have HR5 := hide ((unhide HR4).below (((Below.refl B w2).alloc (Nat.le_trans hB hlo) (.cells #[.int .u64 (x.1 : Nat), .int .u64 (x.2 : Nat)] 114)).grown hgrow (by simp; omega) (fun k hk => Nat.le_trans hB ((unhide HO3).lt k hk).1))); have HO4 := hide hown'; clear hgrow hat hown' HB3 HO3 HR4)
    go_roundg (m - 16)
    case measure => omega
    case rel => exact ⟨m - 16, k + 1, A2, c1 - 16, A3, c3, l ++ [x], rfl, by omega, rfl, by omega, unhide HR5, by simp, by simp [unhide Hll], unhide Hyes, by simpa [entC] using unhide HO4, unhide HB4⟩
end Go.Proofs.Ytdminnhfgdoibaa
namespace Go.Proofs.Ytdminnhfgdoibaa
set_option linter.unusedVariables false
set_option linter.unusedSimpArgs false
open Go.RowKit

def symV (x : Dy.Sym) : List Value := [.string x.name, .int .u64 (x.value : Nat), .int .u64 (x.size : Nat), .int .u8 (x.bind : Nat), .bool x.isdef]
def symC (l : List Dy.Sym) : List Value := l.flatMap symV
/-- A signed number out of its bits. -/
def adI (n : Nat) : Int := IntKind.i64.wrap (n : Nat)
def relV (x : Dy.Rel) : List Value := [.int .u64 (x.off : Nat), .int .u32 (x.type : Nat), .int .i64 (x.sym : Nat), .int .i64 (adI x.add)]
def relC (l : List Dy.Rel) : List Value := l.flatMap relV

theorem syTy : SlTy Try.prog 38 46 5 40 := slTy_mk (z := .agg #[.string ⟨#[]⟩, .int .u64 0, .int .u64 0, .int .u8 0, .bool false]) Try.underlying38 (by kernel_rfl) rfl (by omega) (by omega)
/-- What the closure answers of one row. -/
def syRowE (o : Option Dy.Sym) (w : World) (e : Ending) (w' : World) : Prop := Below w.heap.size w w' ∧ match o with
  | none => ∃ (z0 : ByteArray) (z1 z2 z3 : Int) (z4 : Bool), e = .returned (.tuple #[.agg #[.string z0, .int .u64 z1, .int .u64 z2, .int .u8 z3, .bool z4], .bool false])
  | some x => e = .returned (.tuple #[.agg #[.string x.name, .int .u64 (x.value : Nat), .int .u64 (x.size : Nat), .int .u8 (x.bind : Nat), .bool x.isdef], .bool true])
/-- What the rows answer. -/
def syRowsE (o : Option (List Dy.Sym)) (w : World) (e : Ending) (w' : World) : Prop :=
  ((o = none ∧ e = .returned (.tuple #[.slice none 0 0, .bool false])) ∨ ∃ (l : List Dy.Sym) (A' : Option Addr) (c' : Nat), o = some l ∧ e = .returned (.tuple #[.slice A' l.length c', .bool true]) ∧ w'.ownsRow w.heap.size 46 5 (.slice A' l.length c') l.length (symC l)) ∧ Below w.heap.size w w'
theorem sy_bad {w w' : World} (hb : Below w.heap.size w w') : syRowsE none w (.returned (.tuple #[.slice none 0 0, .bool false])) w' := ⟨.inl ⟨rfl, rfl⟩, hb⟩
set_option maxRecDepth 100000 in
set_option maxHeartbeats 1000000 in
theorem sy_rows (A : Option Addr) (n c B : Nat) (b : List UInt8) (gt : Nat) (of : Nat → Option Dy.Sym) (w : World) (hB : B ≤ w.heap.size) (h : Rd w B 1 A n (bys b)) (hn : n ≤ 4294967296) (hc : n ≤ c)
    (hK : ∀ k A2 c2 w', (k + 1) * 24 ≤ n → Below w.heap.size w w' → Rd w' B 1 A2 24 (bys (Dy.cut b (k * 24) 24)) → 24 ≤ c2 → Calls Try.prog 34 #[.slice A2 24 c2, .pointer (some ⟨gt, 0, none⟩)] w' (syRowE (of k) w')) :
    Calls Try.prog 33 #[.slice A n c, .int .i64 24, .func (.func 34) #[] #[.pointer (some ⟨gt, 0, none⟩)]] w (syRowsE (rowsOf of (n / 24) 0) w) := by
  have Hr := hide h
  have HK := hide hK
  have kt : ∀ (A : Option Addr) (n c : Nat), 24 ≤ c → ∀ w' : World, (Instr.slice 22 (.slice A n c) none (some (.int .i64 24)) none).run Try.prog w' = .ok (.slice A 24 c) w' := fun A n c h w' => run_toK (P := Try.prog) Try.underlying22 (e := 5) (by kernel_rfl) .i64 A n c 24 h w'
  have kf : ∀ (A : Option Addr) (n c : Nat), 24 ≤ n → ∀ w' : World, (Instr.slice 22 (.slice A n c) (some (.int .i64 24)) none none).run Try.prog w' = .ok (.slice (fromA A c 24) (n - 24) (c - 24)) w' := fun A n c h w' => run_fromK (P := Try.prog) Try.underlying22 (e := 5) (by kernel_rfl) .i64 A n c 24 h w'
  have Hkt := hide kt
  have Hkf := hide kf
  have Hlen := hide h.1
  clear h hK kt kf
  go_enter Try.func33, Try.ntmps33
  go_wp2_with fail
  go_loopg [0, 6] n (fun gk bv lv wr => ∃ (m k : Nat) (A1 : Option Addr) (c1 : Nat) (A' : Option Addr) (c' : Nat) (l : List Dy.Sym), gk = m ∧ m + k * 24 = n ∧ bv = .slice A1 m c1 ∧ m ≤ c1 ∧ Rd wr B 1 A1 m (bys (b.drop (k * 24))) ∧ lv = .slice A' l.length c' ∧ l.length = k ∧ rowsOf of (n / 24) 0 = (rowsOf of (n / 24 - k) k).map (l ++ ·) ∧ wr.ownsRow w.heap.size 46 5 (.slice A' l.length c') l.length (symC l) ∧ Below w.heap.size w wr)
  case atStart => exact ⟨n, 0, A, c, none, 0, [], rfl, by omega, rfl, hc, by simpa using unhide Hr, rfl, rfl, rowsOf_all.symm, World.ownsRow_nil _ _ _ _, Below.refl _ _⟩
  case round =>
  obtain ⟨m, k, A1, c1, A', c', l, hgk, hmk, rfl, hmc, hr1, rfl, hll, hof, hown, hb⟩ := hrel
  have Hr1 := hide hr1
  have Hof := hide hof
  have Hown := hide hown
  have Hb := hide hb
  have Hll := hide hll
  clear hr1 hof hown hb Hr hll
  by_cases hms : 24 ≤ m
  case neg =>
    have h1 : ¬ (24 : Int) ≤ (m : Int) := by omega
    have h2 : (m : Int) < 24 := by omega
    have Hend := hide (rowsOf_end (unhide Hof) (by omega))
    clear Hof HK Hkt Hkf
    go_wp2_with fail
    go_ret2
    exact ⟨.inr ⟨l, A', c', unhide Hend, rfl, unhide Hown⟩, unhide Hb⟩
  have h1 : (24 : Int) ≤ (m : Int) := by omega
  have kt1 := (unhide Hkt) A1 m c1 (by omega)
  have kf1 := (unhide Hkf) A1 m c1 (by omega)
  have hkN : k < n / 24 := by omega
  have hcut : (bys (b.drop (k * 24))).take 24 = bys (Dy.cut b (k * 24) 24) := by unfold bys Dy.cut; rw [List.map_take]
  have K1 := hide ((unhide HK) k A1 c1 wr (by omega) (unhide Hb) (by rw [← hcut]; exact (unhide Hr1).to_ (k := 24) (by omega)) (by omega))
  have hdr : bys (b.drop ((k + 1) * 24)) = (bys (b.drop (k * 24))).drop 24 := by unfold bys; rw [← List.map_drop, List.drop_drop]; congr 2; omega
  have Hr2 : Hid (Rd wr B 1 (fromA A1 c1 24) (m - 24) (bys (b.drop ((k + 1) * 24)))) := hide (by rw [hdr]; exact (unhide Hr1).from_ (k := 24) (by omega) hmc)
  obtain ⟨A2, hA2⟩ : ∃ x, fromA A1 c1 24 = x := ⟨_, rfl⟩
  rw [hA2] at kf1
  have hr2 := unhide Hr2
  rw [hA2] at hr2
  have Hr3 := hide hr2
  clear hcut hdr Hr1 Hr2 hr2 hA2 Hkt Hkf
  go_wp2_with fail
  refine (unhide K1).mono ?_
  rintro e w2 ⟨hb2, he⟩
  have HB2 := hide ((unhide Hb).trans (hb2.mono (unhide Hb).size))
  have HO2 := hide (own_below (unhide Hown) hb2)
  have HR4 := hide ((unhide Hr3).below (hb2.mono (Nat.le_trans hB (unhide Hb).size)))
  clear hb2 K1 Hown Hr3
  have hlo : w.heap.size ≤ w2.heap.size := (unhide HB2).size
  cases hof : of k with
  | none =>
    rw [hof] at he
    obtain ⟨z0, z1, z2, z3, z4, rfl⟩ := he
    have Hno := hide (rowsOf_no (unhide Hof) hkN hof)
    have HB3 := hide ((unhide HB2).alloc hlo (.cells #[.string z0, .int .u64 z1, .int .u64 z2, .int .u8 z3, .bool z4] 46))
    clear Hof hof HK kt1 kf1
    go_wp2_with fail
    go_ret2
    rw [unhide Hno]
    exact sy_bad (unhide HB3)
  | some x =>
    rw [hof] at he
    subst he
    have Hyes := hide (rowsOf_yes (unhide Hof) hkN hof)
    have HB3 := hide ((unhide HB2).alloc hlo (.cells #[.string x.name, .int .u64 (x.value : Nat), .int .u64 (x.size : Nat), .int .u8 (x.bind : Nat), .bool x.isdef] 46))
    have HO3 := hide (own_below (unhide HO2) ((Below.refl w2.heap.size w2).alloc (Nat.le_refl _) (.cells #[.string x.name, .int .u64 (x.value : Nat), .int .u64 (x.size : Nat), .int .u8 (x.bind : Nat), .bool x.isdef] 46)))
    clear Hof hof HB2 HO2
    go_wp2_with (at_builtin; refine wpList_app1g syTy rfl _ _ rfl w.heap.size (.slice A' l.length c') l.length (symC l) rfl (unhide HO3) #[.string x.name, .int .u64 (x.value : Nat), .int .u64 (x.size : Nat), .int .u8 (x.bind : Nat), .bool x.isdef] _ rfl (by simp) rfl (by intro u hu; simp at hu; rcases hu with rfl | rfl | rfl | rfl | rfl <;> rfl) (by have := unhide Hll; omega) (by simp; omega) ?_; intro A3 c3 w3 hown' hgrow hat; have HB4 := hide ((unhide HB3).grown hgrow (unhide HB3).size (fun k hk => ((unhide HO3).lt k hk).1)); have HR5 := hide ((unhide HR4).below (((Below.refl B w2).alloc (Nat.le_trans hB hlo) (.cells #[.string x.name, .int .u64 (x.value : Nat), .int .u64 (x.size : Nat), .int .u8 (x.bind : Nat), .bool x.isdef] 46)).grown hgrow (by simp; omega) (fun k hk => Nat.le_trans hB ((unhide HO3).lt k hk).1))); have HO4 := hide hown'; clear hgrow hat hown' HB3 HO3 HR4)
    go_roundg (m - 24)
    case measure => omega
    case rel => exact ⟨m - 24, k + 1, A2, c1 - 24, A3, c3, l ++ [x], rfl, by omega, rfl, by omega, unhide HR5, by simp, by simp [unhide Hll], unhide Hyes, by simpa [symC, symV] using unhide HO4, unhide HB4⟩

theorem reTy : SlTy Try.prog 39 49 4 32 := slTy_mk (z := .agg #[.int .u64 0, .int .u32 0, .int .i64 0, .int .i64 0]) Try.underlying39 (by kernel_rfl) rfl (by omega) (by omega)
/-- What the closure answers of one row. -/
def reRowE (o : Option Dy.Rel) (w : World) (e : Ending) (w' : World) : Prop := Below w.heap.size w w' ∧ match o with
  | none => ∃ (z0 z1 z2 z3 : Int), e = .returned (.tuple #[.agg #[.int .u64 z0, .int .u32 z1, .int .i64 z2, .int .i64 z3], .bool false])
  | some x => e = .returned (.tuple #[.agg #[.int .u64 (x.off : Nat), .int .u32 (x.type : Nat), .int .i64 (x.sym : Nat), .int .i64 (adI x.add)], .bool true])
/-- What the rows answer. -/
def reRowsE (o : Option (List Dy.Rel)) (w : World) (e : Ending) (w' : World) : Prop :=
  ((o = none ∧ e = .returned (.tuple #[.slice none 0 0, .bool false])) ∨ ∃ (l : List Dy.Rel) (A' : Option Addr) (c' : Nat), o = some l ∧ e = .returned (.tuple #[.slice A' l.length c', .bool true]) ∧ w'.ownsRow w.heap.size 49 4 (.slice A' l.length c') l.length (relC l)) ∧ Below w.heap.size w w'
theorem re_bad {w w' : World} (hb : Below w.heap.size w w') : reRowsE none w (.returned (.tuple #[.slice none 0 0, .bool false])) w' := ⟨.inl ⟨rfl, rfl⟩, hb⟩
set_option maxRecDepth 100000 in
set_option maxHeartbeats 1000000 in
theorem re_rows (A : Option Addr) (n c B : Nat) (b : List UInt8) (gt : Nat) (of : Nat → Option Dy.Rel) (w : World) (hB : B ≤ w.heap.size) (h : Rd w B 1 A n (bys b)) (hn : n ≤ 4294967296) (hc : n ≤ c)
    (hK : ∀ k A2 c2 w', (k + 1) * 24 ≤ n → Below w.heap.size w w' → Rd w' B 1 A2 24 (bys (Dy.cut b (k * 24) 24)) → 24 ≤ c2 → Calls Try.prog 38 #[.slice A2 24 c2, .pointer (some ⟨gt, 0, none⟩)] w' (reRowE (of k) w')) :
    Calls Try.prog 37 #[.slice A n c, .int .i64 24, .func (.func 38) #[] #[.pointer (some ⟨gt, 0, none⟩)]] w (reRowsE (rowsOf of (n / 24) 0) w) := by
  have Hr := hide h
  have HK := hide hK
  have kt : ∀ (A : Option Addr) (n c : Nat), 24 ≤ c → ∀ w' : World, (Instr.slice 22 (.slice A n c) none (some (.int .i64 24)) none).run Try.prog w' = .ok (.slice A 24 c) w' := fun A n c h w' => run_toK (P := Try.prog) Try.underlying22 (e := 5) (by kernel_rfl) .i64 A n c 24 h w'
  have kf : ∀ (A : Option Addr) (n c : Nat), 24 ≤ n → ∀ w' : World, (Instr.slice 22 (.slice A n c) (some (.int .i64 24)) none none).run Try.prog w' = .ok (.slice (fromA A c 24) (n - 24) (c - 24)) w' := fun A n c h w' => run_fromK (P := Try.prog) Try.underlying22 (e := 5) (by kernel_rfl) .i64 A n c 24 h w'
  have Hkt := hide kt
  have Hkf := hide kf
  have Hlen := hide h.1
  clear h hK kt kf
  go_enter Try.func37, Try.ntmps37
  go_wp2_with fail
  go_loopg [0, 6] n (fun gk bv lv wr => ∃ (m k : Nat) (A1 : Option Addr) (c1 : Nat) (A' : Option Addr) (c' : Nat) (l : List Dy.Rel), gk = m ∧ m + k * 24 = n ∧ bv = .slice A1 m c1 ∧ m ≤ c1 ∧ Rd wr B 1 A1 m (bys (b.drop (k * 24))) ∧ lv = .slice A' l.length c' ∧ l.length = k ∧ rowsOf of (n / 24) 0 = (rowsOf of (n / 24 - k) k).map (l ++ ·) ∧ wr.ownsRow w.heap.size 49 4 (.slice A' l.length c') l.length (relC l) ∧ Below w.heap.size w wr)
  case atStart => exact ⟨n, 0, A, c, none, 0, [], rfl, by omega, rfl, hc, by simpa using unhide Hr, rfl, rfl, rowsOf_all.symm, World.ownsRow_nil _ _ _ _, Below.refl _ _⟩
  case round =>
  obtain ⟨m, k, A1, c1, A', c', l, hgk, hmk, rfl, hmc, hr1, rfl, hll, hof, hown, hb⟩ := hrel
  have Hr1 := hide hr1
  have Hof := hide hof
  have Hown := hide hown
  have Hb := hide hb
  have Hll := hide hll
  clear hr1 hof hown hb Hr hll
  by_cases hms : 24 ≤ m
  case neg =>
    have h1 : ¬ (24 : Int) ≤ (m : Int) := by omega
    have h2 : (m : Int) < 24 := by omega
    have Hend := hide (rowsOf_end (unhide Hof) (by omega))
    clear Hof HK Hkt Hkf
    go_wp2_with fail
    go_ret2
    exact ⟨.inr ⟨l, A', c', unhide Hend, rfl, unhide Hown⟩, unhide Hb⟩
  have h1 : (24 : Int) ≤ (m : Int) := by omega
  have kt1 := (unhide Hkt) A1 m c1 (by omega)
  have kf1 := (unhide Hkf) A1 m c1 (by omega)
  have hkN : k < n / 24 := by omega
  have hcut : (bys (b.drop (k * 24))).take 24 = bys (Dy.cut b (k * 24) 24) := by unfold bys Dy.cut; rw [List.map_take]
  have K1 := hide ((unhide HK) k A1 c1 wr (by omega) (unhide Hb) (by rw [← hcut]; exact (unhide Hr1).to_ (k := 24) (by omega)) (by omega))
  have hdr : bys (b.drop ((k + 1) * 24)) = (bys (b.drop (k * 24))).drop 24 := by unfold bys; rw [← List.map_drop, List.drop_drop]; congr 2; omega
  have Hr2 : Hid (Rd wr B 1 (fromA A1 c1 24) (m - 24) (bys (b.drop ((k + 1) * 24)))) := hide (by rw [hdr]; exact (unhide Hr1).from_ (k := 24) (by omega) hmc)
  obtain ⟨A2, hA2⟩ : ∃ x, fromA A1 c1 24 = x := ⟨_, rfl⟩
  rw [hA2] at kf1
  have hr2 := unhide Hr2
  rw [hA2] at hr2
  have Hr3 := hide hr2
  clear hcut hdr Hr1 Hr2 hr2 hA2 Hkt Hkf
  go_wp2_with fail
  refine (unhide K1).mono ?_
  rintro e w2 ⟨hb2, he⟩
  have HB2 := hide ((unhide Hb).trans (hb2.mono (unhide Hb).size))
  have HO2 := hide (own_below (unhide Hown) hb2)
  have HR4 := hide ((unhide Hr3).below (hb2.mono (Nat.le_trans hB (unhide Hb).size)))
  clear hb2 K1 Hown Hr3
  have hlo : w.heap.size ≤ w2.heap.size := (unhide HB2).size
  cases hof : of k with
  | none =>
    rw [hof] at he
    obtain ⟨z0, z1, z2, z3, rfl⟩ := he
    have Hno := hide (rowsOf_no (unhide Hof) hkN hof)
    have HB3 := hide ((unhide HB2).alloc hlo (.cells #[.int .u64 z0, .int .u32 z1, .int .i64 z2, .int .i64 z3] 49))
    clear Hof hof HK kt1 kf1
    go_wp2_with fail
    go_ret2
    rw [unhide Hno]
    exact re_bad (unhide HB3)
  | some x =>
    rw [hof] at he
    subst he
    have Hyes := hide (rowsOf_yes (unhide Hof) hkN hof)
    have HB3 := hide ((unhide HB2).alloc hlo (.cells #[.int .u64 (x.off : Nat), .int .u32 (x.type : Nat), .int .i64 (x.sym : Nat), .int .i64 (adI x.add)] 49))
    have HO3 := hide (own_below (unhide HO2) ((Below.refl w2.heap.size w2).alloc (Nat.le_refl _) (.cells #[.int .u64 (x.off : Nat), .int .u32 (x.type : Nat), .int .i64 (x.sym : Nat), .int .i64 (adI x.add)] 49)))
    clear Hof hof HB2 HO2
    go_wp2_with (at_builtin; refine wpList_app1g reTy rfl _ _ rfl w.heap.size (.slice A' l.length c') l.length (relC l) rfl (unhide HO3) #[.int .u64 (x.off : Nat), .int .u32 (x.type : Nat), .int .i64 (x.sym : Nat), .int .i64 (adI x.add)] _ rfl (by simp) rfl (by intro u hu; simp at hu; rcases hu with rfl | rfl | rfl | rfl <;> rfl) (by have := unhide Hll; omega) (by simp; omega) ?_; intro A3 c3 w3 hown' hgrow hat; have HB4 := hide ((unhide HB3).grown hgrow (unhide HB3).size (fun k hk => ((unhide HO3).lt k hk).1)); have HR5 := hide ((unhide HR4).below (((Below.refl B w2).alloc (Nat.le_trans hB hlo) (.cells #[.int .u64 (x.off : Nat), .int .u32 (x.type : Nat), .int .i64 (x.sym : Nat), .int .i64 (adI x.add)] 49)).grown hgrow (by simp; omega) (fun k hk => Nat.le_trans hB ((unhide HO3).lt k hk).1))); have HO4 := hide hown'; clear hgrow hat hown' HB3 HO3 HR4)
    go_roundg (m - 24)
    case measure => omega
    case rel => exact ⟨m - 24, k + 1, A2, c1 - 24, A3, c3, l ++ [x], rfl, by omega, rfl, by omega, unhide HR5, by simp, by simp [unhide Hll], unhide Hyes, by simpa [relC, relV] using unhide HO4, unhide HB4⟩
end Go.Proofs.Ytdminnhfgdoibaa
namespace Go.Proofs.Ytdminnhfgdoibaa
set_option linter.unusedVariables false
set_option linter.unusedSimpArgs false
open Go.RowKit

theorem syInfo : (Try.prog.info? 46).map (·.size) = some 5 := by kernel_rfl
set_option maxRecDepth 100000 in
set_option maxHeartbeats 2000000 in
theorem symOf_any (A : Option Addr) (c B gt : Nat) (b : List UInt8) (At : Option Addr) (mt ct : Nat) (t : List UInt8) (w : World) (hB : B ≤ w.heap.size) (h : Rd w B 1 A 24 (bys b)) (hgt : gt < w.heap.size) (ht : w.cell? ⟨gt, 0, none⟩ = some (.slice At mt ct)) (hT : Rd w B 1 At mt (bys t)) (hmt : mt ≤ 4294967296) (hmc : mt ≤ ct) :
    Calls Try.prog 34 #[.slice A 24 c, .pointer (some ⟨gt, 0, none⟩)] w (syRowE (Dy.symAt t b 0) w) := by
  have Hb0 : Hid (Below w.heap.size w (w.alloc (.cells #[.string ⟨#[]⟩, .int .u64 0, .int .u64 0, .int .u8 0, .bool false] 46))) := hide ((Below.refl _ _).alloc (Nat.le_refl _) _)
  have Hk0 : Hid (Blk (w.alloc (.cells #[.string ⟨#[]⟩, .int .u64 0, .int .u64 0, .int .u8 0, .bool false] 46)) w.heap.size 46 [.string ⟨#[]⟩, .int .u64 0, .int .u64 0, .int .u8 0, .bool false]) := hide (Blk.new w 46 [.string ⟨#[]⟩, .int .u64 0, .int .u64 0, .int .u8 0, .bool false])
  have KN := hide (fun (p s : Nat) (hs : s = 1 ∨ s = 2 ∨ s = 4 ∨ s = 8) (hin : p + s ≤ 24) w' (hb : Below w.heap.size w w') => number_any A 24 c B b p s w' (Nat.le_trans hB hb.size) (h.below (hb.mono hB)) (by unfold maxLen; omega) hs hin)
  have KT := hide (fun (p : Nat) (hp : p < 18446744073709551616) w' (hb : Below w.heap.size w w') => text_any At mt ct B t p w' (Nat.le_trans hB hb.size) (hT.below (hb.mono hB)) hmt hmc hp)
  have Htc := hide (fun (w' : World) (hb : Below w.heap.size w w') => (World.cell?_of_block (a := ⟨gt, 0, none⟩) (hb.block gt hgt)).trans ht)
  have hx0 := Wd.num_lt b 0 4
  obtain ⟨x0, hx⟩ : ∃ x, Wd.num b 0 4 = x := ⟨_, rfl⟩
  rw [hx] at hx0
  have Hx := hide hx
  have HR := hide h
  have k0 : Calls Try.prog 36 #[.slice A 24 c, .int .u64 0, .int .i64 4] (w.alloc (.cells #[.string ⟨#[]⟩, .int .u64 0, .int .u64 0, .int .u8 0, .bool false] 46)).drew (fun e w' => e = .returned (.int .u64 (Wd.num b 0 4 : Nat)) ∧ Below (w.alloc (.cells #[.string ⟨#[]⟩, .int .u64 0, .int .u64 0, .int .u8 0, .bool false] 46)).drew.heap.size (w.alloc (.cells #[.string ⟨#[]⟩, .int .u64 0, .int .u64 0, .int .u8 0, .bool false] 46)).drew w') := (unhide KN) 0 4 (by omega) (by omega) _ (below_drew' (unhide Hb0))
  rw [hx] at k0
  have K1 := hide k0
  clear h hT ht hx k0
  go_enter Try.func34, Try.ntmps34
  go_wp2_with fail
  refine wp_region_held_drew (S := fun w' => w'.cell? ⟨gt, 0, none⟩ = some (.slice At mt ct)) (by kernel_rfl) ((unhide Htc) _ (below_drew' (unhide Hb0))) (fun HS0 => ?_)
  refine takeD (i := 0) (d := some 9) (v := ?_) rfl rfl (by kernel_rfl) (by kernel_rfl) (by kernel_rfl) (fun _ _ _ h => h) (Or.inl ⟨by rfl, ?y0⟩) HS0 ?_
  case y0 => (intro w' hSw; (try dsimp only at hSw); go_simp; (try with_reducible rfl))
  simp only [Act.put, List.setIfInBounds_toArray, List.set_cons_zero, List.set_cons_succ]
  refine takeD (i := 1) (d := some 10) (v := ?_) rfl rfl (by kernel_rfl) (by kernel_rfl) (by kernel_rfl) (fun _ _ _ h => h) (Or.inl ⟨by rfl, ?y1⟩) HS0 ?_
  case y1 => (intro w' hSw; (try dsimp only at hSw); go_simp; (try with_reducible rfl))
  simp only [Act.put, List.setIfInBounds_toArray, List.set_cons_zero, List.set_cons_succ]
  refine wpAnyH_ready (rs := [2]) (by kernel_rfl) (by simp) ?_
  refine AllReadyH.cons (i := 2) rfl (fun K hK => ?_) AllReadyH.nil
  rw [if_pos (by rfl)]
  go_simp
  go_at_call 36
  with_reducible refine (unhide K1).mono ?_
  rintro e w1 ⟨rfl, hb1⟩
  have HB1 := hide ((below_drew' (unhide Hb0)).trans (hb1.mono (below_drew' (unhide Hb0)).size))
  have HK1 := hide ((unhide Hk0).drew.belowSz hb1)
  have K2 := hide ((unhide KT) x0 (by simp at hx0; omega) w1 (unhide HB1))
  clear hb1 K1
  refine hK.out _ _ ((unhide Htc) _ (unhide HB1)) (fun hHeld => ?_)
  clear hK K HS0
  have HS0 := hHeld
  clear hHeld
  (try simp only [Act.put, List.setIfInBounds_toArray, List.set_cons_zero, List.set_cons_succ])
  refine wpAnyH_ready (rs := [3]) (by kernel_rfl) (by simp) ?_
  refine AllReadyH.cons (i := 3) rfl (fun K hK => ?_) AllReadyH.nil
  rw [if_pos (by rfl)]
  go_simp
  go_at_call 35
  with_reducible refine (unhide K2).mono ?_
  rintro e w2 ⟨nm, tb, rfl, htx, hb2⟩
  have HB2 := hide ((unhide HB1).trans (hb2.mono (unhide HB1).size))
  have HK2 := hide ((unhide HK1).belowSz hb2)
  have Htx := hide htx
  clear hb2 K2 htx
  refine hK.out _ _ ((unhide Htc) _ (unhide HB2)) (fun hHeld => ?_)
  clear hK K HS0
  have HS0 := hHeld
  clear hHeld
  (try simp only [Act.put, List.setIfInBounds_toArray, List.set_cons_zero, List.set_cons_succ])
  refine takeD (i := 4) (d := some 8) (v := ?_) rfl rfl (by kernel_rfl) (by kernel_rfl) (by kernel_rfl) (fun _ _ _ h => h) (Or.inl ⟨by rfl, ?y4⟩) HS0 ?_
  case y4 => (intro w' hSw; (try dsimp only at hSw); go_simp; (try with_reducible rfl))
  simp only [Act.put, List.setIfInBounds_toArray, List.set_cons_zero, List.set_cons_succ]
  refine takeD (i := 5) (d := some 13) (v := ?_) rfl rfl (by kernel_rfl) (by kernel_rfl) (by kernel_rfl) (fun _ _ _ h => h) (Or.inl ⟨by rfl, ?y5⟩) HS0 ?_
  case y5 => (intro w' hSw; (try dsimp only at hSw); go_simp; (try with_reducible rfl))
  simp only [Act.put, List.setIfInBounds_toArray, List.set_cons_zero, List.set_cons_succ]
  refine takeD (i := 6) (d := some 14) (v := ?_) rfl rfl (by kernel_rfl) (by kernel_rfl) (by kernel_rfl) (fun _ _ _ h => h) (Or.inl ⟨by rfl, ?y6⟩) HS0 ?_
  case y6 => (intro w' hSw; (try dsimp only at hSw); go_simp; (try with_reducible rfl))
  simp only [Act.put, List.setIfInBounds_toArray, List.set_cons_zero, List.set_cons_succ]
  refine takeD (i := 7) (d := some 5) (v := ?_) rfl rfl (by kernel_rfl) (by kernel_rfl) (by kernel_rfl) (fun _ _ _ h => h) (Or.inl ⟨by rfl, ?y7⟩) HS0 ?_
  case y7 => (intro w' hSw; (try dsimp only at hSw); go_simp; (try with_reducible rfl))
  simp only [Act.put, List.setIfInBounds_toArray, List.set_cons_zero, List.set_cons_succ]
  refine takeD (i := 8) (d := some 6) (v := ?_) rfl rfl (by kernel_rfl) (by kernel_rfl) (by kernel_rfl) (fun _ _ _ h => h) (Or.inl ⟨by rfl, ?y8⟩) HS0 ?_
  case y8 => (intro w' hSw; (try dsimp only at hSw); go_simp; (try with_reducible rfl))
  simp only [Act.put, List.setIfInBounds_toArray, List.set_cons_zero, List.set_cons_succ]
  refine wpAnyH_done (by kernel_rfl) ?_ _
  have hb24 : b.length = 24 := by have := (unhide HR).1; simp [bys] at this; omega
  obtain ⟨d4, hd4⟩ : ∃ d, b[4]? = some d := ⟨_, List.getElem?_eq_getElem (by omega)⟩
  obtain ⟨b1, o1, hA1, -, hc4⟩ := ((unhide HR).below ((unhide HB2).mono hB)).at_ (k := 4) (u := .int .u8 (d4.toNat : Nat)) (by unfold bys; rw [List.getElem?_map, hd4]; rfl)
  subst hA1
  have hd4n : Wd.num b 4 1 = d4.toNat := by rw [Wd.num_cons b 4 0 d4 hd4, Wd.num_zero]; omega
  have hl4 := d4.toNat_lt
  obtain ⟨y, hy⟩ : ∃ y, d4.toNat = y := ⟨_, rfl⟩
  rw [hy] at hc4 hd4n hl4
  have k8 : ∀ W, Below w.heap.size w W → Calls Try.prog 36 #[.slice (some ⟨b1, o1, none⟩) 24 c, .int .u64 8, .int .i64 8] W (fun e w' => e = .returned (.int .u64 (Wd.num b 8 8 : Nat)) ∧ Below W.heap.size W w') := fun W h => (unhide KN) 8 8 (by omega) (by omega) W h
  have k16 : ∀ W, Below w.heap.size w W → Calls Try.prog 36 #[.slice (some ⟨b1, o1, none⟩) 24 c, .int .u64 16, .int .i64 8] W (fun e w' => e = .returned (.int .u64 (Wd.num b 16 8 : Nat)) ∧ Below W.heap.size W w') := fun W h => (unhide KN) 16 8 (by omega) (by omega) W h
  have k6 : ∀ W, Below w.heap.size w W → Calls Try.prog 36 #[.slice (some ⟨b1, o1, none⟩) 24 c, .int .u64 6, .int .i64 2] W (fun e w' => e = .returned (.int .u64 (Wd.num b 6 2 : Nat)) ∧ Below W.heap.size W w') := fun W h => (unhide KN) 6 2 (by omega) (by omega) W h
  have hsym : Dy.symAt t b 0 = match Dy.text t x0 with
    | none => none
    | some s => if 2 < y / 16 then none else some ⟨s, Wd.num b 8 8, Wd.num b 16 8, y / 16, decide (Wd.num b 6 2 ≠ 0)⟩ := by
    unfold Dy.symAt
    simp only [Nat.zero_add]
    rw [unhide Hx, hd4n]
    rfl
  obtain ⟨n8, hn8⟩ : ∃ x, Wd.num b 8 8 = x := ⟨_, rfl⟩
  obtain ⟨n16, hn16⟩ : ∃ x, Wd.num b 16 8 = x := ⟨_, rfl⟩
  obtain ⟨n6, hn6⟩ : ∃ x, Wd.num b 6 2 = x := ⟨_, rfl⟩
  rw [hn8] at k8 hsym
  rw [hn16] at k16 hsym
  rw [hn6] at k6 hsym
  have h16 : y / 16 < 16 := by omega
  have K8 := hide k8
  have K16 := hide k16
  have K6 := hide k6
  have HRes : Hid (∀ W, Below w.heap.size w W → ∀ (ok : Bool), (ok = true ↔ tb = true ∧ y / 16 ≤ 2) → syRowE (Dy.symAt t b 0) w (.returned (.tuple #[.agg #[.string nm, .int .u64 (n8 : Nat), .int .u64 (n16 : Nat), .int .u8 ((y : Int) / 16), .bool ((n6 : Int) != 0)], .bool ok])) W) := hide (by
    intro W hW ok hok
    refine ⟨hW, ?_⟩
    rw [hsym]
    have hb6 : ((n6 : Int) != 0) = decide (n6 ≠ 0) := by by_cases h : n6 = 0 <;> simp [h] <;> omega
    rw [hb6]
    rcases unhide Htx with ⟨rfl, htx⟩ | ⟨rfl, htx⟩
    · rw [htx]
      dsimp only
      by_cases h2 : 2 < y / 16
      · rw [if_pos h2]
        have : ok = false := by cases ok with
          | false => rfl
          | true => exact absurd (hok.1 rfl).2 (by omega)
        rw [this]
        exact ⟨_, _, _, _, _, rfl⟩
      · rw [if_neg h2]
        have : ok = true := hok.2 ⟨rfl, by omega⟩
        rw [this]
        rfl
    · rw [htx]
      dsimp only
      have : ok = false := by cases ok with
        | false => rfl
        | true => exact absurd (hok.1 rfl).1 (by decide)
      rw [this]
      exact ⟨_, _, _, _, _, rfl⟩)
  clear HR hd4 hd4n hy k8 k16 k6 hsym hn8 hn16 hn6 KN Hx Htc HS0 Hb0 Hk0 hx0 HB1 HK1 Htx
  go_wp2_with fail
  refine ((unhide K8) _ (unhide HB2)).mono ?_
  rintro e w3 ⟨rfl, hb3⟩
  have HB3 := hide ((unhide HB2).trans (hb3.mono (unhide HB2).size))
  have HK3 := hide ((unhide HK2).belowSz hb3)
  clear hb3 K8
  go_wp2_with fail
  refine ((unhide K16) _ (unhide HB3)).mono ?_
  rintro e w4 ⟨rfl, hb4⟩
  have HB4 := hide ((unhide HB3).trans (hb4.mono (unhide HB3).size))
  have HK4 := hide ((unhide HK3).belowSz hb4)
  clear hb4 K16
  go_wp2_with fail
  refine ((unhide K6) _ (unhide HB4)).mono ?_
  rintro e w5 ⟨rfl, hb5⟩
  have HB5 := hide ((unhide HB4).trans (hb5.mono (unhide HB4).size))
  have HK5 := hide ((unhide HK4).belowSz hb5)
  clear hb5 K6 HB2 HK2 HB3 HK3 HB4 HK4
  cases tb
  all_goals (go_wp2_with ((with_reducible refine (@id (wpList _ _ _ (Oper.mk none (Op.store 46 (.tmp 3) (.tmp 28)) _ _ _ none :: _) _ _) ?_)); refine wpList_store_row rfl 46 (.tmp 3) (.tmp 28) rfl w.heap.size #[.string nm, .int .u64 (n8 : Nat), .int .u64 (n16 : Nat), .int .u8 ((y : Int) / 16), .bool ((n6 : Int) != 0)] rfl rfl 46 _ (unhide HK5) syInfo rfl (by simp [Value.oneCell']) ?_))
  all_goals (refine bodyPost_ret (results_cell_tmp (P := Try.prog) rfl _ _ w.heap.size 46 #[.string nm, .int .u64 (n8 : Nat), .int .u64 (n16 : Nat), .int .u8 ((y : Int) / 16), .bool ((n6 : Int) != 0)] (0, 0) _ rfl (setRow_heap _ _ _ _ _ _ (unhide HK5)) Try.underlying46 rfl syInfo) rfl ?_)
  · exact (unhide HRes) _ (below_setRow (unhide HB5) (Nat.le_refl _) _) false (by simp)
  · exact (unhide HRes) _ (below_setRow (unhide HB5) (Nat.le_refl _) _) _ (by simp; omega)
end Go.Proofs.Ytdminnhfgdoibaa
namespace Go.Proofs.Ytdminnhfgdoibaa
set_option linter.unusedVariables false
set_option linter.unusedSimpArgs false
open Go.RowKit

/-- A hash table with its symbols, in memory: the slices told by where they lie in b. -/
structure NmM (w : World) (B : Nat) (b : List UInt8) (r : Dy.Names) (Ah : Option Addr) (nh ch : Nat) (As : Option Addr) (cs : Nat) : Prop where
  h : 0 < r.buckets → nh = 8 + 4 * r.buckets + 4 * r.chain ∧ Rd w B 1 Ah nh (bys (Dy.cut b r.hash nh))
  hc : nh ≤ ch
  s : Rd w B 1 As (24 * r.chain) (bys (Dy.cut b r.syms (24 * r.chain)))
  sc : 24 * r.chain ≤ cs
  fit : r.buckets < 4294967296 ∧ r.chain ≤ 65
def nmV (r : Dy.Names) (Ah : Option Addr) (nh ch : Nat) (As : Option Addr) (cs : Nat) : List Value := [.int .u64 (r.buckets : Nat), .int .u64 (r.chain : Nat), .slice Ah nh ch, .slice As (24 * r.chain) cs]
def NamesE (r : Int × Dy.Names) (B : Nat) (b : List UInt8) (w : World) (e : Ending) (w' : World) : Prop :=
  ∃ Ah nh ch As cs, e = .returned (.tuple #[.agg #[.int .u64 (r.2.buckets : Nat), .int .u64 (r.2.chain : Nat), .slice Ah nh ch, .slice As (24 * r.2.chain) cs], .int .i64 r.1]) ∧ NmM w' B b r.2 Ah nh ch As cs ∧ Below w.heap.size w w'
theorem names_nil {w w' : World} {B : Nat} {b : List UInt8} (x : Int) (hb : Below w.heap.size w w') : NamesE (x, ⟨0, 0, 0, 0⟩) B b w (.returned (.tuple #[.agg #[.int .u64 0, .int .u64 0, .slice none 0 0, .slice none 0 0], .int .i64 x])) w' :=
  ⟨none, 0, 0, none, 0, rfl, ⟨fun h => absurd h (Nat.lt_irrefl 0), Nat.le_refl _, Rd.none_ _ _ _ _, Nat.le_refl _, Nat.zero_lt_succ _, Nat.zero_le _⟩, hb⟩
theorem laidE_form {o : Option Nat} {size B : Nat} {b : List UInt8} {w w' : World} {e : Ending} (h : LaidE o size B b w e w') :
    ∃ A n c q, e = .returned (.tuple #[.slice A n c, .bool q]) ∧ ((q = false ∧ o = none) ∨ (q = true ∧ ∃ off, o = some off ∧ n = size ∧ Rd w' B 1 A n (bys (Dy.cut b off size)) ∧ n ≤ c)) ∧ Below w.heap.size w w' := by
  rcases h with ⟨⟨h1, rfl⟩ | ⟨off, A, c, h1, rfl, h2, h3⟩, hb⟩
  · exact ⟨none, 0, 0, false, rfl, .inl ⟨rfl, h1⟩, hb⟩
  · exact ⟨A, size, c, true, rfl, .inr ⟨rfl, off, h1, rfl, h2, h3⟩, hb⟩
theorem nmInfo : (Try.prog.info? 57).map (·.size) = some 4 := by kernel_rfl
theorem nmOne (a b : Int) (A : Option Addr) (n k : Nat) (A2 : Option Addr) (n2 k2 : Nat) : (#[.int .u64 a, .int .u64 b, .slice A n k, .slice A2 n2 k2] : Array Value).all (·.oneCell') = true := by simp [Value.oneCell']
theorem cut_num {b : List UInt8} {p n q s : Nat} (h : q + s ≤ n) : Wd.num (Dy.cut b p n) q s = Wd.num b (p + q) s := by
  unfold Wd.num Dy.cut
  congr 1
  rw [List.drop_take, List.take_take, List.drop_drop, Nat.min_eq_left (by omega)]

set_option maxRecDepth 100000 in
set_option maxHeartbeats 4000000 in
theorem names_any (B g : Nat) (d : Ds) (w : World) (hd : DsM w B g d d.L) (ho : DsOk d) (hbl : d.b.length = d.m) :
    Calls Try.prog 30 #[.pointer (some ⟨g, 0, none⟩)] w (NamesE (Dy.names d.b (El.loads d.segs) d.L) B d.b w) := by
  have hb0 : Below w.heap.size w (w.alloc (.cells #[.int .u64 0, .int .u64 0, .slice none 0 0, .slice none 0 0] 57)) := (Below.refl _ _).alloc (Nat.le_refl _) _
  have hk0 : Blk (w.alloc (.cells #[.int .u64 0, .int .u64 0, .slice none 0 0, .slice none 0 0] 57)) w.heap.size 57 [.int .u64 0, .int .u64 0, .slice none 0 0, .slice none 0 0] := Blk.new w 57 _
  have hd0 := hd.belowSz hb0
  obtain ⟨-, -, -, -, -, -, x6⟩ := hd0.cells
  have l4 := (look_tag hd0 (t := 4) rfl).1
  have hn : Dy.names d.b (El.loads d.segs) d.L = match Dy.val d.L 4 with
    | none => (0, ⟨0, 0, 0, 0⟩)
    | some at_ =>
      match Dy.laid d.b.length (El.loads d.segs) at_ 8 with
      | none => (25, ⟨0, 0, 0, 0⟩)
      | some p =>
        if 65 < Wd.num d.b (p + 4) 4 then (12, ⟨0, 0, 0, 0⟩)
        else match Dy.laid d.b.length (El.loads d.segs) at_ (8 + 4 * Wd.num d.b p 4 + 4 * Wd.num d.b (p + 4) 4), Dy.laid d.b.length (El.loads d.segs) ((Dy.val d.L 6).getD 0) (24 * Wd.num d.b (p + 4) 4) with
          | some h, some s => (0, ⟨Wd.num d.b p 4, Wd.num d.b (p + 4) 4, h, s⟩)
          | _, _ => (25, ⟨0, 0, 0, 0⟩) := rfl
  rw [hbl] at hn
  rw [hn]
  clear hn
  cases hv : Dy.val d.L 4 with
  | none =>
    rw [hv] at l4
    have l4' : (Instr.lookup 107 (.map (some d.gm)) (.int .u64 4) true).run Try.prog (w.alloc (.cells #[.int .u64 0, .int .u64 0, .slice none 0 0, .slice none 0 0] 57)) = .ok (.tuple #[.int .u64 0, .bool false]) _ := l4
    have Hb0 := hide hb0
    have Hk0 := hide hk0
    obtain ⟨gm, hgm⟩ : ∃ g, d.gm = g := ⟨_, rfl⟩
    rw [hgm] at x6 l4'
    dsimp only
    clear l4 hv hd hd0 ho hbl hb0 hk0 hgm
    go_enter Try.func30, Try.ntmps30
    go_wp2_with fail
    refine bodyPost_ret (results_cell_tmp (P := Try.prog) rfl _ _ w.heap.size 57 #[.int .u64 0, .int .u64 0, .slice none 0 0, .slice none 0 0] (0, 0) _ rfl (unhide Hk0) Try.underlying57 rfl nmInfo) rfl ?_
    exact names_nil 0 (unhide Hb0)
  | some at_ =>
    rw [hv] at l4
    have l4' : (Instr.lookup 107 (.map (some d.gm)) (.int .u64 4) true).run Try.prog (w.alloc (.cells #[.int .u64 0, .int .u64 0, .slice none 0 0, .slice none 0 0] 57)) = .ok (.tuple #[.int .u64 (at_ : Nat), .bool true]) _ := l4
    have hat : at_ < 18446744073709551616 := by have := val_lt ho 4; rw [hv] at this; exact this
    have KL := fun (w' : World) (hb : Below w.heap.size w w') (a s : Nat) (ha : a < 18446744073709551616) (hs : s < 18446744073709551616) => laid_any B g d d.L a s w' (hd.belowSz hb) ho ha hs
    have h6 := val_lt ho 6
    have hdz := fun (w' : World) (hb : Below w.heap.size w w') => (hd.belowSz hb).cells
    have hlk := fun (w' : World) (hb : Below w.heap.size w w') => (look_tag (hd.belowSz hb) (t := 6) rfl).2
    have hBw := hd.sz
    have hgw : g < w.heap.size := hd.blk.lt
    obtain ⟨v6, hv6⟩ : ∃ v, (Dy.val d.L 6).getD 0 = v := ⟨_, rfl⟩
    have hm32 := ho.m
    rw [hv6] at h6 hlk
    dsimp only at hlk ⊢
    rw [hv6]
    obtain ⟨lo, hlo⟩ : ∃ l, El.loads d.segs = l := ⟨_, rfl⟩
    obtain ⟨gm, hgm⟩ : ∃ g, d.gm = g := ⟨_, rfl⟩
    obtain ⟨b, hbb⟩ : ∃ b, d.b = b := ⟨_, rfl⟩
    obtain ⟨m, hmm⟩ : ∃ m, d.m = m := ⟨_, rfl⟩
    rw [hlo, hbb, hmm] at KL
    rw [hgm] at x6 l4' hlk
    rw [hgm] at hdz
    rw [hbb, hmm] at hbl
    rw [hmm] at hm32
    rw [hlo, hbb, hmm]
    have K8 := KL _ hb0 at_ 8 hat (by omega)
    have hli := fun a s o (h : Dy.laid m lo a s = some o) => Dy.laid_in h
    have HKL := hide KL
    have HK8 := hide K8
    have Hdz := hide hdz
    have Hlk := hide hlk
    have Hb0 := hide hb0
    have Hk0 := hide hk0
    have Hbl := hide hbl
    have Hli := hide hli
    obtain ⟨Res, hRes⟩ : ∃ R, (match Dy.laid m lo at_ 8 with
      | none => ((25 : Int), (⟨0, 0, 0, 0⟩ : Dy.Names))
      | some p =>
        if 65 < Wd.num b (p + 4) 4 then (12, ⟨0, 0, 0, 0⟩)
        else match Dy.laid m lo at_ (8 + 4 * Wd.num b p 4 + 4 * Wd.num b (p + 4) 4), Dy.laid m lo v6 (24 * Wd.num b (p + 4) 4) with
          | some h, some s => (0, ⟨Wd.num b p 4, Wd.num b (p + 4) 4, h, s⟩)
          | _, _ => (25, ⟨0, 0, 0, 0⟩)) = R := ⟨_, rfl⟩
    rw [hRes]
    have HRes := hide hRes
    clear l4 hv hd hd0 ho hbl hb0 hk0 hgm hbb hmm hlo hv6 KL K8 hdz hlk hli hRes
    go_enter Try.func30, Try.ntmps30
    go_wp2_with fail
    refine (unhide HK8).mono ?_
    rintro e w1 ⟨⟨hln, rfl⟩ | ⟨p, A1, c1, hln, rfl, hr1, hc1⟩, hb1⟩
    · have hR := unhide HRes
      rw [hln] at hR
      subst hR
      have HB1 := hide ((unhide Hb0).trans (hb1.mono (unhide Hb0).size))
      have HK1 := hide ((unhide Hk0).belowSz hb1)
      clear hb1 hln HRes HK8 x6 l4'
      go_wp2_with ((with_reducible refine (@id (wpList _ _ _ (Oper.mk none (Op.store 57 (.tmp 2) (.tmp 27)) _ _ _ none :: _) _ _) ?_)); refine wpList_store_row rfl 57 (.tmp 2) (.tmp 27) rfl w.heap.size #[.int .u64 0, .int .u64 0, .slice none 0 0, .slice none 0 0] rfl rfl 57 _ (unhide HK1) nmInfo rfl (nmOne _ _ _ _ _ _ _ _) ?_)
      refine bodyPost_ret (results_cell_tmp (P := Try.prog) rfl _ _ w.heap.size 57 #[.int .u64 0, .int .u64 0, .slice none 0 0, .slice none 0 0] (0, 0) _ rfl (setRow_heap _ _ _ _ _ _ (unhide HK1)) Try.underlying57 rfl nmInfo) rfl ?_
      exact names_nil 25 (below_setRow (unhide HB1) (Nat.le_refl _) _)
    have hR := unhide HRes
    rw [hln] at hR
    dsimp only at hR
    have hp8 := (unhide Hli) _ _ _ hln
    have HB1 := hide ((unhide Hb0).trans (hb1.mono (unhide Hb0).size))
    have HK1 := hide ((unhide Hk0).belowSz hb1)
    have Hr1 := hide hr1
    obtain ⟨bk, hbk⟩ : ∃ v, Wd.num b p 4 = v := ⟨_, rfl⟩
    obtain ⟨ch, hch⟩ : ∃ v, Wd.num b (p + 4) 4 = v := ⟨_, rfl⟩
    rw [hbk, hch] at hR
    have hbk4 : bk < 4294967296 := by rw [← hbk]; have := Wd.num_lt b p 4; simpa using this
    have hch4 : ch < 4294967296 := by rw [← hch]; have := Wd.num_lt b (p + 4) 4; simpa using this
    have hcl : (Dy.cut b p 8).length = 8 := by unfold Dy.cut; rw [List.length_take, List.length_drop, unhide Hbl]; omega
    have KN1 := fun (w' : World) (hb : Below w1.heap.size w1 w') => number_any A1 8 c1 B (Dy.cut b p 8) 0 4 w' (Nat.le_trans hBw (Nat.le_trans (unhide HB1).size hb.size)) ((unhide Hr1).below (hb.mono (Nat.le_trans hBw (unhide HB1).size))) (by unfold maxLen; omega) (by omega) (by omega)
    have KN2 := fun (w' : World) (hb : Below w1.heap.size w1 w') => number_any A1 8 c1 B (Dy.cut b p 8) 4 4 w' (Nat.le_trans hBw (Nat.le_trans (unhide HB1).size hb.size)) ((unhide Hr1).below (hb.mono (Nat.le_trans hBw (unhide HB1).size))) (by unfold maxLen; omega) (by omega) (by omega)
    rw [cut_num (by omega), Nat.add_zero, hbk] at KN1
    rw [cut_num (by omega), hch] at KN2
    have HN1 := hide (KN1 w1 (Below.refl _ _))
    have HN2 := hide KN2
    have HR := hide hR
    clear hb1 hln HRes HK8 x6 l4' KN1 KN2 hbk hch hcl hr1 hR
    go_wp2_with fail
    refine (unhide HN1).mono ?_
    rintro e w2 ⟨rfl, hb2⟩
    have HB2 := hide ((unhide HB1).trans (hb2.mono (unhide HB1).size))
    have HK2 := hide ((unhide HK1).belowSz hb2)
    have HN2' := hide ((unhide HN2) w2 hb2)
    clear hb2 HN1 HN2 Hr1
    go_wp2_with fail
    refine (unhide HN2').mono ?_
    rintro e w3 ⟨rfl, hb3⟩
    have HB3 := hide ((unhide HB2).trans (hb3.mono (unhide HB2).size))
    have hk3 := (unhide HK2).belowSz hb3
    have u0 := hk3.cell (i := 0) rfl
    have u1 := hk3.cell (i := 1) rfl
    have f0 := hk3.free 0
    have f1 := hk3.free 1
    have HK4 : Hid (Blk ((w3.setCell ⟨w.heap.size, 0, none⟩ (.int .u64 (bk : Nat))).setCell ⟨w.heap.size, 1, none⟩ (.int .u64 (ch : Nat))) w.heap.size 57 [.int .u64 (bk : Nat), .int .u64 (ch : Nat), .slice none 0 0, .slice none 0 0]) := hide ((hk3.set 0 _).set 1 _)
    have HB4 : Hid (Below w.heap.size w ((w3.setCell ⟨w.heap.size, 0, none⟩ (.int .u64 (bk : Nat))).setCell ⟨w.heap.size, 1, none⟩ (.int .u64 (ch : Nat)))) := hide (((unhide HB3).setCell (p := ⟨w.heap.size, 0, none⟩) (Nat.le_refl _) _).setCell (p := ⟨w.heap.size, 1, none⟩) (Nat.le_refl _) _)
    clear hb3 HB1 HK1 HB2 HK2 HN2' hk3
    by_cases hc65 : 65 < ch
    · have hR := unhide HR
      rw [if_pos hc65] at hR
      subst hR
      have g1 : decide (65 < ch) = true := by simpa using hc65
      have g2 : (65 : Int) < (ch : Int) := by omega
      clear hc65 HR
      go_wp2_with ((with_reducible refine (@id (wpList _ _ _ (Oper.mk none (Op.store 57 (.tmp 2) (.tmp 37)) _ _ _ none :: _) _ _) ?_)); refine wpList_store_row rfl 57 (.tmp 2) (.tmp 37) rfl w.heap.size #[.int .u64 0, .int .u64 0, .slice none 0 0, .slice none 0 0] rfl rfl 57 _ (unhide HK4) nmInfo rfl (nmOne _ _ _ _ _ _ _ _) ?_)
      refine bodyPost_ret (results_cell_tmp (P := Try.prog) rfl _ _ w.heap.size 57 #[.int .u64 0, .int .u64 0, .slice none 0 0, .slice none 0 0] (0, 0) _ rfl (setRow_heap _ _ _ _ _ _ (unhide HK4)) Try.underlying57 rfl nmInfo) rfl ?_
      exact names_nil 12 (below_setRow (unhide HB4) (Nat.le_refl _) _)
    have hR := unhide HR
    rw [if_neg hc65] at hR
    have g1 : decide (65 < ch) = false := by simpa using hc65
    have g2 : ¬ (65 : Int) < (ch : Int) := by omega
    obtain ⟨hs, hhs⟩ : ∃ v, 8 + 4 * bk + 4 * ch = v := ⟨_, rfl⟩
    rw [hhs] at hR
    have hsI : (8 : Int) + 4 * (bk : Int) + 4 * (ch : Int) = (hs : Int) := by omega
    have K9 := (unhide HKL) _ (unhide HB4) at_ hs hat (by omega)
    have HK9 := hide K9
    have HR2 := hide hR
    have Hhs := hide hhs
    clear hR HR K9 hhs
    go_wp2_with fail
    refine (unhide HK9).mono ?_
    rintro e w5 ⟨⟨hln2, rfl⟩ | ⟨ph, A5, c5, hln2, rfl, hr5, hc5⟩, hb5⟩
    · have hR := unhide HR2
      rw [hln2] at hR
      subst hR
      have hk5 := (unhide HK4).belowSz hb5
      have u2 := hk5.cell (i := 2) rfl
      have f2 := hk5.free 2
      have HB6 : Hid (Below w.heap.size w (w5.setCell ⟨w.heap.size, 2, none⟩ (.slice none 0 0))) := hide (((unhide HB4).trans (hb5.mono (unhide HB4).size)).setCell (p := ⟨w.heap.size, 2, none⟩) (Nat.le_refl _) _)
      have HK6 : Hid (Blk (w5.setCell ⟨w.heap.size, 2, none⟩ (.slice none 0 0)) w.heap.size 57 [.int .u64 (bk : Nat), .int .u64 (ch : Nat), .slice none 0 0, .slice none 0 0]) := hide (hk5.set 2 _)
      clear hb5 hln2 HR2 HK9 hk5
      go_wp2_with ((with_reducible refine (@id (wpList _ _ _ (Oper.mk none (Op.store 57 (.tmp 2) (.tmp 55)) _ _ _ none :: _) _ _) ?_)); refine wpList_store_row rfl 57 (.tmp 2) (.tmp 55) rfl w.heap.size #[.int .u64 0, .int .u64 0, .slice none 0 0, .slice none 0 0] rfl rfl 57 _ (unhide HK6) nmInfo rfl (nmOne _ _ _ _ _ _ _ _) ?_)
      refine bodyPost_ret (results_cell_tmp (P := Try.prog) rfl _ _ w.heap.size 57 #[.int .u64 0, .int .u64 0, .slice none 0 0, .slice none 0 0] (0, 0) _ rfl (setRow_heap _ _ _ _ _ _ (unhide HK6)) Try.underlying57 rfl nmInfo) rfl ?_
      exact names_nil 25 (below_setRow (unhide HB6) (Nat.le_refl _) _)
    have hR := unhide HR2
    rw [hln2] at hR
    have hk5 := (unhide HK4).belowSz hb5
    have u2 := hk5.cell (i := 2) rfl
    have f2 := hk5.free 2
    have HB5 := hide ((unhide HB4).trans (hb5.mono (unhide HB4).size))
    have HB6 : Hid (Below w.heap.size w (w5.setCell ⟨w.heap.size, 2, none⟩ (.slice A5 hs c5))) := hide ((unhide HB5).setCell (p := ⟨w.heap.size, 2, none⟩) (Nat.le_refl _) _)
    have HK6 : Hid (Blk (w5.setCell ⟨w.heap.size, 2, none⟩ (.slice A5 hs c5)) w.heap.size 57 [.int .u64 (bk : Nat), .int .u64 (ch : Nat), .slice A5 hs c5, .slice none 0 0]) := hide (hk5.set 2 _)
    have HR3 := hide hR
    have Hr5 := hide (hr5.setCell (p := ⟨w.heap.size, 2, none⟩) hBw (.slice A5 hs c5))
    clear hb5 hln2 HR2 HK9 hk5 hR hr5
    obtain ⟨ss, hss⟩ : ∃ v, 24 * ch = v := ⟨_, rfl⟩
    have hR := unhide HR3
    rw [hss] at hR
    have ssI : (24 : Int) * (ch : Int) = (ss : Int) := by omega
    have ssW : IntKind.u64.wrap (ss : Int) = (ss : Int) := by rw [IntKind.wrap_u64]; omega
    obtain ⟨W6, hW6⟩ : ∃ W, w5.setCell ⟨w.heap.size, 2, none⟩ (.slice A5 hs c5) = W := ⟨_, rfl⟩
    have hB6 := unhide HB6
    have hK6 := unhide HK6
    have hR5 := unhide Hr5
    rw [hW6] at hB6 hK6 hR5
    have KLs := (unhide HKL) W6.drew (below_drew' hB6) v6 ss h6 (by omega)
    have HSK : ∀ w', Below w.heap.size w w' → w'.cell? ⟨w.heap.size, 1, none⟩ = some (.int .u64 (ch : Nat)) → (Below w.heap.size w w' ∧ w'.cell? ⟨g, 6, none⟩ = some (.map (some gm)) ∧ w'.cell? ⟨w.heap.size, 1, none⟩ = some (.int .u64 (ch : Nat)) ∧ (Instr.lookup 107 (.map (some gm)) (.int .u64 6) false).run Try.prog w' = .ok (.int .u64 (v6 : Nat)) w') := by
      intro w' hb hc
      obtain ⟨-, -, -, -, -, -, z6⟩ := (unhide Hdz) w' hb
      exact ⟨hb, z6, hc, (unhide Hlk) w' hb⟩
    have HSK' := hide HSK
    have HKLs := hide KLs
    have HB7 := hide hB6
    have HK7 := hide hK6
    have Hr7 := hide hR5
    clear HSK KLs hB6 hK6 hR5 HB6 HK6 Hr5 HB5 HKL Hdz Hlk Hk0 Hb0 hR
    go_wp2_with fail
    clear hW6 u2 f2
    refine wp_region_held_drew (S := fun w' => Below w.heap.size w w' ∧ w'.cell? ⟨g, 6, none⟩ = some (.map (some gm)) ∧ w'.cell? ⟨w.heap.size, 1, none⟩ = some (.int .u64 (ch : Nat)) ∧ (Instr.lookup 107 (.map (some gm)) (.int .u64 6) false).run Try.prog w' = .ok (.int .u64 (v6 : Nat)) w') (by kernel_rfl) ((unhide HSK') _ (below_drew' (unhide HB7)) ((unhide HK7).drew.cell (i := 1) rfl)) (fun HS0 => ?_)
    refine takeD (i := 0) (d := some 57) (v := ?_) rfl rfl (by kernel_rfl) (by kernel_rfl) (by kernel_rfl) (fun _ _ _ h => h) (Or.inl ⟨by rfl, ?y0⟩) HS0 ?_
    case y0 => (intro w' hSw; (try dsimp only at hSw); go_simp; (try with_reducible rfl))
    simp only [Act.put, List.setIfInBounds_toArray, List.set_cons_zero, List.set_cons_succ]
    refine takeD (i := 1) (d := some 58) (v := ?_) rfl rfl (by kernel_rfl) (by kernel_rfl) (by kernel_rfl) (fun _ _ _ h => h) (Or.inl ⟨by rfl, ?y1⟩) HS0 ?_
    case y1 => (intro w' hSw; (try dsimp only at hSw); go_simp; (try with_reducible rfl))
    simp only [Act.put, List.setIfInBounds_toArray, List.set_cons_zero, List.set_cons_succ]
    refine takeD (i := 2) (d := some 59) (v := ?_) rfl rfl (by kernel_rfl) (by kernel_rfl) (by kernel_rfl) (fun _ _ _ h => h) (Or.inl ⟨by rfl, ?y2⟩) HS0 ?_
    case y2 => (intro w' hSw; (try dsimp only at hSw); go_simp; (try with_reducible rfl))
    simp only [Act.put, List.setIfInBounds_toArray, List.set_cons_zero, List.set_cons_succ]
    refine takeD (i := 3) (d := some 60) (v := ?_) rfl rfl (by kernel_rfl) (by kernel_rfl) (by kernel_rfl) (fun _ _ _ h => h) (Or.inl ⟨by rfl, ?y3⟩) HS0 ?_
    case y3 => (intro w' hSw; (try dsimp only at hSw); go_simp; (try with_reducible rfl))
    simp only [Act.put, List.setIfInBounds_toArray, List.set_cons_zero, List.set_cons_succ]
    refine takeD (i := 4) (d := some 61) (v := ?_) rfl rfl (by kernel_rfl) (by kernel_rfl) (by kernel_rfl) (fun _ _ _ h => h) (Or.inl ⟨by rfl, ?y4⟩) HS0 ?_
    case y4 => (intro w' hSw; (try dsimp only at hSw); go_simp; (try with_reducible rfl))
    simp only [Act.put, List.setIfInBounds_toArray, List.set_cons_zero, List.set_cons_succ]
    refine takeD (i := 5) (d := some 62) (v := ?_) rfl rfl (by kernel_rfl) (by kernel_rfl) (by kernel_rfl) (fun _ _ _ h => h) (Or.inl ⟨by rfl, ?y5⟩) HS0 ?_
    case y5 => (intro w' hSw; (try dsimp only at hSw); go_simp; (try with_reducible rfl))
    simp only [Act.put, List.setIfInBounds_toArray, List.set_cons_zero, List.set_cons_succ]
    refine takeD (i := 6) (d := some 63) (v := ?_) rfl rfl (by kernel_rfl) (by kernel_rfl) (by kernel_rfl) (fun _ _ _ h => h) (Or.inl ⟨by rfl, ?y6⟩) HS0 ?_
    case y6 => (intro w' hSw; (try dsimp only at hSw); go_simp; (try with_reducible rfl))
    simp only [Act.put, List.setIfInBounds_toArray, List.set_cons_zero, List.set_cons_succ]
    refine takeD (i := 7) (d := some 64) (v := ?_) rfl rfl (by kernel_rfl) (by kernel_rfl) (by kernel_rfl) (fun _ _ _ h => h) (Or.inl ⟨by rfl, ?y7⟩) HS0 ?_
    case y7 => (intro w' hSw; (try dsimp only at hSw); go_simp; (try with_reducible rfl))
    simp only [Act.put, List.setIfInBounds_toArray, List.set_cons_zero, List.set_cons_succ]
    refine takeD (i := 8) (d := some 65) (v := ?_) rfl rfl (by kernel_rfl) (by kernel_rfl) (by kernel_rfl) (fun _ _ _ h => h) (Or.inl ⟨by rfl, ?y8⟩) HS0 ?_
    case y8 => (intro w' hSw; (try dsimp only at hSw); go_simp; (try with_reducible rfl))
    simp only [Act.put, List.setIfInBounds_toArray, List.set_cons_zero, List.set_cons_succ]
    refine wpAnyH_ready (rs := [9]) (by kernel_rfl) (by simp) ?_
    refine AllReadyH.cons (i := 9) rfl (fun K hK => ?_) AllReadyH.nil
    rw [if_pos (by rfl)]
    go_simp
    go_at_call 54
    with_reducible refine (unhide HKLs).mono ?_
    intro e w8 h8
    obtain ⟨A8, n8, c8, bq, rfl, hf8, hb8⟩ := laidE_form h8
    have HB8 := hide ((below_drew' (unhide HB7)).trans (hb8.mono (below_drew' (unhide HB7)).size))
    have HK8 := hide ((unhide HK7).drew.belowSz hb8)
    have Hf8 := hide hf8
    have hr8 := ((unhide Hr7).drew).below (hb8.mono (Nat.le_trans hBw (below_drew' (unhide HB7)).size))
    have Hr8 := hide hr8
    clear hr8 hf8 hb8 h8
    refine hK.out _ _ ((unhide HSK') _ (unhide HB8) ((unhide HK8).cell (i := 1) rfl)) (fun hHeld => ?_)
    clear hK K HS0
    have HS0 := hHeld
    clear hHeld
    (try simp only [Act.put, List.setIfInBounds_toArray, List.set_cons_zero, List.set_cons_succ])
    refine takeD (i := 10) (d := some 56) (v := ?_) rfl rfl (by kernel_rfl) (by kernel_rfl) (by kernel_rfl) (fun _ _ _ h => h) (Or.inl ⟨by rfl, ?y10⟩) HS0 ?_
    case y10 => (intro w' hSw; (try dsimp only at hSw); go_simp; (try with_reducible rfl))
    simp only [Act.put, List.setIfInBounds_toArray, List.set_cons_zero, List.set_cons_succ]
    refine takeD (i := 11) (d := some 67) (v := ?_) rfl rfl (by kernel_rfl) (by kernel_rfl) (by kernel_rfl) (fun _ _ _ h => h) (Or.inl ⟨by rfl, ?y11⟩) HS0 ?_
    case y11 => (intro w' hSw; (try dsimp only at hSw); go_simp; (try with_reducible rfl))
    simp only [Act.put, List.setIfInBounds_toArray, List.set_cons_zero, List.set_cons_succ]
    refine takeD (i := 12) (d := some 68) (v := ?_) rfl rfl (by kernel_rfl) (by kernel_rfl) (by kernel_rfl) (fun _ _ _ h => h) (Or.inl ⟨by rfl, ?y12⟩) HS0 ?_
    case y12 => (intro w' hSw; (try dsimp only at hSw); go_simp; (try with_reducible rfl))
    simp only [Act.put, List.setIfInBounds_toArray, List.set_cons_zero, List.set_cons_succ]
    refine takeD (i := 13) (d := some 69) (v := ?_) rfl rfl (by kernel_rfl) (by kernel_rfl) (by kernel_rfl) (fun _ _ _ h => h) (Or.inl ⟨by rfl, ?y13⟩) HS0 ?_
    case y13 => (intro w' hSw; (try dsimp only at hSw); go_simp; (try with_reducible rfl))
    simp only [Act.put, List.setIfInBounds_toArray, List.set_cons_zero, List.set_cons_succ]
    have u3 := (unhide HK8).cell (i := 3) rfl
    have f3 := (unhide HK8).free 3
    have HB9 : Hid (Below w.heap.size w (w8.setCell ⟨w.heap.size, 3, none⟩ (.slice A8 n8 c8))) := hide ((unhide HB8).setCell (p := ⟨w.heap.size, 3, none⟩) (Nat.le_refl _) _)
    have HK9 : Hid (Blk (w8.setCell ⟨w.heap.size, 3, none⟩ (.slice A8 n8 c8)) w.heap.size 57 [.int .u64 (bk : Nat), .int .u64 (ch : Nat), .slice A5 hs c5, .slice A8 n8 c8]) := hide ((unhide HK8).set 3 _)
    refine wpAnyH_ready (rs := [14]) (by kernel_rfl) (by simp) ?_
    refine AllReadyH.cons (i := 14) rfl (fun K hK => ?_) AllReadyH.nil
    rw [if_pos (by rfl)]
    go_simp
    refine hK.out _ _ ((unhide HSK') _ (unhide HB9) ((unhide HK9).cell (i := 1) rfl)) (fun hHeld => ?_)
    clear hK K HS0
    have HS0 := hHeld
    clear hHeld
    (try simp only [Act.put, List.setIfInBounds_toArray, List.set_cons_zero, List.set_cons_succ])
    refine takeD (i := 15) (d := some 7) (v := ?_) rfl rfl (by kernel_rfl) (by kernel_rfl) (by kernel_rfl) (fun _ _ _ h => h) (Or.inl ⟨by rfl, ?y15⟩) HS0 ?_
    case y15 => (intro w' hSw; (try dsimp only at hSw); go_simp; (try with_reducible rfl))
    simp only [Act.put, List.setIfInBounds_toArray, List.set_cons_zero, List.set_cons_succ]
    refine wpAnyH_done (by kernel_rfl) ?_ _
    clear HSK' HKLs HS0 u3 f3
    cases bq with
    | false =>
      rcases unhide Hf8 with ⟨-, ho8⟩ | ⟨h8, _⟩
      · have hR := unhide HR3
        rw [hss, ho8] at hR
        subst hR
        clear ho8 HR3 Hf8
        go_wp2_with ((with_reducible refine (@id (wpList _ _ _ (Oper.mk none (Op.store 57 (.tmp 2) (.tmp 72)) _ _ _ none :: _) _ _) ?_)); refine wpList_store_row rfl 57 (.tmp 2) (.tmp 72) rfl w.heap.size #[.int .u64 0, .int .u64 0, .slice none 0 0, .slice none 0 0] rfl rfl 57 _ (unhide HK9) nmInfo rfl (nmOne _ _ _ _ _ _ _ _) ?_)
        refine bodyPost_ret (results_cell_tmp (P := Try.prog) rfl _ _ w.heap.size 57 #[.int .u64 0, .int .u64 0, .slice none 0 0, .slice none 0 0] (0, 0) _ rfl (setRow_heap _ _ _ _ _ _ (unhide HK9)) Try.underlying57 rfl nmInfo) rfl ?_
        exact names_nil 25 (below_setRow (unhide HB9) (Nat.le_refl _) _)
      · cases h8
    | true =>
    rcases unhide Hf8 with ⟨h8, _⟩ | ⟨-, off8, ho8, rfl, hr8', hc8⟩
    · cases h8
    have hR := unhide HR3
    rw [hss, ho8] at hR
    subst hR
    have hnm : NmM (w8.setCell ⟨w.heap.size, 3, none⟩ (.slice A8 n8 c8)) B b ⟨bk, ch, ph, off8⟩ A5 hs c5 A8 c8 := by
      refine ⟨fun _ => ⟨(unhide Hhs).symm, (unhide Hr8).setCell (p := ⟨w.heap.size, 3, none⟩) hBw _⟩, hc5, ?_, ?_, hbk4, by show ch ≤ 65; omega⟩
      · show Rd _ B 1 A8 (24 * ch) (bys (Dy.cut b off8 (24 * ch)))
        rw [hss]
        exact hr8'.setCell (p := ⟨w.heap.size, 3, none⟩) hBw _
      · show 24 * ch ≤ c8
        rw [hss]
        exact hc8
    have Hnm := hide hnm
    have hssn := hide hss
    clear ho8 HR3 Hf8 hr8' hnm hss ssI ssW hsI
    go_wp2_with (first
      | ((with_reducible refine (@id (wpList _ _ _ (Oper.mk _ (Op.load 57 (.tmp 2)) _ _ _ none :: _) _ _) ?_)); refine wpList_load_row rfl 57 (.tmp 2) rfl w.heap.size rfl 57 #[.int .u64 (bk : Nat), .int .u64 (ch : Nat), .slice A5 hs c5, .slice A8 n8 c8] (0, 0) _ (unhide HK9) Try.underlying57 rfl nmInfo ?_)
      | ((with_reducible refine (@id (wpList _ _ _ (Oper.mk none (Op.store 57 (.tmp 2) (.tmp 73)) _ _ _ none :: _) _ _) ?_)); refine wpList_store_row rfl 57 (.tmp 2) (.tmp 73) rfl w.heap.size #[.int .u64 (bk : Nat), .int .u64 (ch : Nat), .slice A5 hs c5, .slice A8 n8 c8] rfl rfl 57 _ (unhide HK9) nmInfo rfl (nmOne _ _ _ _ _ _ _ _) ?_; rw [setRow_same (unhide HK9)]))
    refine bodyPost_ret (results_cell_tmp (P := Try.prog) rfl _ _ w.heap.size 57 #[.int .u64 (bk : Nat), .int .u64 (ch : Nat), .slice A5 hs c5, .slice A8 n8 c8] (0, 0) _ rfl (unhide HK9) Try.underlying57 rfl nmInfo) rfl ?_
    refine ⟨A5, hs, c5, A8, c8, ?_, unhide Hnm, unhide HB9⟩
    show _ = Ending.returned (.tuple #[.agg #[.int .u64 (bk : Nat), .int .u64 (ch : Nat), .slice A5 hs c5, .slice A8 (24 * ch) c8], .int .i64 0])
    rw [unhide hssn]
    rfl
end Go.Proofs.Ytdminnhfgdoibaa
namespace Go.Proofs.Ytdminnhfgdoibaa
set_option linter.unusedVariables false
set_option linter.unusedSimpArgs false
open Go.RowKit

theorem byteTyD : SlTy Try.prog 22 5 1 1 := slTy_mk (z := .int .u8 0) Try.underlying22 (by kernel_rfl) rfl (by omega) (by omega)
theorem bys_oneD (b : List UInt8) : ∀ u ∈ bys b, u.oneCell' = true := by
  intro u hu
  obtain ⟨x, _, rfl⟩ := List.mem_map.1 hu
  simp [Value.oneCell']
theorem own_emptyD (w : World) (e : TypeId) : (w.alloc (.cells #[] e)).ownsRow w.heap.size e 1 (.slice (some ⟨w.heap.size, 0, none⟩) 0 0) 0 [] :=
  ⟨rfl, .inr ⟨w.heap.size, 0, #[], rfl, Nat.le_refl _, heap_alloc_new _ _, Nat.le_refl _, by decide, rfl, rfl⟩⟩
def BytesE (xs : List UInt8) (w : World) (e : Ending) (w' : World) : Prop :=
  ∃ A' c', e = .returned (.slice A' xs.length c') ∧ w'.ownsRow w.heap.size 5 1 (.slice A' xs.length c') xs.length (bys xs) ∧ Below w.heap.size w w'
set_option maxRecDepth 100000 in
set_option maxHeartbeats 1000000 in
theorem bclone_any (A : Option Addr) (m c B : Nat) (b : List UInt8) (w : World) (hB : B ≤ w.heap.size) (hb : Rd w B 1 A m (bys b)) (hm : m ≤ 4294967296) :
    Calls Try.prog 55 #[.slice A m c] w (BytesE b w) := by
  have hl : b.length = m := by simpa [bys] using hb.len1
  have q : ∀ (w : World) (a : Option Addr) (n c n' c' : Nat), (binOp .eql 22 (.slice a n c) (.slice none n' c')).run Try.prog w = .ok (.bool a.isNone) w := fun w a n c n' c' => Lib.run_eql_slice_nil w _ _ a n c n' c' Try.underlying22
  cases A with
  | none =>
    have h0 : bys b = [] := by
      rcases hb.2 with h0 | ⟨b, off, h1, _⟩
      · exact h0
      · cases h1
    have hx : b = [] := by simpa [bys] using h0
    subst hx
    simp only [List.length_nil] at hl
    subst hl
    have q1 : (none : Option Addr).isNone = true := rfl
    clear h0 hb
    go_enter Try.func55, Try.ntmps55
    go_wp2_with fail
    go_ret
    exact ⟨none, 0, rfl, World.ownsRow_nil _ _ _ _, Below.refl _ _⟩
  | some a =>
    have q1 : (some a : Option Addr).isNone = false := rfl
    have Hm := hide (own_emptyD w 5)
    have hb1 : Below w.heap.size w (w.alloc (.cells #[] 5)) := (Below.refl _ _).alloc (Nat.le_refl _) _
    have Hb1 := hide hb1
    have Hr := hide (hb.below (hb1.mono hB))
    have Hl := hide hl
    clear hb1 hl hb
    go_enter Try.func55, Try.ntmps55
    go_wp2_with (at_builtin; refine wpList_app byteTyD rfl _ _ rfl w.heap.size (.slice (some ⟨w.heap.size, 0, none⟩) 0 0) 0 [] rfl (unhide Hm) B (some a) m c _ rfl (unhide Hr) (bys_oneD _) (by omega) (unhide Hb1).size ?_; intro A4 c4 w4 ho4 hg4 hat4; have hb4 := (unhide Hb1).grown hg4 (unhide Hb1).size (fun k hk => ((unhide Hm).lt k hk).1); simp only [Nat.zero_add, List.nil_append] at ho4 ⊢; have Ho4 := hide ho4; have Hb4 := hide hb4; clear ho4 hg4 hat4 hb4)
    go_ret
    have hT : BytesE b w (.returned (.slice A4 m c4)) w4 := by
      unfold BytesE
      rw [unhide Hl]
      exact ⟨A4, c4, rfl, unhide Ho4, unhide Hb4⟩
    exact hT

theorem tableE_form {o : Option (Nat × Nat)} {B : Nat} {b : List UInt8} {w w' : World} {e : Ending} (h : TableE o B b w e w') :
    ∃ A n c q, e = .returned (.tuple #[.slice A n c, .bool q]) ∧ ((q = false ∧ o = none) ∨ (q = true ∧ ∃ p, o = some (p, n) ∧ Rd w' B 1 A n (bys (Dy.cut b p n)) ∧ n ≤ c)) ∧ Below w.heap.size w w' := by
  rcases h with ⟨⟨h1, rfl⟩ | ⟨p, n, A, c, h1, rfl, h2, h3⟩, hb⟩
  · exact ⟨none, 0, 0, false, rfl, .inl ⟨rfl, h1⟩, hb⟩
  · exact ⟨A, n, c, true, rfl, .inr ⟨rfl, p, h1, h2, h3⟩, hb⟩
/-- What relas answers. -/
def RelasE (r : Int × List UInt8) (w : World) (e : Ending) (w' : World) : Prop :=
  ∃ A' c', e = .returned (.tuple #[.slice A' r.2.length c', .int .i64 r.1]) ∧ w'.ownsRow w.heap.size 5 1 (.slice A' r.2.length c') r.2.length (bys r.2) ∧ Below w.heap.size w w'
theorem relas_nil {w w' : World} (x : Int) (hb : Below w.heap.size w w') : RelasE (x, []) w (.returned (.tuple #[.slice none 0 0, .int .i64 x])) w' :=
  ⟨none, 0, rfl, World.ownsRow_nil _ _ _ _, hb⟩
theorem table_len {n : Nat} {l : List El.Sg} {L : List (Nat × Nat)} {a s p k : Nat} (h : Dy.table n l L a s = some (p, k)) : k = (Dy.val L s).getD 0 ∨ k = 0 := by
  unfold Dy.table at h
  split at h
  · injection h with h; injection h with h1 h2; exact .inr h2.symm
  · cases hl : Dy.laid n l _ ((Dy.val L s).getD 0) with
    | none => rw [hl] at h; cases h
    | some o => rw [hl] at h; injection h with h; injection h with h1 h2; exact .inl h2.symm
theorem table_cut {n : Nat} {l : List El.Sg} {L : List (Nat × Nat)} {a s p k : Nat} {b : List UInt8} (hb : b.length = n) (h : Dy.table n l L a s = some (p, k)) : (Dy.cut b p k).length = k := by
  unfold Dy.table at h
  split at h
  · injection h with h; injection h with h1 h2; subst h1 h2; rfl
  · cases hl : Dy.laid n l _ ((Dy.val L s).getD 0) with
    | none => rw [hl] at h; cases h
    | some o =>
      rw [hl] at h
      injection h with h; injection h with h1 h2
      subst h1 h2
      have := Dy.laid_in hl
      unfold Dy.cut
      rw [List.length_take, List.length_drop]
      omega

set_option maxRecDepth 100000 in
set_option maxHeartbeats 4000000 in
theorem relas_any (B g : Nat) (d : Ds) (w : World) (hd : DsM w B g d d.L) (ho : DsOk d) (hbl : d.b.length = d.m) :
    Calls Try.prog 31 #[.pointer (some ⟨g, 0, none⟩)] w (RelasE (Dy.relaB d.b (El.loads d.segs) d.L) w) := by
  have hBw := hd.sz
  have hdz := fun (w' : World) (hb : Below w.heap.size w w') => (hd.belowSz hb).cells
  have hl8 := fun (w' : World) (hb : Below w.heap.size w w') => (look_tag (hd.belowSz hb) (t := 8) rfl).2
  have hl2 := fun (w' : World) (hb : Below w.heap.size w w') => (look_tag (hd.belowSz hb) (t := 2) rfl).2
  have KT7 := fun (w' : World) (hb : Below w.heap.size w w') => table_any B g d 7 8 w' (hd.belowSz hb) ho rfl rfl
  have KT23 := fun (w' : World) (hb : Below w.heap.size w w') => table_any B g d 23 2 w' (hd.belowSz hb) ho rfl rfl
  have h8 := val_lt ho 8
  have h2 := val_lt ho 2
  have hlen7 := fun p k h => table_len (n := d.m) (l := El.loads d.segs) (L := d.L) (a := 7) (s := 8) (p := p) (k := k) h
  have hlen23 := fun p k h => table_len (n := d.m) (l := El.loads d.segs) (L := d.L) (a := 23) (s := 2) (p := p) (k := k) h
  have hcut7 := fun p k h => table_cut (n := d.m) (l := El.loads d.segs) (L := d.L) (a := 7) (s := 8) (p := p) (k := k) (b := d.b) hbl h
  have hcut23 := fun p k h => table_cut (n := d.m) (l := El.loads d.segs) (L := d.L) (a := 23) (s := 2) (p := p) (k := k) (b := d.b) hbl h
  have hr : Dy.relaB d.b (El.loads d.segs) d.L = if ((Dy.val d.L 8).getD 0) % 24 ≠ 0 ∨ ((Dy.val d.L 2).getD 0) % 24 ≠ 0 then ((25 : Int), ([] : List UInt8))
    else if 1536 < (Dy.val d.L 8).getD 0 + (Dy.val d.L 2).getD 0 then (12, [])
    else match Dy.table d.m (El.loads d.segs) d.L 7 8, Dy.table d.m (El.loads d.segs) d.L 23 2 with
      | some x, some y => (0, Dy.cut d.b x.1 x.2 ++ Dy.cut d.b y.1 y.2)
      | _, _ => (25, []) := by unfold Dy.relaB; rw [hbl]; rfl
  rw [hr]
  clear hr
  have hm32 := ho.m
  obtain ⟨v8, hv8⟩ : ∃ v, (Dy.val d.L 8).getD 0 = v := ⟨_, rfl⟩
  obtain ⟨v2, hv2⟩ : ∃ v, (Dy.val d.L 2).getD 0 = v := ⟨_, rfl⟩
  rw [hv8] at h8 hl8 hlen7 ⊢
  rw [hv2] at h2 hl2 hlen23 ⊢
  obtain ⟨o1, ho1⟩ : ∃ o, Dy.table d.m (El.loads d.segs) d.L 7 8 = o := ⟨_, rfl⟩
  obtain ⟨o2, ho2⟩ : ∃ o, Dy.table d.m (El.loads d.segs) d.L 23 2 = o := ⟨_, rfl⟩
  rw [ho1] at KT7 hlen7 hcut7 ⊢
  rw [ho2] at KT23 hlen23 hcut23 ⊢
  obtain ⟨gm, hgm⟩ : ∃ g, d.gm = g := ⟨_, rfl⟩
  obtain ⟨b, hbb⟩ : ∃ b, d.b = b := ⟨_, rfl⟩
  rw [hgm] at hl8 hl2 hdz
  rw [hbb] at KT7 KT23 hcut7 hcut23 ⊢
  obtain ⟨Res, hRes⟩ : ∃ R, (if v8 % 24 ≠ 0 ∨ v2 % 24 ≠ 0 then ((25 : Int), ([] : List UInt8))
    else if 1536 < v8 + v2 then (12, [])
    else match o1, o2 with
      | some x, some y => (0, Dy.cut b x.1 x.2 ++ Dy.cut b y.1 y.2)
      | _, _ => (25, [])) = R := ⟨_, rfl⟩
  rw [hRes]
  have HRes := hide hRes
  have HT7 := hide KT7
  have HT23 := hide KT23
  have Hlen7 := hide hlen7
  have Hlen23 := hide hlen23
  have Hcut7 := hide hcut7
  have Hcut23 := hide hcut23
  have HSK : ∀ w', Below w.heap.size w w' → (w'.cell? ⟨g, 6, none⟩ = some (.map (some gm)) ∧ (Instr.lookup 107 (.map (some gm)) (.int .u64 8) false).run Try.prog w' = .ok (.int .u64 (v8 : Nat)) w' ∧ (Instr.lookup 107 (.map (some gm)) (.int .u64 2) false).run Try.prog w' = .ok (.int .u64 (v2 : Nat)) w') := by
    intro w' hb
    obtain ⟨-, -, -, -, -, -, z6⟩ := hdz w' hb
    exact ⟨z6, hl8 w' hb, hl2 w' hb⟩
  have HSK' := hide HSK
  clear hd ho hbl hdz hl8 hl2 KT7 KT23 hlen7 hlen23 hcut7 hcut23 hv8 hv2 ho1 ho2 hgm hbb hRes HSK
  go_enter Try.func31, Try.ntmps31
  go_wp2_with fail
  refine wp_region_held_drew (S := fun w' => w'.cell? ⟨g, 6, none⟩ = some (.map (some gm)) ∧ (Instr.lookup 107 (.map (some gm)) (.int .u64 8) false).run Try.prog w' = .ok (.int .u64 (v8 : Nat)) w' ∧ (Instr.lookup 107 (.map (some gm)) (.int .u64 2) false).run Try.prog w' = .ok (.int .u64 (v2 : Nat)) w') (by kernel_rfl) ((unhide HSK') _ (below_drew' (Below.refl _ _))) (fun HS0 => ?_)
  refine takeD (i := 0) (d := some 10) (v := ?_) rfl rfl (by kernel_rfl) (by kernel_rfl) (by kernel_rfl) (fun _ _ _ h => h) (Or.inl ⟨by rfl, ?y0⟩) HS0 ?_
  case y0 => (intro w' hSw; (try dsimp only at hSw); go_simp; (try with_reducible rfl))
  simp only [Act.put, List.setIfInBounds_toArray, List.set_cons_zero, List.set_cons_succ]
  refine takeD (i := 1) (d := some 11) (v := ?_) rfl rfl (by kernel_rfl) (by kernel_rfl) (by kernel_rfl) (fun _ _ _ h => h) (Or.inl ⟨by rfl, ?y1⟩) HS0 ?_
  case y1 => (intro w' hSw; (try dsimp only at hSw); go_simp; (try with_reducible rfl))
  simp only [Act.put, List.setIfInBounds_toArray, List.set_cons_zero, List.set_cons_succ]
  refine takeD (i := 2) (d := some 12) (v := ?_) rfl rfl (by kernel_rfl) (by kernel_rfl) (by kernel_rfl) (fun _ _ _ h => h) (Or.inl ⟨by rfl, ?y2⟩) HS0 ?_
  case y2 => (intro w' hSw; (try dsimp only at hSw); go_simp; (try with_reducible rfl))
  simp only [Act.put, List.setIfInBounds_toArray, List.set_cons_zero, List.set_cons_succ]
  refine takeD (i := 3) (d := some 13) (v := ?_) rfl rfl (by kernel_rfl) (by kernel_rfl) (by kernel_rfl) (fun _ _ _ h => h) (Or.inl ⟨by rfl, ?y3⟩) HS0 ?_
  case y3 => (intro w' hSw; (try dsimp only at hSw); go_simp; (try with_reducible rfl))
  simp only [Act.put, List.setIfInBounds_toArray, List.set_cons_zero, List.set_cons_succ]
  refine takeD (i := 4) (d := some 14) (v := ?_) rfl rfl (by kernel_rfl) (by kernel_rfl) (by kernel_rfl) (fun _ _ _ h => h) (Or.inl ⟨by rfl, ?y4⟩) HS0 ?_
  case y4 => (intro w' hSw; (try dsimp only at hSw); go_simp; (try with_reducible rfl))
  simp only [Act.put, List.setIfInBounds_toArray, List.set_cons_zero, List.set_cons_succ]
  refine takeD (i := 5) (d := some 15) (v := ?_) rfl rfl (by kernel_rfl) (by kernel_rfl) (by kernel_rfl) (fun _ _ _ h => h) (Or.inl ⟨by rfl, ?y5⟩) HS0 ?_
  case y5 => (intro w' hSw; (try dsimp only at hSw); go_simp; (try with_reducible rfl))
  simp only [Act.put, List.setIfInBounds_toArray, List.set_cons_zero, List.set_cons_succ]
  refine takeD (i := 6) (d := some 16) (v := ?_) rfl rfl (by kernel_rfl) (by kernel_rfl) (by kernel_rfl) (fun _ _ _ h => h) (Or.inl ⟨by rfl, ?y6⟩) HS0 ?_
  case y6 => (intro w' hSw; (try dsimp only at hSw); go_simp; (try with_reducible rfl))
  simp only [Act.put, List.setIfInBounds_toArray, List.set_cons_zero, List.set_cons_succ]
  refine takeD (i := 7) (d := some 17) (v := ?_) rfl rfl (by kernel_rfl) (by kernel_rfl) (by kernel_rfl) (fun _ _ _ h => h) (Or.inl ⟨by rfl, ?y7⟩) HS0 ?_
  case y7 => (intro w' hSw; (try dsimp only at hSw); go_simp; (try with_reducible rfl))
  simp only [Act.put, List.setIfInBounds_toArray, List.set_cons_zero, List.set_cons_succ]
  refine takeD (i := 8) (d := some 18) (v := ?_) rfl rfl (by kernel_rfl) (by kernel_rfl) (by kernel_rfl) (fun _ _ _ h => h) (Or.inl ⟨by rfl, ?y8⟩) HS0 ?_
  case y8 => (intro w' hSw; (try dsimp only at hSw); go_simp; (try with_reducible rfl))
  simp only [Act.put, List.setIfInBounds_toArray, List.set_cons_zero, List.set_cons_succ]
  refine takeD (i := 9) (d := some 19) (v := ?_) rfl rfl (by kernel_rfl) (by kernel_rfl) (by kernel_rfl) (fun _ _ _ h => h) (Or.inl ⟨by rfl, ?y9⟩) HS0 ?_
  case y9 => (intro w' hSw; (try dsimp only at hSw); go_simp; (try with_reducible rfl))
  simp only [Act.put, List.setIfInBounds_toArray, List.set_cons_zero, List.set_cons_succ]
  refine takeD (i := 10) (d := some 4) (v := ?_) rfl rfl (by kernel_rfl) (by kernel_rfl) (by kernel_rfl) (fun _ _ _ h => h) (Or.inl ⟨by rfl, ?y10⟩) HS0 ?_
  case y10 => (intro w' hSw; (try dsimp only at hSw); go_simp; (try with_reducible rfl))
  simp only [Act.put, List.setIfInBounds_toArray, List.set_cons_zero, List.set_cons_succ]
  refine takeD (i := 11) (d := some 5) (v := ?_) rfl rfl (by kernel_rfl) (by kernel_rfl) (by kernel_rfl) (fun _ _ _ h => h) (Or.inl ⟨by rfl, ?y11⟩) HS0 ?_
  case y11 => (intro w' hSw; (try dsimp only at hSw); go_simp; (try with_reducible rfl))
  simp only [Act.put, List.setIfInBounds_toArray, List.set_cons_zero, List.set_cons_succ]
  refine wpAnyH_done (by kernel_rfl) ?_ _
  clear HS0 HSK'
  have HB1 : Hid (Below w.heap.size w w.drew) := hide (below_drew' (Below.refl _ _))
  generalize w.drew = w1 at *
  by_cases hmod : v8 % 24 ≠ 0 ∨ v2 % 24 ≠ 0
  · have hR := unhide HRes
    rw [if_pos hmod] at hR
    subst hR
    have g1 : (((v8 : Int) % 24 + (v2 : Int) % 24) != 0) = true := by simp; omega
    clear hmod HRes
    go_wp2_with fail
    go_ret2
    exact relas_nil 25 (unhide HB1)
  have hR := unhide HRes
  rw [if_neg hmod] at hR
  have g1 : (((v8 : Int) % 24 + (v2 : Int) % 24) != 0) = false := by simp; omega
  by_cases hbig : 1536 < v8 + v2
  · rw [if_pos hbig] at hR
    subst hR
    clear hmod HRes
    by_cases h88 : 1536 < v8
    · have g2 : (1536 : Int) < (v8 : Int) := by omega
      clear hbig
      go_wp2_with fail
      go_ret2
      exact relas_nil 12 (unhide HB1)
    · have g2 : ¬ (1536 : Int) < (v8 : Int) := by omega
      have g3 : (1536 : Int) - (v8 : Int) < (v2 : Int) := by omega
      clear hbig
      go_wp2_with fail
      go_ret2
      exact relas_nil 12 (unhide HB1)
  rw [if_neg hbig] at hR
  have g2 : ¬ (1536 : Int) < (v8 : Int) := by omega
  have g3 : ¬ (1536 : Int) - (v8 : Int) < (v2 : Int) := by omega
  have HR := hide hR
  have K7 := hide ((unhide HT7) w1 (unhide HB1))
  clear hR HRes hmod
  go_wp2_with fail
  refine (unhide K7).mono ?_
  intro e w2 h
  obtain ⟨A2, n2, c2, q2, rfl, hf2, hb2⟩ := tableE_form h
  have HB2 := hide ((unhide HB1).trans (hb2.mono (unhide HB1).size))
  have Hf2 := hide hf2
  have K23 := hide ((unhide HT23) w2 (unhide HB2))
  clear h hf2 hb2 K7
  go_wp2_with fail
  refine (unhide K23).mono ?_
  intro e w3 h
  obtain ⟨A3, n3, c3, q3, rfl, hf3, hb3⟩ := tableE_form h
  have HB3 := hide ((unhide HB2).trans (hb3.mono (unhide HB2).size))
  have Hf3 := hide hf3
  have Hb23 := hide hb3
  clear h hf3 hb3 K23
  cases q2 with
  | false =>
    rcases unhide Hf2 with ⟨-, h0⟩ | ⟨h0, _⟩
    · subst h0
      have hR := unhide HR
      have hR : Res = (25, []) := by rw [← hR]; first | done | (cases o2 <;> rfl)
      subst hR
      clear HR
      go_wp2_with fail
      go_ret2
      exact relas_nil 25 (unhide HB3)
    · cases h0
  | true =>
  cases q3 with
  | false =>
    rcases unhide Hf3 with ⟨-, h0⟩ | ⟨h0, _⟩
    · subst h0
      have hR := unhide HR
      have hR : Res = (25, []) := by rw [← hR]; first | done | (cases o1 <;> rfl)
      subst hR
      clear HR
      go_wp2_with fail
      go_ret2
      exact relas_nil 25 (unhide HB3)
    · cases h0
  | true =>
  rcases unhide Hf2 with ⟨h0, _⟩ | ⟨-, p2, rfl, hr2, hc2⟩
  · cases h0
  rcases unhide Hf3 with ⟨h0, _⟩ | ⟨-, p3, rfl, hr3, hc3⟩
  · cases h0
  have hl2 : n2 ≤ 1536 := by rcases (unhide Hlen7) _ _ rfl with h | h <;> omega
  have hl3 : n3 ≤ 1536 := by rcases (unhide Hlen23) _ _ rfl with h | h <;> omega
  have hR := unhide HR
  dsimp only at hR
  subst hR
  have hBw2 : B ≤ w2.heap.size := Nat.le_trans hBw (unhide HB2).size
  have hr23 := hr2.below ((unhide Hb23).mono hBw2)
  have hBw3 : B ≤ w3.heap.size := Nat.le_trans hBw (unhide HB3).size
  have KC := bclone_any A2 n2 c2 B (Dy.cut b p2 n2) w3 hBw3 hr23 (by omega)
  have hx2 := (unhide Hcut7) _ _ rfl
  have hx3 := (unhide Hcut23) _ _ rfl
  obtain ⟨X2, hX2⟩ : ∃ X, Dy.cut b p2 n2 = X := ⟨_, rfl⟩
  obtain ⟨X3, hX3⟩ : ∃ X, Dy.cut b p3 n3 = X := ⟨_, rfl⟩
  rw [hX2] at KC hx2 ⊢
  rw [hX3] at hr3 hx3 ⊢
  unfold BytesE at KC
  rw [hx2] at KC
  have HKC := hide KC
  have Hr3 := hide hr3
  have HX2 := hide hX2
  have HX3 := hide hX3
  have Hx2 := hide hx2
  have Hx3 := hide hx3
  clear KC hr2 hr23 hr3 hx2 hx3 hX2 hX3 Hf2 Hf3 HR Hlen7 Hlen23 Hcut7 Hcut23 HT7 HT23
  go_wp2_with fail
  refine (unhide HKC).mono ?_
  rintro e w4 ⟨A4, c4, rfl, ho4, hb4⟩
  have Ho4 := hide ho4
  have HB4 := hide ((unhide HB3).trans (hb4.mono (unhide HB3).size))
  have Hr4 := hide ((unhide Hr3).below (hb4.mono hBw3))
  have Hb34 := hide hb4
  clear ho4 hb4 HKC
  go_wp2_with (at_builtin; refine wpList_app byteTyD rfl _ _ rfl w3.heap.size _ n2 (bys X2) rfl (unhide Ho4) B A3 n3 c3 (bys X3) rfl (unhide Hr4) (bys_oneD _) (by omega) (unhide Hb34).size ?_; intro A5 c5 w5 ho5 hg5 hk5; have Ho5 := hide ho5; have HB5 := hide ((unhide HB4).grown hg5 (unhide HB4).size (fun k hk => Nat.le_trans (unhide HB3).size ((unhide Ho4).lt k hk).1) : Below w.heap.size w w5); clear ho5 hg5 hk5)
  go_ret2
  have hT : RelasE (0, Dy.cut b p2 n2 ++ Dy.cut b p3 n3) w (.returned (.tuple #[.slice A5 (n2 + n3) c5, .int .i64 0])) w5 := by
    rw [unhide HX2, unhide HX3]
    unfold RelasE
    dsimp only
    rw [List.length_append, unhide Hx2, unhide Hx3, show bys (X2 ++ X3) = bys X2 ++ bys X3 by unfold bys; rw [List.map_append]]
    exact ⟨A5, c5, rfl, own_base (unhide Ho5) (unhide HB3).size, unhide HB5⟩
  exact hT
end Go.Proofs.Ytdminnhfgdoibaa
namespace Go.Proofs.Ytdminnhfgdoibaa
set_option linter.unusedVariables false
set_option linter.unusedSimpArgs false
open Go.RowKit

theorem wp_app1g {P : Program} {t e : TypeId} {size bytes : Nat} (T : SlTy P t e size bytes) {W : World} {o : Oper} {a : Act} {K : Act → World → Prop} {Q : Exit → Act → World → Prop} (s x : Operand)
    (ho : o.op = .call { callee := .builtin .append, args := #[s, x], argTypes := #[t, t] })
    (base : Nat) (v : Value) (n : Nat) (xs : List Value) (hs : a.eval s = v) (hown : W.ownsRow base e size v n xs)
    (cs : Array Value) (g : Nat) (hx : a.eval x = .slice (some ⟨g, 0, none⟩) 1 1) (hg : g = W.heap.size) (hcs : cs.size = size) (h1 : ∀ u ∈ cs.toList, u.oneCell' = true)
    (hb : (n + 1) * bytes ≤ 140737488355328) (hbase : base ≤ W.heap.size)
    (h : ∀ A' c' w', w'.ownsRow base e size (.slice A' (n + 1) c') (n + 1) (xs ++ cs.toList) → W.grownBy w' v.ownBlock → K (a.put o.dst (.slice A' (n + 1) c')) w') : o.wp P a (W.alloc (.cells cs e)) K Q := by
  subst hg
  refine wp_app T s x ho base v n xs hs (hown.alloc _) (W.heap.size + 1) (some ⟨W.heap.size, 0, none⟩) 1 1 cs.toList hx (Rd.row hcs) h1 hb (by simp; omega) fun v' w' h2 h3 h4 => ?_
  obtain ⟨A', c', rfl⟩ := own_form h2
  exact h A' c' w' h2 (grown_trans (World.grownBy_alloc W _ _) h3)
theorem rowsOf_some {α : Type} (f : Nat → α) : ∀ N k, rowsOf (fun k => some (f k)) N k = some ((List.range' k N).map f)
  | 0, k => rfl
  | N + 1, k => by
    rw [rowsOf]
    dsimp only
    rw [rowsOf_some f N (k + 1)]
    simp [List.range'_succ]
namespace Dy
/-- The entry of a row. -/
def pr (b : List UInt8) (off k : Nat) : Nat × Nat := (Wd.num b (off + k * 16) 8, Wd.num b (off + k * 16 + 8) 8)
def prs (b : List UInt8) (off N : Nat) : List (Nat × Nat) := (List.range' 0 N).map (pr b off)
theorem prs_len (b : List UInt8) (off N : Nat) : (prs b off N).length = N := by simp [prs]
theorem prs_at (b : List UInt8) (off N k : Nat) (h : k < N) : (prs b off N)[k]? = some (pr b off k) := by
  unfold prs
  rw [List.getElem?_map, List.getElem?_range' h]
  simp
theorem prs_take {b : List UInt8} {off N k : Nat} (h : k < N) : (prs b off N).take (k + 1) = (prs b off N).take k ++ [pr b off k] := by
  rw [List.take_add_one, prs_at b off N k h]
  rfl
theorem ents_stop {b : List UInt8} {off N k : Nat} {l : List (Nat × Nat)} (h : ents b N off = (ents b (N - k) (off + k * 16)).map (l ++ ·)) (hk : k < N) (h0 : (pr b off k).1 = 0) : ents b N off = some l := by
  rw [h, show N - k = (N - (k + 1)) + 1 from by omega, ents, if_pos (show Wd.num b (off + k * 16) 8 = 0 from h0)]
  simp
theorem ents_on {b : List UInt8} {off N k : Nat} {l : List (Nat × Nat)} (h : ents b N off = (ents b (N - k) (off + k * 16)).map (l ++ ·)) (hk : k < N) (h0 : ¬ (pr b off k).1 = 0) : ents b N off = (ents b (N - (k + 1)) (off + (k + 1) * 16)).map ((l ++ [pr b off k]) ++ ·) := by
  rw [h, show N - k = (N - (k + 1)) + 1 from by omega, ents, if_neg (show ¬ Wd.num b (off + k * 16) 8 = 0 from h0), show off + k * 16 + 16 = off + (k + 1) * 16 from by omega]
  cases ents b (N - (k + 1)) (off + (k + 1) * 16) <;> simp [pr]
theorem ents_end {b : List UInt8} {off N k : Nat} {l : List (Nat × Nat)} (h : ents b N off = (ents b (N - k) (off + k * 16)).map (l ++ ·)) (hk : k = N) : ents b N off = none := by
  rw [h, hk, Nat.sub_self]
  rfl
theorem pr_lt (b : List UInt8) (off k : Nat) : (pr b off k).1 < 18446744073709551616 ∧ (pr b off k).2 < 18446744073709551616 := by
  unfold pr
  have h1 := Wd.num_lt b (off + k * 16) 8
  have h2 := Wd.num_lt b (off + k * 16 + 8) 8
  simp at h1 h2
  exact ⟨h1, h2⟩
end Dy
/-- A section with no entries yet. -/
theorem DsM.start {w wr : World} {B : Nat} {A As : Option Addr} {n c ns cs : Nat} {b : List UInt8} {ty en ph : Int} {segs : List El.Sg} {S : Obj} (hB : B ≤ w.heap.size) (hb : Rd w B 1 A n (bys b)) (hs : Rd w B 6 As ns (segCells segs)) (hbr : Below w.heap.size w wr) :
    DsM (((wr.alloc S).alloc (.map #[] 0)).alloc (.cells #[.slice A n c, .int .u16 ty, .int .u64 en, .int .u64 ph, .slice As ns cs, .slice none 0 0, .map (some (wr.heap.size + 1))] 110)) w.heap.size (wr.heap.size + 1 + 1) ⟨A, n, c, b, ty, en, ph, As, ns, cs, segs, none, 0, 0, [], wr.heap.size + 1⟩ [] := by
  have hsz := hbr.size
  have e1 : (wr.alloc S).heap.size = wr.heap.size + 1 := by simp
  have e2 : ((wr.alloc S).alloc (.map #[] 0)).heap.size = wr.heap.size + 1 + 1 := by simp
  have hB2 : Below w.heap.size w (((wr.alloc S).alloc (.map #[] 0)).alloc (.cells #[.slice A n c, .int .u16 ty, .int .u64 en, .int .u64 ph, .slice As ns cs, .slice none 0 0, .map (some (wr.heap.size + 1))] 110)) := ((hbr.alloc hsz _).alloc (by rw [e1]; omega) _).alloc (by rw [e2]; omega) _
  refine ⟨by omega, ?_, (hb.more hB).below hB2, (hs.more hB).below hB2, World.ownsRow_nil _ _ _ _, ?_, by dsimp only; omega⟩
  · have := Blk.new ((wr.alloc S).alloc (.map #[] 0)) 110 [.slice A n c, .int .u16 ty, .int .u64 en, .int .u64 ph, .slice As ns cs, .slice none 0 0, .map (some (wr.heap.size + 1))]
    rw [e2] at this
    exact this
  · have h := (MapB.nil (wr.alloc S) (.int .u64)).belowSz ((Below.refl _ _).alloc (Nat.le_refl _) (.cells #[.slice A n c, .int .u16 ty, .int .u64 en, .int .u64 ph, .slice As ns cs, .slice none 0 0, .map (some (wr.heap.size + 1))] 110))
    rw [e1] at h
    exact h
theorem entC_snoc (L : List (Nat × Nat)) (x : Nat × Nat) : entC (L ++ [x]) = entC L ++ [.int .u64 (x.1 : Nat), .int .u64 (x.2 : Nat)] := by simp [entC]
/-- One entry more. -/
theorem DsM.notG {V : World} {B g : Nat} {d : Ds} {T : List (Nat × Nat)} (h : DsM V B g d T) : ∀ q, (Value.slice d.Al d.k d.cl).ownBlock = some q → q = g → True → False := by
  intro q hq e _
  rcases h.list.2 with ⟨e0, -⟩ | ⟨q2, cap, cur, e1, e2, e3, -⟩
  · injection e0 with e0
    rw [e0] at hq
    cases hq
  · injection e1 with e1
    rw [e1] at hq
    have : q2 = q := Option.some.inj hq
    have hb := h.blk
    unfold Blk at hb
    rw [this, e, hb] at e3
    simp at e3
theorem DsM.push {V w6 : World} {B g c6 : Nat} {d : Ds} {T : List (Nat × Nat)} {A6 : Option Addr} {x : Nat × Nat} (h : DsM V B g d T) (ho : w6.ownsRow B 114 2 (.slice A6 (d.k + 1) c6) (d.k + 1) (entC d.L ++ [.int .u64 (x.1 : Nat), .int .u64 (x.2 : Nat)])) (hg : V.grownBy w6 (Value.slice d.Al d.k d.cl).ownBlock) :
    DsM (w6.setCell ⟨g, 5, none⟩ (.slice A6 (d.k + 1) c6)) B g ⟨d.Ab, d.m, d.cb, d.b, d.ty, d.en, d.ph, d.As, d.n, d.c, d.segs, A6, d.k + 1, c6, d.L ++ [x], d.gm⟩ T := by
  have hneg : ∀ q, (Value.slice d.Al d.k d.cl).ownBlock = some q → q ≠ g := by
    intro q hq e
    rcases h.list.2 with ⟨e0, -⟩ | ⟨q2, cap, cur, e1, e2, e3, -⟩
    · injection e0 with e0
      rw [e0] at hq
      cases hq
    · injection e1 with e1
      rw [e1] at hq
      have : q2 = q := Option.some.inj hq
      have hb := h.blk
      unfold Blk at hb
      rw [this, e, hb] at e3
      simp at e3
  have hnem : ∀ q, (Value.slice d.Al d.k d.cl).ownBlock = some q → q ≠ d.gm := by
    intro q hq e
    rcases h.list.2 with ⟨e0, -⟩ | ⟨q2, cap, cur, e1, e2, e3, -⟩
    · injection e0 with e0
      rw [e0] at hq
      cases hq
    · injection e1 with e1
      rw [e1] at hq
      have : q2 = q := Option.some.inj hq
      obtain ⟨⟨es, clk, hmap, _⟩, _, _⟩ := h.tags
      rw [this, e, hmap] at e3
      simp at e3
  have hgm : d.gm ≠ g := by
    intro e
    obtain ⟨⟨es, clk, hmap, _⟩, _, _⟩ := h.tags
    have hb := h.blk
    unfold Blk at hb
    rw [e, hb] at hmap
    simp at hmap
  have hbel : Below B V (w6.setCell ⟨g, 5, none⟩ (.slice A6 (d.k + 1) c6)) := ((Below.refl B V).grown hg h.sz (fun k hk => (h.list.lt k hk).1)).setCell (p := ⟨g, 5, none⟩) h.hB _
  have hblk6 : Blk w6 g 110 _ := (hg.block g h.blk.lt (fun e => hneg g e.symm rfl)).trans h.blk
  refine ⟨h.hB, hblk6.set 5 _, h.b.below hbel, h.segs.below hbel, ?_, ?_, h.tagsB⟩
  · dsimp only
    rw [entC_snoc]
    refine ⟨ho.1, ho.2.imp id ?_⟩
    rintro ⟨q, cap, cur, e1, e2, e3, r⟩
    refine ⟨q, cap, cur, e1, e2, (heap_setCell_other _ _ _ _ ?_).trans e3, r⟩
    intro e
    have hb := hblk6
    unfold Blk at hb
    dsimp only at e
    rw [e, hb] at e3
    simp at e3
  · exact h.tags.keep ((heap_setCell_other _ _ _ _ hgm).trans (hg.block d.gm h.tags.lt (fun e => hnem d.gm e.symm rfl)))
/-- The relation of open's inner loop. -/
structure OpR (w V w3 wq : World) (g : Nat) (d : Ds) (b : List UInt8) (off N i : Nat) : Prop where
  ds : DsM wq w.heap.size g d []
  own : wq.ownsRow w3.heap.size 114 2 (.slice d.Al d.k d.cl) d.k (entC d.L)
  keep : ∀ q, V.heap.size ≤ q → q < w3.heap.size → wq.heap[q]? = w3.heap[q]?
  bel : Below w.heap.size w wq
  sz : w3.heap.size ≤ wq.heap.size
  L : d.L = (Dy.prs b off N).take i
  k : d.k = i
  en : Dy.ents b N off = (Dy.ents b (N - i) (off + i * 16)).map ((Dy.prs b off N).take i ++ ·)
theorem OpR.alloc {w V w3 wq : World} {g : Nat} {d : Ds} {b : List UInt8} {off N i : Nat} (h : OpR w V w3 wq g d b off N i) (o : Obj) : OpR w V w3 (wq.alloc o) g d b off N i :=
  ⟨h.ds.belowSz ((Below.refl _ _).alloc (Nat.le_refl _) o), h.own.alloc _, fun q h1 h2 => (heap_alloc_old wq o (Nat.lt_of_lt_of_le h2 h.sz)).trans (h.keep q h1 h2), h.bel.alloc h.bel.size o, by have := h.sz; simp; omega, h.L, h.k, h.en⟩
theorem OpR.drew {w V w3 wq : World} {g : Nat} {d : Ds} {b : List UInt8} {off N i : Nat} (h : OpR w V w3 wq g d b off N i) : OpR w V w3 wq.drew g d b off N i :=
  ⟨h.ds.drewN 1, h.own, h.keep, below_drew' h.bel, h.sz, h.L, h.k, h.en⟩
theorem OpR.push {w V w3 wq w6 : World} {g : Nat} {d : Ds} {b : List UInt8} {off N i c6 : Nat} {A6 : Option Addr} (h : OpR w V w3 wq g d b off N i) (hi : i < N) (h0 : ¬ (Dy.pr b off i).1 = 0) (hgV : g < V.heap.size) (hV3 : V.heap.size ≤ w3.heap.size) (hw3 : w.heap.size ≤ w3.heap.size)
    (ho : w6.ownsRow w3.heap.size 114 2 (.slice A6 (d.k + 1) c6) (d.k + 1) (entC d.L ++ [.int .u64 ((Dy.pr b off i).1 : Nat), .int .u64 ((Dy.pr b off i).2 : Nat)])) (hg : wq.grownBy w6 (Value.slice d.Al d.k d.cl).ownBlock) :
    OpR w V w3 (w6.setCell ⟨g, 5, none⟩ (.slice A6 (d.k + 1) c6)) g ⟨d.Ab, d.m, d.cb, d.b, d.ty, d.en, d.ph, d.As, d.n, d.c, d.segs, A6, d.k + 1, c6, d.L ++ [Dy.pr b off i], d.gm⟩ b off N (i + 1) := by
  have hd := h.ds.push (x := Dy.pr b off i) (own_base ho hw3) hg
  refine ⟨hd, ?_, ?_, ?_, ?_, ?_, ?_, ?_⟩
  · dsimp only
    rw [entC_snoc]
    refine ⟨ho.1, ho.2.imp id ?_⟩
    rintro ⟨q, cap, cur, e1, e2, e3, r⟩
    exact ⟨q, cap, cur, e1, e2, (heap_setCell_other _ _ _ _ (by dsimp only; omega)).trans e3, r⟩
  · intro q h1 h2
    rw [heap_setCell_other _ _ _ _ (by dsimp only; omega), hg.block q (Nat.lt_of_lt_of_le h2 h.sz) (fun e => by have := (h.own.lt _ e.symm).1; omega)]
    exact h.keep q h1 h2
  · exact (h.bel.grown hg h.bel.size (fun k hk => by have := (h.own.lt k hk).1; omega)).setCell (p := ⟨g, 5, none⟩) h.ds.hB _
  · have := h.sz
    have := hg.size
    simp
    omega
  · dsimp only
    rw [h.L, Dy.prs_take hi]
  · dsimp only
    rw [h.k]
  · rw [Dy.prs_take hi]
    exact Dy.ents_on h.en hi h0
/-- What open answers. -/
def OpenE (A : Option Addr) (n c : Nat) (b : List UInt8) (ty en ph : Int) (As : Option Addr) (ns cs : Nat) (segs : List El.Sg) (w : World) (e : Ending) (w' : World) : Prop := Below w.heap.size w w' ∧
  ((∃ p, (Dy.open_ b segs).2 = none ∧ e = .returned (.tuple #[.pointer p, .int .i64 (Dy.open_ b segs).1]) ∧ ((Dy.open_ b segs).1 = 0 → p = none)) ∨
   ∃ g Al k cl L gm, Dy.open_ b segs = (0, some L) ∧ e = .returned (.tuple #[.pointer (some ⟨g, 0, none⟩), .int .i64 0]) ∧ DsM w' w.heap.size g ⟨A, n, c, b, ty, en, ph, As, ns, cs, segs, Al, k, cl, L, gm⟩ L ∧ DsOk ⟨A, n, c, b, ty, en, ph, As, ns, cs, segs, Al, k, cl, L, gm⟩)
theorem open_none {b : List UInt8} {segs : List El.Sg} (h : segs.find? (fun s => s.kind == 2) = none) : Dy.open_ b segs = (0, none) := by
  unfold Dy.open_
  rw [h]
theorem open_some {b : List UInt8} {segs : List El.Sg} {s : El.Sg} (h : segs.find? (fun s => s.kind == 2) = some s) : Dy.open_ b segs = if s.fsz % 16 ≠ 0 ∨ b.length < s.off + s.fsz then (25, none) else match Dy.ents b (s.fsz / 16) s.off with
      | none => (25, none)
      | some L => if Dy.may L = 0 then (0, some L) else (Dy.may L, none) := by
  unfold Dy.open_
  rw [h]
  rfl
theorem openE_no {A : Option Addr} {n c : Nat} {b : List UInt8} {ty en ph : Int} {As : Option Addr} {ns cs : Nat} {segs : List El.Sg} {w w' : World} {x : Int} (h : Dy.open_ b segs = (x, none)) (hb : Below w.heap.size w w') : OpenE A n c b ty en ph As ns cs segs w (.returned (.tuple #[.pointer none, .int .i64 x])) w' := by
  refine ⟨hb, .inl ⟨none, ?_, ?_, fun _ => rfl⟩⟩ <;> rw [h]
set_option maxRecDepth 100000 in
set_option maxHeartbeats 4000000 in
theorem dopen_any (A : Option Addr) (n c B : Nat) (b : List UInt8) (ty en ph : Int) (As : Option Addr) (ns cs : Nat) (segs : List El.Sg) (w : World) (hB : B ≤ w.heap.size) (hb : Rd w B 1 A n (bys b)) (hs : Rd w B 6 As ns (segCells segs)) (hn : n ≤ 4294967296) (hns : ns ≤ 4294967296) (hc : n ≤ c) (hfit : ∀ s ∈ segs, SgFit s) :
    Calls Try.prog 28 #[.slice A n c, .agg #[.int .u16 ty, .int .u64 en, .int .u64 ph, .slice As ns cs]] w (OpenE A n c b ty en ph As ns cs segs w) := by
  have hsl : segs.length = ns := by have := hs.1; rw [segCells_len] at this; omega
  have hbl : b.length = n := by have := hb.1; simp [bys] at this; omega
  have kf : ∀ (k j : Nat), k ≤ j → j ≤ c → ∀ w' : World, (Instr.slice 22 (.slice A n c) (some (.int .u64 (k : Nat))) (some (.int .u64 (j : Nat))) none).run Try.prog w' = .ok (.slice (fromA A c k) (j - k) (c - k)) w' := fun k j h h2 w' => run_fromToK (P := Try.prog) Try.underlying22 (e := 5) (by kernel_rfl) .u64 .u64 A n c k j h h2 w'
  have Hkf := hide kf
  have Hr := hide hb
  have Hs := hide hs
  have Hsl := hide hsl
  have Hbl := hide hbl
  have Hfit := hide hfit
  have HB0 : Hid (Below w.heap.size w (w.alloc (.cells #[.int .u16 ty, .int .u64 en, .int .u64 ph, .slice As ns cs] 27))) := hide ((Below.refl _ _).alloc (Nat.le_refl _) _)
  have HK0 : Hid (Blk (w.alloc (.cells #[.int .u16 ty, .int .u64 en, .int .u64 ph, .slice As ns cs] 27)) w.heap.size 27 [.int .u16 ty, .int .u64 en, .int .u64 ph, .slice As ns cs]) := hide (Blk.new w 27 [.int .u16 ty, .int .u64 en, .int .u64 ph, .slice As ns cs])
  clear hb hs hsl hbl hfit kf
  go_enter Try.func28, Try.ntmps28
  go_wp2_with fail
  go_loopg [16] ns (fun gk iv wr => ∃ j : Nat, gk = ns - j ∧ j ≤ ns ∧ iv = .int .i64 j ∧ segs.find? (fun s => s.kind == 2) = (segs.drop j).find? (fun s => s.kind == 2) ∧ Below w.heap.size w wr ∧ Blk wr w.heap.size 27 [.int .u16 ty, .int .u64 en, .int .u64 ph, .slice As ns cs])
  case atStart => exact ⟨0, by omega, Nat.zero_le _, rfl, rfl, unhide HB0, unhide HK0⟩
  case round =>
  obtain ⟨j, hgk, hj, rfl, hfd, hbr, hkr⟩ := hrel
  have Hfd := hide hfd
  have Hbr := hide hbr
  have Hkr := hide hkr
  clear hfd hbr hkr HB0 HK0
  by_cases hlt : j < ns
  case neg =>
    have hno : segs.find? (fun s => s.kind == 2) = none := by rw [unhide Hfd, List.drop_of_length_le (by rw [unhide Hsl]; omega)]; rfl
    have Hno := hide (open_none (b := b) hno)
    have ige : ¬ (j : Int) < (ns : Int) := by omega
    clear hno Hfd Hkf Hr Hs
    go_wp2_with fail
    go_ret2
    exact openE_no (unhide Hno) (unhide Hbr)
  have ilt : (j : Int) < (ns : Int) := by omega
  obtain ⟨s, hsj⟩ : ∃ s, segs[j]? = some s := ⟨_, List.getElem?_eq_getElem (by rw [unhide Hsl]; exact hlt)⟩
  obtain ⟨hf0, hf1, hf2, hf3, hf4, hf5⟩ := (unhide Hfit) s (List.mem_of_getElem? hsj)
  obtain ⟨b1, o1, hA1, hbb, c0, c1, c2, c3, c4, c5⟩ := seg_at ((unhide Hs).below ((unhide Hbr).mono hB)) hsj
  subst hA1
  have hfd2 := unhide Hfd
  rw [List.drop_eq_getElem_cons (by rw [unhide Hsl]; exact hlt), show segs[j]'(by rw [unhide Hsl]; exact hlt) = s from (List.getElem?_eq_some_iff.1 hsj).2, List.find?_cons] at hfd2
  have HE : Hid (Blk (wr.alloc (.cells #[.int .u32 (s.kind : Nat), .int .u8 (s.flags : Nat), .int .u64 (s.off : Nat), .int .u64 (s.addr : Nat), .int .u64 (s.fsz : Nat), .int .u64 (s.msz : Nat)] 52)) wr.heap.size 52 [.int .u32 (s.kind : Nat), .int .u8 (s.flags : Nat), .int .u64 (s.off : Nat), .int .u64 (s.addr : Nat), .int .u64 (s.fsz : Nat), .int .u64 (s.msz : Nat)]) := hide (Blk.new wr 52 [.int .u32 (s.kind : Nat), .int .u8 (s.flags : Nat), .int .u64 (s.off : Nat), .int .u64 (s.addr : Nat), .int .u64 (s.fsz : Nat), .int .u64 (s.msz : Nat)])
  have HB2 : Hid (Below w.heap.size w (wr.alloc (.cells #[.int .u32 (s.kind : Nat), .int .u8 (s.flags : Nat), .int .u64 (s.off : Nat), .int .u64 (s.addr : Nat), .int .u64 (s.fsz : Nat), .int .u64 (s.msz : Nat)] 52))) := hide ((unhide Hbr).alloc (unhide Hbr).size _)
  have HK2 : Hid (Blk (wr.alloc (.cells #[.int .u32 (s.kind : Nat), .int .u8 (s.flags : Nat), .int .u64 (s.off : Nat), .int .u64 (s.addr : Nat), .int .u64 (s.fsz : Nat), .int .u64 (s.msz : Nat)] 52)) w.heap.size 27 [.int .u16 ty, .int .u64 en, .int .u64 ph, .slice (some ⟨b1, o1, none⟩) ns cs]) := hide ((unhide Hkr).belowSz ((Below.refl _ _).alloc (Nat.le_refl _) _))
  clear Hfd Hkr
  by_cases hkd : s.kind = 2
  case neg =>
    have hkq : (s.kind == 2) = false := by simpa using hkd
    rw [hkq] at hfd2
    have Hfd3 := hide hfd2
    have hkq2 : ¬ (s.kind : Int) = 2 := by omega
    clear hfd2 hkq
    go_wp2_with fail
    go_roundg (ns - (j + 1))
    case measure => omega
    case rel => exact ⟨j + 1, rfl, by omega, by go_num, unhide Hfd3, unhide HB2, unhide HK2⟩
  have hkq : (s.kind == 2) = true := by simpa using hkd
  rw [hkq] at hfd2
  dsimp only at hfd2
  have hop := open_some (b := b) hfd2
  rw [unhide Hbl] at hop
  have Hop := hide hop
  have hkI : (s.kind : Int) = 2 := by omega
  have hB2 := unhide HB2
  have hK2 := unhide HK2
  have hE := unhide HE
  rw [hkI] at hB2 hK2 hE
  have HB3 := hide hB2
  have HK3 := hide hK2
  have HE3 := hide hE
  obtain ⟨z0, z1, z2, z3⟩ := And.intro (hK2.cell (i := 0) rfl) (And.intro (hK2.cell (i := 1) rfl) (And.intro (hK2.cell (i := 2) rfl) (hK2.cell (i := 3) rfl)))
  clear hop hfd2 hkq HB2 HK2 HE hB2 hK2 hE
  by_cases hmd : s.fsz % 16 = 0
  case neg =>
    have hr := unhide Hop
    rw [if_pos (.inl hmd)] at hr
    have Hno := hide hr
    have m1 : ¬ (s.fsz : Int) % 16 = 0 := by omega
    have m2 : ¬ (s.fsz : Int).tmod 16 = 0 := by rw [Int.tmod_eq_emod_of_nonneg (by omega)]; exact m1
    clear hr Hop
    go_wp2_with fail
    go_ret2
    exact openE_no (unhide Hno) (unhide HB3)
  have m1 : (s.fsz : Int) % 16 = 0 := by omega
  have m2 : (s.fsz : Int).tmod 16 = 0 := by rw [Int.tmod_eq_emod_of_nonneg (by omega)]; exact m1
  have KI := hide (fun w' => inside_any (s.off : Int) (s.fsz : Int) (n : Int) w' (by omega) (by omega) (by omega) (by omega) (by omega))
  by_cases hin : s.off + s.fsz ≤ n
  case neg =>
    have hr := unhide Hop
    rw [if_pos (.inr (by omega))] at hr
    have Hno := hide hr
    have ki := unhide KI
    rw [show decide ((s.off : Int) + (s.fsz : Int) ≤ (n : Int)) = false by simp; omega] at ki
    have KI2 := hide ki
    clear hr Hop ki KI
    go_wp2_with fail
    refine ((unhide KI2) _).mono ?_
    rintro e w2 ⟨rfl, rfl⟩
    go_wp2_with fail
    go_ret2
    exact openE_no (unhide Hno) (unhide HB3)
  have ki := unhide KI
  rw [show decide ((s.off : Int) + (s.fsz : Int) ≤ (n : Int)) = true by simp; omega] at ki
  have KI2 := hide ki
  have hr := unhide Hop
  rw [if_neg (by omega)] at hr
  have Hop2 := hide hr
  clear hr ki KI Hop
  go_wp2_with fail
  refine ((unhide KI2) _).mono ?_
  rintro e w2 ⟨rfl, rfl⟩
  clear KI2
  have kf1 := (unhide Hkf) s.off (s.off + s.fsz) (by omega) (by omega)
  rw [Nat.add_sub_cancel_left] at kf1
  have hcs : ((s.off + s.fsz : Nat) : Int) = (s.off : Int) + (s.fsz : Int) := by omega
  rw [hcs] at kf1
  have hwr : (s.off : Int) + (s.fsz : Int) < 18446744073709551616 := by omega
  have hmm := @run_makeMap Try.prog
  have hDS := DsM.start (S := .cells #[.int .u32 (s.kind : Nat), .int .u8 (s.flags : Nat), .int .u64 (s.off : Nat), .int .u64 (s.addr : Nat), .int .u64 (s.fsz : Nat), .int .u64 (s.msz : Nat)] 52) (n := n) (c := c) (ns := ns) (cs := cs) (ty := ty) (en := en) (ph := ph) hB (unhide Hr) (unhide Hs) (unhide Hbr)
  rw [hkI] at hDS
  have hbV : Below w.heap.size w (((wr.alloc (.cells #[.int .u32 (s.kind : Nat), .int .u8 (s.flags : Nat), .int .u64 (s.off : Nat), .int .u64 (s.addr : Nat), .int .u64 (s.fsz : Nat), .int .u64 (s.msz : Nat)] 52)).alloc (.map #[] 0)).alloc (.cells #[.slice A n c, .int .u16 ty, .int .u64 en, .int .u64 ph, .slice (some ⟨b1, o1, none⟩) ns cs, .slice none 0 0, .map (some (wr.heap.size + 1))] 110)) := (((unhide Hbr).alloc (unhide Hbr).size _).alloc (by have := (unhide Hbr).size; simp; omega) _).alloc (by have := (unhide Hbr).size; simp; omega) _
  rw [hkI] at hbV
  have HDS := hide hDS
  have HBV := hide hbV
  have Hgl : Hid (w.heap.size ≤ wr.heap.size) := hide (unhide Hbr).size
  clear hDS hbV
  go_wp2_with fail
  obtain ⟨V, hV⟩ : ∃ x, x = (((wr.alloc (.cells #[.int .u32 2, .int .u8 (s.flags : Nat), .int .u64 (s.off : Nat), .int .u64 (s.addr : Nat), .int .u64 (s.fsz : Nat), .int .u64 (s.msz : Nat)] 52)).alloc (.map #[] 0)).alloc (.cells #[.slice A n c, .int .u16 ty, .int .u64 en, .int .u64 ph, .slice (some ⟨b1, o1, none⟩) ns cs, .slice none 0 0, .map (some (wr.heap.size + 1))] 110)) := ⟨_, rfl⟩
  have hbV : Below w.heap.size w V := by rw [hV]; exact unhide HBV
  have hDS := hV ▸ unhide HDS
  rw [← hV]
  clear hV HDS HBV z0 z1 z2 z3
  obtain ⟨g, hg⟩ : ∃ g, wr.heap.size + 1 + 1 = g := ⟨_, rfl⟩
  have hgV : g < V.heap.size := by rw [← hg]; exact hDS.blk.lt
  rw [hg] at hDS ⊢
  obtain ⟨gm, hgm⟩ : ∃ g, wr.heap.size + 1 = g := ⟨_, rfl⟩
  rw [hgm] at hDS ⊢
  have hrd := hDS.b.cut (k := s.off) (j := s.off + s.fsz) (by omega) hin hc
  dsimp only at hrd
  rw [Nat.add_sub_cancel_left, show ((bys b).drop s.off).take s.fsz = bys (Dy.cut b s.off s.fsz) by unfold bys Dy.cut; rw [List.map_take, List.map_drop]] at hrd
  have KR := en_rows (fromA A c s.off) s.fsz (c - s.off) w.heap.size (Dy.cut b s.off s.fsz) (fun k => some (Dy.pr b s.off k)) V hbV.size hrd (by omega) (by omega) (by
    intro k A2 c2 w' hk hb' hr hc2
    refine (entOf_any A2 c2 w.heap.size (Dy.cut (Dy.cut b s.off s.fsz) (k * 16) 16) w' (Nat.le_trans hbV.size hb'.size) hr).mono ?_
    rintro e w2 ⟨rfl, hb2⟩
    refine ⟨hb2, ?_⟩
    have e1 : Wd.num (Dy.cut (Dy.cut b s.off s.fsz) (k * 16) 16) 0 8 = (Dy.pr b s.off k).1 := by rw [cut_num (by omega), cut_num (by omega)]; rfl
    have e2 : Wd.num (Dy.cut (Dy.cut b s.off s.fsz) (k * 16) 16) 8 8 = (Dy.pr b s.off k).2 := by rw [cut_num (by omega), cut_num (by omega), ← Nat.add_assoc]; rfl
    rw [e1, e2])
  rw [rowsOf_some] at KR
  have HKR := hide KR
  have HDS := hide hDS
  have HBV := hide hbV
  clear KR hDS hbV hrd Hkf Hr Hs kf1 hcs hwr hmm hg hgm hkI
  refine (unhide HKR).mono ?_
  rintro e w3 ⟨⟨h0, -⟩ | ⟨l, A9, c9, hl, rfl, ho9⟩, hb3⟩
  · cases h0
  have hl2 : Dy.prs b s.off (s.fsz / 16) = l := Option.some.inj hl
  obtain ⟨N, hN⟩ : ∃ N, s.fsz / 16 = N := ⟨_, rfl⟩
  rw [hN] at hl2
  subst hl2
  rw [Dy.prs_len] at ho9 ⊢
  have HO9 := hide ho9
  have HB3 := hide ((unhide HBV).trans (hb3.mono (unhide HBV).size))
  have HDS3 := hide ((unhide HDS).belowSz hb3)
  have hV3 : V.heap.size ≤ w3.heap.size := hb3.size
  have hw3 : w.heap.size ≤ w3.heap.size := (unhide HB3).size
  have HR0 : Hid (OpR w V w3 w3 g ⟨A, n, c, b, ty, en, ph, some ⟨b1, o1, none⟩, ns, cs, segs, none, 0, 0, [], gm⟩ b s.off N 0) := hide ⟨unhide HDS3, World.ownsRow_nil _ _ _ _, fun _ _ _ => rfl, unhide HB3, Nat.le_refl _, rfl, rfl, by cases Dy.ents b (N - 0) (s.off + 0 * 16) <;> simp⟩
  clear hl ho9 hb3 HDS HDS3 HBV HKR
  go_wp2_with fail
  go_loopg [58] N (fun gk iv wq => ∃ (i : Nat) (Al : Option Addr) (cl : Nat) (L : List (Nat × Nat)), gk = N - i ∧ i ≤ N ∧ iv = .int .i64 i ∧ OpR w V w3 wq g ⟨A, n, c, b, ty, en, ph, some ⟨b1, o1, none⟩, ns, cs, segs, Al, i, cl, L, gm⟩ b s.off N i)
  case atStart => exact ⟨0, none, 0, [], by omega, Nat.zero_le _, rfl, unhide HR0⟩
  case round =>
  obtain ⟨i, Al, cl, L, hgk2, hi, rfl, hR⟩ := hrel
  have HR := hide hR
  clear hR HR0
  by_cases hlt2 : i < N
  case neg =>
    have hr := unhide Hop2
    rw [hN, Dy.ents_end (unhide HR).en (by omega)] at hr
    have Hno := hide hr
    have ige : ¬ (i : Int) < (N : Int) := by omega
    clear hr Hop2
    go_wp2_with fail
    go_ret2
    exact openE_no (unhide Hno) (unhide HR).bel
  have ilt2 : (i : Int) < (N : Int) := by omega
  obtain ⟨b9, o9, hA9, hb9, y0, y1⟩ := ent_at (Rd.of_own (unhide HO9)) (Dy.prs_at b s.off N i hlt2)
  subst hA9
  have hb9V : V.heap.size ≤ b9 := ((unhide HO9).lt b9 rfl).1
  have q0 := (World.cell?_of_block (a := ⟨b9, o9 + i * 2, none⟩) ((unhide HR).keep b9 hb9V hb9)).trans y0
  have q1 := (World.cell?_of_block (a := ⟨b9, o9 + i * 2 + 1, none⟩) ((unhide HR).keep b9 hb9V hb9)).trans y1
  obtain ⟨hx1, hx2⟩ := Dy.pr_lt b s.off i
  have hen := (unhide HR).en
  have hpush := fun (W w6 : World) (c6 : Nat) (A6 : Option Addr) (h : OpR w V w3 W g ⟨A, n, c, b, ty, en, ph, some ⟨b1, o1, none⟩, ns, cs, segs, Al, i, cl, L, gm⟩ b s.off N i) (h0 : ¬ (Dy.pr b s.off i).1 = 0) => h.push (w6 := w6) (A6 := A6) (c6 := c6) hlt2 h0 hgV hV3 hw3
  have hstop := Dy.ents_stop hen hlt2
  obtain ⟨⟨x1, x2⟩, hx⟩ : ∃ x, Dy.pr b s.off i = x := ⟨_, rfl⟩
  rw [hx] at q0 q1 hx1 hx2 hstop
  dsimp only at q0 q1 hx1 hx2 hstop
  have HE9 : Hid (Blk (wr.alloc (.cells #[.int .u64 (x1 : Nat), .int .u64 (x2 : Nat)] 114)) wr.heap.size 114 [.int .u64 (x1 : Nat), .int .u64 (x2 : Nat)]) := hide (Blk.new wr 114 [.int .u64 (x1 : Nat), .int .u64 (x2 : Nat)])
  have HR2 := hide ((unhide HR).alloc (.cells #[.int .u64 (x1 : Nat), .int .u64 (x2 : Nat)] 114))
  have Hpush := hide hpush
  have Hstop := hide hstop
  have Hlt := hide (fun q hq => ((unhide HR).own.lt q hq).2)
  clear y0 y1 hen hpush hstop HR HO9
  by_cases hz : x1 = 0
  case pos =>
    have hr := unhide Hop2
    rw [hN, (unhide Hstop) hz] at hr
    dsimp only at hr
    have hLe := (unhide HR2).L
    dsimp only at hLe
    rw [← hLe] at hr
    have Hr9 := hide hr
    have hents : ∀ e ∈ L, e.1 < 18446744073709551616 ∧ e.2 < 18446744073709551616 := by
      intro e he
      rw [hLe] at he
      have := List.mem_of_mem_take he
      unfold Dy.prs at this
      obtain ⟨k, -, rfl⟩ := List.mem_map.1 this
      exact Dy.pr_lt _ _ _
    have hok : DsOk ⟨A, n, c, b, ty, en, ph, some ⟨b1, o1, none⟩, ns, cs, segs, Al, i, cl, L, gm⟩ := ⟨hn, hc, hns, unhide Hfit, hents⟩
    have hiN : i ≤ 4294967296 := by omega
    have KC := hide (dcheck_any w.heap.size g ⟨A, n, c, b, ty, en, ph, some ⟨b1, o1, none⟩, ns, cs, segs, Al, i, cl, L, gm⟩ _ (unhide HR2).ds hok hiN)
    have Hok := hide hok
    have HBel := hide (unhide HR2).bel
    subst hz
    clear hr hLe hents hok Hop2 Hpush Hstop HR2
    go_wp2_with fail
    refine (unhide KC).mono ?_
    rintro e w7 ⟨rfl, hds, hb7⟩
    have Hds := hide hds
    have HB7 := hide ((unhide HBel).trans hb7)
    clear hds hb7 KC HBel
    dsimp only
    obtain ⟨my, hmy⟩ : ∃ m, Dy.may L = m := ⟨_, rfl⟩
    have hr := unhide Hr9
    have hd7 := unhide Hds
    dsimp only at hd7
    rw [hmy] at hr hd7 ⊢
    have Hr10 := hide hr
    have Hd8 := hide hd7
    clear hr hd7 Hr9 Hds hmy
    go_wp2_with fail
    go_ret2
    refine ⟨unhide HB7, ?_⟩
    by_cases hm0 : my = 0
    · have hr := unhide Hr10
      rw [if_pos hm0] at hr
      subst hm0
      exact .inr ⟨g, Al, i, cl, L, gm, hr, rfl, (unhide Hd8) rfl, unhide Hok⟩
    · have hr := unhide Hr10
      rw [if_neg hm0] at hr
      exact .inl ⟨some ⟨g, 0, none⟩, by rw [hr], by rw [hr]; rfl, fun h => by rw [hr] at h; exact absurd h hm0⟩
  have hz2 : ¬ (x1 : Int) = 0 := by omega
  have w5 := (unhide HR2).ds.blk.cell (i := 5) rfl
  have HR3 := hide (unhide HR2).drew
  have HE3 := hide ((unhide HE9).drew)
  have w7 := ((unhide HR3).alloc (.cells #[.int .u64 (x1 : Nat), .int .u64 (x2 : Nat)] 114)).ds.blk.cell (i := 5) rfl
  go_wp2_with fail
  have w6 := (unhide HR3).ds.blk.cell (i := 5) rfl
  have hxx : ¬ ((x1, x2) : Nat × Nat).1 = 0 := hz
  have hp := unhide Hpush
  rw [hx] at hp
  have HP := hide hp
  have Hxx := hide hxx
  have hgr : g < wr.heap.size := by have := (unhide HR3).sz; simp at this; have h1 := (unhide HR2).ds.blk.lt; simp at h1; omega
  have HSK' : Hid (∀ w' : World, Blk w' wr.heap.size 114 [.int .u64 (x1 : Nat), .int .u64 (x2 : Nat)] → (w'.cell? ⟨wr.heap.size, 0, none⟩ = some (.int .u64 (x1 : Nat)) ∧ w'.cell? ⟨wr.heap.size, 1, none⟩ = some (.int .u64 (x2 : Nat)))) := hide (fun w' h => ⟨h.cell (i := 0) rfl, h.cell (i := 1) rfl⟩)
  clear hp hxx HE9 HR2 Hpush Hstop Hop2
  refine wp_region_held_drew (S := fun w' => w'.cell? ⟨wr.heap.size, 0, none⟩ = some (.int .u64 (x1 : Nat)) ∧ w'.cell? ⟨wr.heap.size, 1, none⟩ = some (.int .u64 (x2 : Nat))) (by kernel_rfl) ((unhide HSK') _ (unhide HE3)) (fun HS0 => ?_)
  refine takeD (i := 0) (d := some 68) (v := ?_) rfl rfl (by kernel_rfl) (by kernel_rfl) (by kernel_rfl) (fun _ _ _ h => h) (Or.inl ⟨by rfl, ?y0⟩) HS0 ?_
  case y0 => (intro w' hSw; (try dsimp only at hSw); go_simp; (try with_reducible rfl))
  simp only [Act.put, List.setIfInBounds_toArray, List.set_cons_zero, List.set_cons_succ]
  refine takeD (i := 1) (d := some 69) (v := ?_) rfl rfl (by kernel_rfl) (by kernel_rfl) (by kernel_rfl) (fun _ _ _ h => h) (Or.inl ⟨by rfl, ?y1⟩) HS0 ?_
  case y1 => (intro w' hSw; (try dsimp only at hSw); go_simp; (try with_reducible rfl))
  simp only [Act.put, List.setIfInBounds_toArray, List.set_cons_zero, List.set_cons_succ]
  refine takeD (i := 2) (d := some 70) (v := ?_) rfl rfl (by kernel_rfl) (by kernel_rfl) (by kernel_rfl) (fun _ _ _ h => h) (Or.inl ⟨by rfl, ?y2⟩) HS0 ?_
  case y2 => (intro w' hSw; (try dsimp only at hSw); go_simp; (try with_reducible rfl))
  simp only [Act.put, List.setIfInBounds_toArray, List.set_cons_zero, List.set_cons_succ]
  refine takeD (i := 3) (d := some 71) (v := ?_) rfl rfl (by kernel_rfl) (by kernel_rfl) (by kernel_rfl) (fun _ _ _ h => h) (Or.inl ⟨by rfl, ?y3⟩) HS0 ?_
  case y3 => (intro w' hSw; (try dsimp only at hSw); go_simp; (try with_reducible rfl))
  simp only [Act.put, List.setIfInBounds_toArray, List.set_cons_zero, List.set_cons_succ]
  refine takeD (i := 5) (d := some 73) (v := ?_) rfl rfl (by kernel_rfl) (by kernel_rfl) (by kernel_rfl) (fun _ _ _ h => h) (Or.inl ⟨by rfl, ?y5⟩) HS0 ?_
  case y5 => (intro w' hSw; (try dsimp only at hSw); go_simp; (try with_reducible rfl))
  simp only [Act.put, List.setIfInBounds_toArray, List.set_cons_zero, List.set_cons_succ]
  refine wpAnyH_ready (rs := [4, 6]) (by kernel_rfl) (by simp) ?_
  refine AllReadyH.cons (i := 4) rfl (fun K hK => ?way4) (AllReadyH.cons (i := 6) rfl (fun K hK => ?way6) AllReadyH.nil)
  case way4 =>
    rw [if_pos (by rfl)]
    go_simp
    refine hK.out _ _ ((unhide HSK') _ (unhide HE3)) (fun hHeld => ?_)
    clear hK K HS0
    have HS0 := hHeld
    clear hHeld
    (try simp only [Act.put, List.setIfInBounds_toArray, List.set_cons_zero, List.set_cons_succ])
    refine wpAnyH_ready (rs := [6]) (by kernel_rfl) (by simp) ?_
    refine AllReadyH.cons (i := 6) rfl (fun K hK => ?_) AllReadyH.nil
    rw [if_pos (by rfl)]
    go_simp
    refine hK.out _ _ ((unhide HSK') _ ((unhide HE3).alloc _)) (fun hHeld => ?_)
    clear hK K HS0
    have HS0 := hHeld
    clear hHeld
    (try simp only [Act.put, List.setIfInBounds_toArray, List.set_cons_zero, List.set_cons_succ])
    refine wpAnyH_ready (rs := [7]) (by kernel_rfl) (by simp) ?_
    refine AllReadyH.cons (i := 7) rfl (fun K hK => ?_) AllReadyH.nil
    rw [if_pos (by rfl)]
    refine wp_app1g enTy _ _ rfl w3.heap.size (.slice Al i cl) i (entC L) rfl (unhide HR3).own #[.int .u64 (x1 : Nat), .int .u64 (x2 : Nat)] _ rfl (by simp) rfl (by intro u hu; simp at hu; rcases hu with rfl | rfl <;> rfl) (by omega) (unhide HR3).sz ?_
    intro A6 c6 w8 ho6 hg6
    have Hg6 := hide hg6
    have Ho6 := hide ho6
    have HE6 : Hid (Blk w8 wr.heap.size 114 [.int .u64 (x1 : Nat), .int .u64 (x2 : Nat)]) := hide ((hg6.block wr.heap.size (unhide HE3).lt (fun e => by have := (unhide Hlt) _ e.symm; omega)).trans (unhide HE3))
    have hR6 := (unhide HP) _ _ _ _ (unhide HR3) (unhide Hxx) ho6 hg6
    have HR6 := hide hR6
    have v9 : ∃ u, w8.cell? ⟨g, 5, none⟩ = some u := ⟨_, (show Blk w8 g 110 _ from (hg6.block g (unhide HR3).ds.blk.lt (fun e => (unhide HR3).ds.notG _ e.symm rfl trivial)).trans (unhide HR3).ds.blk).cell (i := 5) rfl⟩
    have f9 : w8.frozen? ⟨g, 5, none⟩ = false := (show Blk w8 g 110 _ from (hg6.block g (unhide HR3).ds.blk.lt (fun e => (unhide HR3).ds.notG _ e.symm rfl trivial)).trans (unhide HR3).ds.blk).free 5
    obtain ⟨u9, v9⟩ := v9
    clear ho6 hg6 hR6
    refine hK.out _ _ ((unhide HSK') _ (unhide HE6)) (fun hHeld => ?_)
    clear hK K HS0
    have HS0 := hHeld
    clear hHeld
    (try simp only [Act.put, List.setIfInBounds_toArray, List.set_cons_zero, List.set_cons_succ])
    refine takeD (i := 8) (d := some 76) (v := ?_) rfl rfl (by kernel_rfl) (by kernel_rfl) (by kernel_rfl) (fun _ _ _ h => h) (Or.inl ⟨by rfl, ?y8⟩) HS0 ?_
    case y8 => (intro w' hSw; (try dsimp only at hSw); go_simp; (try with_reducible rfl))
    simp only [Act.put, List.setIfInBounds_toArray, List.set_cons_zero, List.set_cons_succ]
    refine takeD (i := 9) (d := some 77) (v := ?_) rfl rfl (by kernel_rfl) (by kernel_rfl) (by kernel_rfl) (fun _ _ _ h => h) (Or.inl ⟨by rfl, ?y9⟩) HS0 ?_
    case y9 => (intro w' hSw; (try dsimp only at hSw); go_simp; (try with_reducible rfl))
    simp only [Act.put, List.setIfInBounds_toArray, List.set_cons_zero, List.set_cons_succ]
    refine wpAnyH_ready (rs := [10]) (by kernel_rfl) (by simp) ?_
    refine AllReadyH.cons (i := 10) rfl (fun K hK => ?_) AllReadyH.nil
    rw [if_pos (by rfl)]
    go_simp
    refine hK.out _ _ ((unhide HSK') _ ((unhide HE6).other (p := ⟨g, 5, none⟩) (by dsimp only; omega) _)) (fun hHeld => ?_)
    clear hK K HS0
    have HS0 := hHeld
    clear hHeld
    (try simp only [Act.put, List.setIfInBounds_toArray, List.set_cons_zero, List.set_cons_succ])
    refine wpAnyH_done (by kernel_rfl) ?_ _
    clear v9 f9
    go_wp2_with fail
    go_roundg (N - (i + 1))
    case measure => omega
    case rel => exact ⟨i + 1, A6, c6, L ++ [(x1, x2)], rfl, by omega, by go_num, unhide HR6⟩
  case way6 =>
    rw [if_pos (by rfl)]
    go_simp
    refine hK.out _ _ ((unhide HSK') _ ((unhide HE3).alloc _)) (fun hHeld => ?_)
    clear hK K HS0
    have HS0 := hHeld
    clear hHeld
    (try simp only [Act.put, List.setIfInBounds_toArray, List.set_cons_zero, List.set_cons_succ])
    refine wpAnyH_ready (rs := [4]) (by kernel_rfl) (by simp) ?_
    refine AllReadyH.cons (i := 4) rfl (fun K hK => ?_) AllReadyH.nil
    rw [if_pos (by rfl)]
    go_simp
    refine hK.out _ _ ((unhide HSK') _ ((unhide HE3).alloc _)) (fun hHeld => ?_)
    clear hK K HS0
    have HS0 := hHeld
    clear hHeld
    (try simp only [Act.put, List.setIfInBounds_toArray, List.set_cons_zero, List.set_cons_succ])
    refine wpAnyH_ready (rs := [7]) (by kernel_rfl) (by simp) ?_
    refine AllReadyH.cons (i := 7) rfl (fun K hK => ?_) AllReadyH.nil
    rw [if_pos (by rfl)]
    refine wp_app1g enTy _ _ rfl w3.heap.size (.slice Al i cl) i (entC L) rfl (unhide HR3).own #[.int .u64 (x1 : Nat), .int .u64 (x2 : Nat)] _ rfl (by simp) rfl (by intro u hu; simp at hu; rcases hu with rfl | rfl <;> rfl) (by omega) (unhide HR3).sz ?_
    intro A6 c6 w8 ho6 hg6
    have Hg6 := hide hg6
    have Ho6 := hide ho6
    have HE6 : Hid (Blk w8 wr.heap.size 114 [.int .u64 (x1 : Nat), .int .u64 (x2 : Nat)]) := hide ((hg6.block wr.heap.size (unhide HE3).lt (fun e => by have := (unhide Hlt) _ e.symm; omega)).trans (unhide HE3))
    have hR6 := (unhide HP) _ _ _ _ (unhide HR3) (unhide Hxx) ho6 hg6
    have HR6 := hide hR6
    have v9 : ∃ u, w8.cell? ⟨g, 5, none⟩ = some u := ⟨_, (show Blk w8 g 110 _ from (hg6.block g (unhide HR3).ds.blk.lt (fun e => (unhide HR3).ds.notG _ e.symm rfl trivial)).trans (unhide HR3).ds.blk).cell (i := 5) rfl⟩
    have f9 : w8.frozen? ⟨g, 5, none⟩ = false := (show Blk w8 g 110 _ from (hg6.block g (unhide HR3).ds.blk.lt (fun e => (unhide HR3).ds.notG _ e.symm rfl trivial)).trans (unhide HR3).ds.blk).free 5
    obtain ⟨u9, v9⟩ := v9
    clear ho6 hg6 hR6
    refine hK.out _ _ ((unhide HSK') _ (unhide HE6)) (fun hHeld => ?_)
    clear hK K HS0
    have HS0 := hHeld
    clear hHeld
    (try simp only [Act.put, List.setIfInBounds_toArray, List.set_cons_zero, List.set_cons_succ])
    refine takeD (i := 8) (d := some 76) (v := ?_) rfl rfl (by kernel_rfl) (by kernel_rfl) (by kernel_rfl) (fun _ _ _ h => h) (Or.inl ⟨by rfl, ?y8⟩) HS0 ?_
    case y8 => (intro w' hSw; (try dsimp only at hSw); go_simp; (try with_reducible rfl))
    simp only [Act.put, List.setIfInBounds_toArray, List.set_cons_zero, List.set_cons_succ]
    refine takeD (i := 9) (d := some 77) (v := ?_) rfl rfl (by kernel_rfl) (by kernel_rfl) (by kernel_rfl) (fun _ _ _ h => h) (Or.inl ⟨by rfl, ?y9⟩) HS0 ?_
    case y9 => (intro w' hSw; (try dsimp only at hSw); go_simp; (try with_reducible rfl))
    simp only [Act.put, List.setIfInBounds_toArray, List.set_cons_zero, List.set_cons_succ]
    refine wpAnyH_ready (rs := [10]) (by kernel_rfl) (by simp) ?_
    refine AllReadyH.cons (i := 10) rfl (fun K hK => ?_) AllReadyH.nil
    rw [if_pos (by rfl)]
    go_simp
    refine hK.out _ _ ((unhide HSK') _ ((unhide HE6).other (p := ⟨g, 5, none⟩) (by dsimp only; omega) _)) (fun hHeld => ?_)
    clear hK K HS0
    have HS0 := hHeld
    clear hHeld
    (try simp only [Act.put, List.setIfInBounds_toArray, List.set_cons_zero, List.set_cons_succ])
    refine wpAnyH_done (by kernel_rfl) ?_ _
    clear v9 f9
    go_wp2_with fail
    go_roundg (N - (i + 1))
    case measure => omega
    case rel => exact ⟨i + 1, A6, c6, L ++ [(x1, x2)], rfl, by omega, by go_num, unhide HR6⟩
end Go.Proofs.Ytdminnhfgdoibaa
namespace Go.Proofs.Ytdminnhfgdoibaa
set_option linter.unusedVariables false
set_option linter.unusedSimpArgs false
namespace Dy
theorem symAt_cut {t b : List UInt8} {q m p : Nat} (h : p + 24 ≤ m) : symAt t (cut b q m) p = symAt t b (q + p) := by
  unfold symAt
  rw [cut_num (p := q) (n := m) (q := p) (s := 4) (by omega), cut_num (p := q) (n := m) (q := p + 4) (s := 1) (by omega), cut_num (p := q) (n := m) (q := p + 8) (s := 8) (by omega), cut_num (p := q) (n := m) (q := p + 16) (s := 8) (by omega), cut_num (p := q) (n := m) (q := p + 6) (s := 2) (by omega)]
  simp only [Nat.add_assoc]
theorem relAt_cut {b : List UInt8} {q m p : Nat} (h : p + 24 ≤ m) : relAt (cut b q m) p = relAt b (q + p) := by
  unfold relAt
  rw [cut_num (p := q) (n := m) (q := p) (s := 8) (by omega), cut_num (p := q) (n := m) (q := p + 8) (s := 4) (by omega), cut_num (p := q) (n := m) (q := p + 12) (s := 4) (by omega), cut_num (p := q) (n := m) (q := p + 16) (s := 8) (by omega)]
  simp only [Nat.add_assoc]
theorem syms_rows {t b : List UInt8} {q : Nat} : ∀ n k, rowsOf (fun k => symAt t b (q + k * 24)) n k = symsFrom t b n (q + k * 24)
  | 0, k => rfl
  | n + 1, k => by
    rw [rowsOf, symsFrom, syms_rows n (k + 1), show q + (k + 1) * 24 = q + k * 24 + 24 from by omega]
    cases symAt t b (q + k * 24) <;> rfl
/-- The relocation of a row; none where its symbol is not there. -/
def relOf (m : Nat) (b : List UInt8) (p : Nat) : Option Rel := if m < Wd.num b (p + 12) 4 then none else some (relAt b p)
theorem rels_rows {m : Nat} {b : List UInt8} : ∀ n k, rowsOf (fun k => relOf m b (k * 24)) n k = relsFrom m b n (k * 24)
  | 0, k => rfl
  | n + 1, k => by
    rw [rowsOf, relsFrom, rels_rows n (k + 1), show (k + 1) * 24 = k * 24 + 24 from by omega]
    unfold relOf
    by_cases h : m < Wd.num b (k * 24 + 12) 4
    · rw [if_pos h, if_pos h]
    · rw [if_neg h, if_neg h]
theorem relOf_cut {m : Nat} {b : List UInt8} {k : Nat} : relOf m (cut b (k * 24) 24) 0 = relOf m b (k * 24) := by
  unfold relOf
  rw [cut_num (p := k * 24) (n := 24) (q := 0 + 12) (s := 4) (by omega), relAt_cut (q := k * 24) (m := 24) (p := 0) (by omega), Nat.zero_add]
  rfl
end Dy
end Go.Proofs.Ytdminnhfgdoibaa
