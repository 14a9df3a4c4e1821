/- What it is to have grown a row of bytes; the law for append of a text's bytes onto a row of the call's own. No conditions. -/
import Derived.Test.YtphbkjdheopmhaaPut1
namespace Go.Proofs.Ytphbkjdheopmhaa
set_option linter.unusedVariables false
set_option linter.unusedSimpArgs false
open Go.RowKit

/-- From the value v to the value v', which owns the bytes xs: only v's own row, and what is new, has turned. -/
structure Grew (w w' : World) (base : Nat) (v v' : Value) (n : Nat) (xs : List UInt8) : Prop where
  own : w'.ownsRow base 5 1 v' n (bys xs)
  kept : w.grownBy w' v.ownBlock
  at_ : ∀ k, v'.ownBlock = some k → v.ownBlock = some k ∨ w.heap.size ≤ k
section
variable {a b c : World} {base : Nat} {u v x : Value} {n m : Nat} {xs ys : List UInt8}
theorem Grew.trans (h : Grew a b base u v n xs) (k : Grew b c base v x m ys) : Grew a c base u x m ys :=
  ⟨k.own, ⟨k.kept.os.trans h.kept.os, k.kept.tape.trans h.kept.tape, k.kept.output.trans h.kept.output, Nat.le_trans h.kept.size k.kept.size, fun i hi hr => (k.kept.block i (Nat.lt_of_lt_of_le hi h.kept.size) (fun e => by
    rcases h.at_ i e.symm with h1 | h1
    · exact hr h1.symm
    · omega)).trans (h.kept.block i hi hr)⟩, fun i hi => by
    rcases k.at_ i hi with h1 | h1
    · exact h.at_ i h1
    · exact .inr (Nat.le_trans h.kept.size h1)⟩
theorem grownBy_of_below {row : Option Nat} (h : Below a.heap.size a b) : a.grownBy b row := ⟨h.os, h.tape, h.output, h.size, fun k hk _ => h.block k hk⟩
/-- Ahead of it something may have been made. -/
theorem Grew.after (hb : Below a.heap.size a b) (h : Grew b c base u v n xs) : Grew a c base u v n xs :=
  ⟨h.own, grown_trans (grownBy_of_below hb) h.kept, fun k hk => (h.at_ k hk).imp id fun h1 => Nat.le_trans hb.size h1⟩
theorem Grew.then (h : Grew a b base u v n xs) (hb : Below b.heap.size b c) : Grew a c base u v n xs :=
  ⟨own_below h.own hb, grown_trans h.kept (grownBy_of_below hb), h.at_⟩
theorem Grew.below {B : Nat} (h : Grew a b base u v n xs) (hB : B ≤ a.heap.size) (hr : ∀ k, u.ownBlock = some k → B ≤ k) : Below B a b := (Below.refl B a).grown h.kept hB hr
theorem Grew.blk {g : Nat} (h : Grew a b base u v n xs) (hg : g < a.heap.size) (hne : u.ownBlock ≠ some g) {o : Obj} (ho : a.heap[g]? = some o) : b.heap[g]? = some o :=
  (h.kept.block g hg (fun e => hne e.symm)).trans ho
theorem own_lt {w : World} {e : TypeId} {size : Nat} {xs : List Value} (h : w.ownsRow base e size v n xs) : ∀ k, v.ownBlock = some k → base ≤ k := fun k hk => (h.lt k hk).1
end

section
variable {P : Program}
theorem appS_at {w w' : World} {base : Nat} {t u ty e : TypeId} {i : TypeInfo} (ht : P.underlying t = some (.slice e)) (hu : P.underlying u = some .string) (hi : P.info? e = some i) (hz : i.zero = some (.int .u8 0))
    (hs : i.size = 1) (hby : i.bytes = 1) {v v' : Value} {n : Nat} {xs : List Value} (hown : w.ownsRow base e 1 v n xs) {s : ByteArray} (hb : n + s.size ≤ 140737488355328)
    (hr : (Builtin.append_ #[t, u] ty #[v, .string s]).run P w = .ok v' w') : ∀ k, v'.ownBlock = some k → v.ownBlock = some k ∨ w.heap.size ≤ k := by
  have hl := hown.1
  rcases hown.2 with ⟨rfl, rfl⟩ | ⟨g, cap, cur, rfl, h1, h2, h3, h4, h5, h6⟩
  · by_cases h0 : s.size = 0
    · have hf := Lib.run_firstCells_string (P := P) w 1 s
      rw [h0] at hf
      have hn : Lib.strCells s = [] := List.eq_nil_of_length_eq_zero (by rw [Lib.strCells_length]; exact h0)
      rw [hn] at hf
      simp [Builtin.append_, run_underlying ht, run_underlying hu, sizeOf, typeInfo, hi, hs, Builtin.lenOf, h0, hf] at hr
      obtain ⟨rfl, rfl⟩ := hr
      intro k hk
      cases hk
    · rw [run_append_nil_string (P := P) w t u ty e i (.int .u8 0) ht hu hi hz s (by omega) (by omega) (by rw [hby]; omega)] at hr
      injection hr with e1 e2
      subst e1
      intro k hk
      simp [Value.ownBlock] at hk
      exact .inr (by omega)
  · by_cases hroom : n + s.size ≤ cap
    · rw [Lib.run_append_room_string (P := P) w t u ty e i ht hu hi hs g n cap cur h2 s hroom (by omega)] at hr
      injection hr with e1 e2
      subst e1
      exact fun k hk => .inl hk
    · have hc : ∀ j u, xs[j]? = some u → w.cell? ((⟨g, 0, none⟩ : Addr).add j) = some u := hown.cells (g := g) rfl
      rw [Lib.run_append_grow_string (P := P) w t u ty e i (.int .u8 0) ht hu hi hz ⟨g, 0, none⟩ n cap xs (by rw [hs]; exact hl) hc s (by omega) (by omega) (by rw [hby]; exact growslice_fits (by omega) (by omega))] at hr
      injection hr with e1 e2
      subst e1
      intro k hk
      simp [Value.ownBlock] at hk
      exact .inr (by omega)
end

theorem strTyp : Try.prog.underlying 9 = some .string := Try.underlying9
/-- append(b, s...), s a text. -/
theorem wpList_appS {w : World} {ops : Array Oper} {rest : List Oper} {o : Oper} {a : Act} {Q : Exit → Act → World → Prop} (hgd : o.guard = none) (sl x : Operand)
    (ho : o.op = .call { callee := .builtin .append, args := #[sl, x], argTypes := #[24, 9] })
    (base : Nat) (v : Value) (n : Nat) (xs : List UInt8) (hs : a.eval sl = v) (hown : w.ownsRow base 5 1 v n (bys xs)) (s : ByteArray) (hx : a.eval x = .string s)
    (hb : n + s.size ≤ 140737488355328) (hbase : base ≤ w.heap.size)
    (h : ∀ A' c' w', Grew w w' base v (.slice A' (n + s.size) c') (n + s.size) (xs ++ s.data.toList) → wpList Try.prog ops Q rest (a.put o.dst (.slice A' (n + s.size) c')) w') : wpList Try.prog ops Q (o :: rest) a w := by
  obtain ⟨i, hi, hz0, hz1, hz2⟩ := info_parts byteInfo
  refine wpList_plain hgd fun K hK => ?_
  obtain ⟨v', w', hr, h2, h3, h4⟩ := Lib.run_append_own_string (P := Try.prog) w base 24 9 o.type 5 i Try.underlying24 strTyp hi hz0 hz1 hz2 v n (bys xs) hown s (by unfold maxLen; omega) hb hbase
  have h5 := appS_at Try.underlying24 strTyp hi hz0 hz1 hz2 hown hb hr
  obtain ⟨A', c', rfl⟩ := own_form h2
  unfold Oper.wp execOp
  simp only [ho, resolve, invoke, builtin, Sem.run_bind, Sem.run_pure, Result.andThen_ok, List.map_toArray, List.map_cons, List.map_nil, hs, hx, hr]
  refine hK _ _ (h A' c' w' ⟨?_, h3, h5⟩)
  rw [bys_app]
  exact h2
end Go.Proofs.Ytphbkjdheopmhaa
