/- The walk of calls.fields: a map of constants. No conditions. -/
import Derived.Test.YtphbkjdheopmhaaMapLit
import Derived.Test.YtphbkjdheopmhaaMore
import Derived.Test.YtphbkjdheopmhaaProg
import Derived.WalkSpells
import Derived.WalkLawsBesides
namespace Go.Proofs.Ytphbkjdheopmhaa
set_option linter.unusedVariables false
set_option linter.unusedSimpArgs false
open Go.RowKit

/-- The fields of a kind, by their numbers. -/
def fs : Nat → List Int
  | 1 => [5, 6, 7]
  | 3 => [0]
  | 5 => [0, 1, 2, 3, 4]
  | 6 => [0, 1]
  | 7 => [0, 1, 2]
  | 8 => [0, 1]
  | 9 => [0, 8]
  | 10 => [5, 0]
  | 11 => [0]
  | 12 => [0, 1]
  | _ => []
def fmap (bs : Nat → Nat) (j : Nat) : List (Int × Value) := (List.range j).map fun i => (((i + 1 : Nat) : Int), Value.slice (some ⟨bs i, 0, none⟩) (fs (i + 1)).length (fs (i + 1)).length)
def fcells (k : Nat) : Array Value := ((fs k).map (Value.int .i64)).toArray
/-- j kinds have been put into the map g. -/
def FM (w0 : World) (g j : Nat) (w : World) : Prop := ∃ bs : Nat → Nat, MapIs w g .u8 (fmap bs j) ∧ (∀ i, i < j → w.heap[bs i]? = some (.cells (fcells (i + 1)) 57 (0, 0)) ∧ bs i ≠ g ∧ w0.heap.size ≤ bs i) ∧ Below w0.heap.size w0 w ∧ w0.heap.size ≤ g

theorem fmap_succ (bs : Nat → Nat) (b j : Nat) : fmap (fun i => if i = j then b else bs i) (j + 1) = fmap bs j ++ [(((j + 1 : Nat) : Int), Value.slice (some ⟨b, 0, none⟩) (fs (j + 1)).length (fs (j + 1)).length)] := by
  unfold fmap
  rw [List.range_succ, List.map_append]
  congr 1
  · refine List.map_congr_left fun i hi => ?_
    have : i ≠ j := by have := List.mem_range.1 hi; omega
    simp [this]
  · simp
theorem FM.start (w0 : World) : FM w0 w0.heap.size 0 (w0.alloc (.map #[] 0)) :=
  ⟨fun _ => 0, MapIs.nil _, fun i hi => by omega, ⟨rfl, rfl, rfl, by simp, fun k hk => Below.heap_alloc _ _ _ hk⟩, Nat.le_refl _⟩

theorem wpList_fieldPut {w0 w : World} {ops : Array Oper} {rest : List Oper} {o : Oper} {a : Act} {Q : Exit → Act → World → Prop} (g j : Nat) (hF : FM w0 g j w) (hgd : o.guard = none) (mo xo vo : Operand) (ho : o.op = .insert 55 mo xo vo)
    (hmo : a.eval mo = .map (some g)) (hxo : a.eval xo = .int .u8 ((j + 1 : Nat) : Int)) (n : Nat) (hn : n = w.heap.size) (hvo : a.eval vo = .slice (some ⟨n, 0, none⟩) (fs (j + 1)).length (fs (j + 1)).length) (cs : Array Value) (hcs : cs = fcells (j + 1))
    (hK : ∀ w', FM w0 g (j + 1) w' → wpList Try.prog ops Q rest (a.put o.dst undef) w') : wpList Try.prog ops Q (o :: rest) a (w.alloc (.cells cs 57)) := by
  subst hn hcs
  obtain ⟨bs, hm, hb, hbel, hg⟩ := hF
  refine wpList_mapPut hgd mo xo vo ho Try.underlying55 Try.underlying5 (by simp [Go.MapKept.IsKey]) hmo hxo hvo (hm.alloc _) ?_ ?_
  · intro p hp
    unfold fmap at hp
    simp only [List.mem_map, List.mem_range] at hp
    obtain ⟨i, hi, rfl⟩ := hp
    show ((i + 1 : Nat) : Int) ≠ ((j + 1 : Nat) : Int)
    omega
  · intro w' h1 h2 h3
    refine hK w' ⟨fun i => if i = j then w.heap.size else bs i, ?_, ?_, ?_, hg⟩
    · rw [fmap_succ]; exact h1
    · intro i hi
      by_cases e : i = j
      · subst e
        simp only [if_true]
        refine ⟨(h2.block _ (by simp) (by intro e; injection e with e; have := hm.lt; omega)).trans (heap_alloc_new _ _), by have := hm.lt; omega, hbel.size⟩
      · simp only [e, if_false]
        obtain ⟨q1, q2, q3⟩ := hb i (by omega)
        have hlt := lt_of_block q1
        exact ⟨(h2.block _ (by simp; omega) (by intro e; injection e with e; omega)).trans ((Below.heap_alloc _ _ _ hlt).trans q1), q2, q3⟩
    · exact (hbel.alloc hbel.size _).grown h2 (by simp; have := hbel.size; omega) (fun k hk => by injection hk with hk; omega)

set_option maxRecDepth 100000 in
set_option maxHeartbeats 4000000 in
theorem fields_any (w : World) : Calls Try.prog 30 #[] w fun e w' => e = .returned (.map (some w.heap.size)) ∧ FM w w.heap.size 12 w' := by
  have hmm := @run_makeMap Try.prog
  have H0 := hide (FM.start w)
  go_enter Try.func30, Try.ntmps30
  go_wp2_with (first
    | ((with_reducible refine (@id (wpList _ _ _ (Oper.mk none (Op.insert _ (.tmp 1) (.const (Value.int IntKind.u8 1)) (.tmp 2)) _ _ _ none :: _) _ _) ?_)); refine wpList_fieldPut w.heap.size 0 (unhide H0) rfl (.tmp 1) (.const (Value.int IntKind.u8 1)) (.tmp 2) rfl rfl rfl _ (by simp) rfl _ rfl ?_; intro w1 h1; have H1 := hide h1; clear h1 H0)
    | ((with_reducible refine (@id (wpList _ _ _ (Oper.mk none (Op.insert _ (.tmp 1) (.const (Value.int IntKind.u8 2)) (.tmp 3)) _ _ _ none :: _) _ _) ?_)); refine wpList_fieldPut w.heap.size 1 (unhide H1) rfl (.tmp 1) (.const (Value.int IntKind.u8 2)) (.tmp 3) rfl rfl rfl _ (by simp) rfl _ rfl ?_; intro w2 h2; have H2 := hide h2; clear h2 H1)
    | ((with_reducible refine (@id (wpList _ _ _ (Oper.mk none (Op.insert _ (.tmp 1) (.const (Value.int IntKind.u8 3)) (.tmp 4)) _ _ _ none :: _) _ _) ?_)); refine wpList_fieldPut w.heap.size 2 (unhide H2) rfl (.tmp 1) (.const (Value.int IntKind.u8 3)) (.tmp 4) rfl rfl rfl _ (by simp) rfl _ rfl ?_; intro w3 h3; have H3 := hide h3; clear h3 H2)
    | ((with_reducible refine (@id (wpList _ _ _ (Oper.mk none (Op.insert _ (.tmp 1) (.const (Value.int IntKind.u8 4)) (.tmp 5)) _ _ _ none :: _) _ _) ?_)); refine wpList_fieldPut w.heap.size 3 (unhide H3) rfl (.tmp 1) (.const (Value.int IntKind.u8 4)) (.tmp 5) rfl rfl rfl _ (by simp) rfl _ rfl ?_; intro w4 h4; have H4 := hide h4; clear h4 H3)
    | ((with_reducible refine (@id (wpList _ _ _ (Oper.mk none (Op.insert _ (.tmp 1) (.const (Value.int IntKind.u8 5)) (.tmp 6)) _ _ _ none :: _) _ _) ?_)); refine wpList_fieldPut w.heap.size 4 (unhide H4) rfl (.tmp 1) (.const (Value.int IntKind.u8 5)) (.tmp 6) rfl rfl rfl _ (by simp) rfl _ rfl ?_; intro w5 h5; have H5 := hide h5; clear h5 H4)
    | ((with_reducible refine (@id (wpList _ _ _ (Oper.mk none (Op.insert _ (.tmp 1) (.const (Value.int IntKind.u8 6)) (.tmp 7)) _ _ _ none :: _) _ _) ?_)); refine wpList_fieldPut w.heap.size 5 (unhide H5) rfl (.tmp 1) (.const (Value.int IntKind.u8 6)) (.tmp 7) rfl rfl rfl _ (by simp) rfl _ rfl ?_; intro w6 h6; have H6 := hide h6; clear h6 H5)
    | ((with_reducible refine (@id (wpList _ _ _ (Oper.mk none (Op.insert _ (.tmp 1) (.const (Value.int IntKind.u8 7)) (.tmp 8)) _ _ _ none :: _) _ _) ?_)); refine wpList_fieldPut w.heap.size 6 (unhide H6) rfl (.tmp 1) (.const (Value.int IntKind.u8 7)) (.tmp 8) rfl rfl rfl _ (by simp) rfl _ rfl ?_; intro w7 h7; have H7 := hide h7; clear h7 H6)
    | ((with_reducible refine (@id (wpList _ _ _ (Oper.mk none (Op.insert _ (.tmp 1) (.const (Value.int IntKind.u8 8)) (.tmp 9)) _ _ _ none :: _) _ _) ?_)); refine wpList_fieldPut w.heap.size 7 (unhide H7) rfl (.tmp 1) (.const (Value.int IntKind.u8 8)) (.tmp 9) rfl rfl rfl _ (by simp) rfl _ rfl ?_; intro w8 h8; have H8 := hide h8; clear h8 H7)
    | ((with_reducible refine (@id (wpList _ _ _ (Oper.mk none (Op.insert _ (.tmp 1) (.const (Value.int IntKind.u8 9)) (.tmp 10)) _ _ _ none :: _) _ _) ?_)); refine wpList_fieldPut w.heap.size 8 (unhide H8) rfl (.tmp 1) (.const (Value.int IntKind.u8 9)) (.tmp 10) rfl rfl rfl _ (by simp) rfl _ rfl ?_; intro w9 h9; have H9 := hide h9; clear h9 H8)
    | ((with_reducible refine (@id (wpList _ _ _ (Oper.mk none (Op.insert _ (.tmp 1) (.const (Value.int IntKind.u8 10)) (.tmp 11)) _ _ _ none :: _) _ _) ?_)); refine wpList_fieldPut w.heap.size 9 (unhide H9) rfl (.tmp 1) (.const (Value.int IntKind.u8 10)) (.tmp 11) rfl rfl rfl _ (by simp) rfl _ rfl ?_; intro w10 h10; have H10 := hide h10; clear h10 H9)
    | ((with_reducible refine (@id (wpList _ _ _ (Oper.mk none (Op.insert _ (.tmp 1) (.const (Value.int IntKind.u8 11)) (.tmp 12)) _ _ _ none :: _) _ _) ?_)); refine wpList_fieldPut w.heap.size 10 (unhide H10) rfl (.tmp 1) (.const (Value.int IntKind.u8 11)) (.tmp 12) rfl rfl rfl _ (by simp) rfl _ rfl ?_; intro w11 h11; have H11 := hide h11; clear h11 H10)
    | ((with_reducible refine (@id (wpList _ _ _ (Oper.mk none (Op.insert _ (.tmp 1) (.const (Value.int IntKind.u8 12)) (.tmp 13)) _ _ _ none :: _) _ _) ?_)); refine wpList_fieldPut w.heap.size 11 (unhide H11) rfl (.tmp 1) (.const (Value.int IntKind.u8 12)) (.tmp 13) rfl rfl rfl _ (by simp) rfl _ rfl ?_; intro w12 h12; have H12 := hide h12; clear h12 H11))
  go_ret
  exact ⟨rfl, unhide H12⟩

end Go.Proofs.Ytphbkjdheopmhaa
