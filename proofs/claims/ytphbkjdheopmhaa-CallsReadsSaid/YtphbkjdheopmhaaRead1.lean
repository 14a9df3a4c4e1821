/- The walk of calls.Read where there is no call. Conditions: there are fewer than 2^32 bytes. -/
import Derived.Test.YtphbkjdheopmhaaRdr2
import Derived.Test.YtphbkjdheopmhaaCalls7
import Derived.Test.YtphbkjdheopmhaaClBack
import Derived.Test.YtphbkjdheopmhaaCalls10
import Derived.StillTailTactics
import Derived.Laws.CopyOwn
namespace Go.Proofs.Ytphbkjdheopmhaa
set_option linter.unusedVariables false
set_option linter.unusedSimpArgs false
open Go.RowKit

theorem results_cell_tmp2 {P : Program} {fn : Func} {p q r : Tmp} {ty : TypeId} (h : fn.results = #[.cell p ty, .tmp q, .tmp r]) (tmps : Array Value) (w : World) (g : Nat) (t : TypeId) (cs : Array Value) (fr : Nat × Nat) (d : TypeDesc)
    (hp : tmps.getD p undef = .pointer (some ⟨g, 0, none⟩)) (hg : w.heap[g]? = some (.cells cs t fr))
    (hu : P.underlying ty = some d) (hd : (match d with | .struct _ | .array _ _ => true | _ => false) = true) (hi : (P.info? ty).map (·.size) = some cs.size) :
    (results fn tmps).run P w = .ok (.tuple #[.agg cs, tmps.getD q undef, tmps.getD r undef]) w := by
  have hp' : tmps[p]?.getD undef = .pointer (some ⟨g, 0, none⟩) := by simpa using hp
  simp [results, h, hp', asAddr, run_loadVar_row w g t ty cs fr d hg hu hd hi]
/-- The lists of a call are rows of the call's own. -/
structure ClOwn (w : World) (base : Nat) (q : Cl.C) (x y z : Sl) : Prop where
  o1 : w.ownsRow base 9 1 (.slice x.A x.n x.c) x.n (q.argv.map Value.string)
  o2 : w.ownsRow base 9 1 (.slice y.A y.n y.c) y.n (q.env.map Value.string)
  o3 : w.ownsRow base 5 1 (.slice z.A z.n z.c) z.n (bys q.bytes)
theorem ClOwn.ok {w : World} {base : Nat} {q : Cl.C} {x y z : Sl} (h : ClOwn w base q x y z) : ClOk w w.heap.size q x y z := ⟨Rd.of_own h.o1, Rd.of_own h.o2, Rd.of_own h.o3⟩
theorem ClOwn.below {w w' : World} {base : Nat} {q : Cl.C} {x y z : Sl} (h : ClOwn w base q x y z) (hb : Below w.heap.size w w') : ClOwn w' base q x y z := ⟨own_below h.o1 hb, own_below h.o2 hb, own_below h.o3 hb⟩
theorem ClOwn.base {w : World} {base base' : Nat} {q : Cl.C} {x y z : Sl} (h : ClOwn w base q x y z) (hb : base' ≤ base) : ClOwn w base' q x y z := ⟨own_base h.o1 hb, own_base h.o2 hb, own_base h.o3 hb⟩
theorem ClOwn.grown {w w' : World} {base g : Nat} {q : Cl.C} {x y z : Sl} (h : ClOwn w base q x y z) (hg : w.grownBy w' (some g)) (hlt : g < base) : ClOwn w' base q x y z :=
  ⟨h.o1.kept hg (own_ne_g h.o1 hlt), h.o2.kept hg (own_ne_g h.o2 hlt), h.o3.kept hg (own_ne_g h.o3 hlt)⟩
theorem ClOwn.set {w : World} {base : Nat} {p : Addr} {q : Cl.C} {x y z : Sl} (h : ClOwn w base q x y z) (hp : p.block < base) (u : Value) : ClOwn (w.setCell p u) base q x y z :=
  ⟨own_other h.o1 hp u, own_other h.o2 hp u, own_other h.o3 hp u⟩
def slN : Sl := ⟨none, 0, 0⟩
theorem ClOwn.zero (w : World) (base k : Nat) : ClOwn w base (Cl.kindC k) slN slN slN := ⟨World.ownsRow_nil _ _ _ _, World.ownsRow_nil _ _ _ _, World.ownsRow_nil _ _ _ _⟩
/-- A call's cells as a list. -/
abbrev clL (q : Cl.C) (x y z : Sl) : List Value := [.int .u8 q.kind, .int .u64 q.a, .int .u64 q.b, .int .u64 q.c, .int .u64 q.d, .int .u64 q.e, .string q.path, .slice x.A x.n x.c, .slice y.A y.n y.c, .slice z.A z.n z.c]
abbrev zeroL : List Value := [.int .u8 0, .int .u64 0, .int .u64 0, .int .u64 0, .int .u64 0, .int .u64 0, .string ⟨#[]⟩, .slice none 0 0, .slice none 0 0, .slice none 0 0]
theorem zero_one : zeroL.toArray.all (·.oneCell') = true := by simp [Value.oneCell']
theorem cl_one (q : Cl.C) (x y z : Sl) : (clCells q x y z).all (·.oneCell') = true := by simp [Value.oneCell']
theorem blk_row {w : World} {g : Nat} {t : TypeId} {l m : List Value} (h : Blk w g t l) : Blk (w.setRow g m.toArray) g t m := setRow_heap w g _ _ t (0, 0) h

/-- What Read answers. -/
def ReadEnd (q : Cl.C × Nat × Int) (w : World) (e : Ending) (w' : World) : Prop := ∃ x y z, e = .returned (.tuple #[.agg (clCells q.1 x y z), .int .i64 (q.2.1 : Nat), .int .i64 q.2.2]) ∧ ClOwn w' w.heap.size q.1 x y z ∧ Below w.heap.size w w'

set_option maxRecDepth 100000 in
set_option maxHeartbeats 1000000 in
theorem callRead_nil (A : Option Addr) (c : Nat) (w : World) :
    Calls Try.prog 21 #[.slice A 0 c] w (ReadEnd (Cl.zeroC, 0, 24) w) := by
  have hb0 := Blk.new w 26 zeroL
  have HB := hide hb0
  have hci := callInfo
  clear hb0
  go_enter Try.func21, Try.ntmps21
  go_wp2
  refine bodyPost_ret (results_cell_tmp2 (P := Try.prog) rfl _ _ w.heap.size 26 zeroL.toArray (0, 0) _ rfl (unhide HB) Try.underlying26 rfl callInfo) rfl ?_
  exact ⟨slN, slN, slN, rfl, (ClOwn.zero _ _ 0), (Below.refl _ _).alloc (Nat.le_refl _) _⟩

set_option maxRecDepth 100000 in
set_option maxHeartbeats 4000000 in
theorem callRead_kind (A : Option Addr) (m c B : Nat) (k : UInt8) (l : List UInt8) (w : World) (hb : Rd w B 1 A m (bys (k :: l))) (hB : B ≤ w.heap.size) (hm : m ≤ 4294967296) (hk : k.toNat = 0 ∨ 12 < k.toNat) :
    Calls Try.prog 21 #[.slice A m c] w (ReadEnd (Cl.zeroC, 0, 23) w) := by
  have hml : m = l.length + 1 := by simpa [bys] using hb.len1.symm
  obtain ⟨ab, ao, rfl, hlt, c0⟩ := hb.at_ (k := 0) (u := .int .u8 k.toNat) (by simp [bys])
  rw [Nat.add_zero] at c0
  have hb0 := Blk.new w 26 zeroL
  have hb1 := Blk.new w 26 [.int .u8 k.toNat, .int .u64 0, .int .u64 0, .int .u64 0, .int .u64 0, .int .u64 0, .string ⟨#[]⟩, .slice none 0 0, .slice none 0 0, .slice none 0 0]
  have hc1 := (World.cell?_alloc_lt w (.cells zeroL.toArray 26) ⟨ab, ao, none⟩ (by show ab < _; omega)).trans c0
  have hz0 := hb0.cell (i := 0) rfl
  have hf0 := hb0.free 0
  have hbel : Below w.heap.size w (w.alloc (.cells #[.int .u8 k.toNat, .int .u64 0, .int .u64 0, .int .u64 0, .int .u64 0, .int .u64 0, .string ⟨#[]⟩, .slice none 0 0, .slice none 0 0, .slice none 0 0] 26)) := (Below.refl _ _).alloc (Nat.le_refl _) _
  have HB1 := hide hb1
  have Hbel := hide hbel
  have hci := callInfo
  have hmz : ((m : Int) == 0) = false := beq_eq_false_iff_ne.2 (by omega)
  have Hml := hide hml
  have hm1 : 1 ≤ m := by omega
  clear hb0 hb1 hb hbel c0 hml
  go_enter Try.func21, Try.ntmps21
  go_wp2_with fail
  generalize hgW : w.alloc (.cells #[.int .u8 k.toNat, .int .u64 0, .int .u64 0, .int .u64 0, .int .u64 0, .int .u64 0, .string ⟨#[]⟩, .slice none 0 0, .slice none 0 0, .slice none 0 0] 26) = W at *
  have hlW : w.heap.size < W.heap.size := (unhide HB1).lt
  clear hgW hz0 hf0 hc1 hmz
  have v0 := (unhide HB1).cell (i := 0) rfl
  go_region_held3 (fun w' => w'.cell? ⟨w.heap.size, 0, none⟩ = some (.int .u8 k.toNat)) (first | exact v0 | exact hx0) (first | (go_at_call 30; refine (fields_any _).mono ?_; rintro e w1 ⟨rfl, hFM0⟩; have hFM : FM W W.heap.size 12 w1 := hFM0.of_drew ⟨_, rfl⟩; clear hFM0; have hx0 := (hFM.below.cell (p := ⟨w.heap.size, 0, none⟩) hlW).trans v0; have hbl2 := look_no hFM hk))
  have HB2 := hide ((unhide HB1).below hFM.below hlW)
  have HB3 := hide (blk_row (m := zeroL) (unhide HB2))
  have Hbel2 := hide ((unhide Hbel).trans (hFM.below.mono (by omega)))
  clear HB1 Hbel hbl2 hx0 v0 hFM
  go_wp2_with ((with_reducible refine (@id (wpList _ _ _ (Oper.mk none (Op.store 26 (.tmp 2) (.tmp 28)) _ _ _ none :: _) _ _) ?_)); refine wpList_store_row rfl 26 (.tmp 2) (.tmp 28) rfl w.heap.size zeroL.toArray rfl rfl 26 _ (unhide HB2) hci rfl zero_one ?_)
  refine bodyPost_ret (results_cell_tmp2 (P := Try.prog) rfl _ _ w.heap.size 26 zeroL.toArray (0, 0) _ rfl (unhide HB3) Try.underlying26 rfl callInfo) rfl ?_
  exact ⟨slN, slN, slN, rfl, (ClOwn.zero _ _ 0), below_setRow (unhide Hbel2) (Nat.le_refl _) _⟩
end Go.Proofs.Ytphbkjdheopmhaa
