/- Texts of the claim LawMakerSymbols (MkP6, AppG, MkR4c, MkP7, RevJoin, MkP8, MkR5b, MkP9, MkP11, CopyT, MkL2, MkL3, MkP10): what the functions that the statement reaches compute, and plain laws of it. Conditions: those that each theorem states. -/
import Derived.Test.YtnbecdahfgkffaaGreatMsK3
import Derived.Test.YtnbecdahfgkffaaGreatMsK1
import Derived.ArgAppend
import Derived.Deep.Upon
import Derived.Test.YtnbecdahfgkffaaGreatShelf
import Derived.Test.YtnbecdahfgkffaaGreatMsK2
import Derived.Laws.IdiomCopy
import Derived.Lib.RowBridge
import Derived.Deep.DeepCutAuto
import Derived.Deep.CutBlock
import Derived.Deep.MidRow
import Derived.Laws.EntriesVeiled
set_option linter.unusedVariables false
set_option linter.unusedSimpArgs false
namespace Go.Proofs.YtnbecdahfgkffaaGreat
open Go.RowKit
theorem spec_cellsP {w : World} {g : Nat} {s : Xq} (h : Blk w g 66 s.l) : w.cell? ⟨g, 0, none⟩ = some (.int .u16 (s.x.type : Nat)) ∧ w.cell? ⟨g, 1, none⟩ = some (.int .u64 (s.x.entry : Nat)) ∧ w.cell? ⟨g, 2, none⟩ = some (.string s.x.interp) ∧ w.cell? ⟨g, 3, none⟩ = some (.slice s.At s.x.text.length s.ct) ∧ w.cell? ⟨g, 4, none⟩ = some (.slice s.Ad s.x.data.length s.cd) ∧ w.cell? ⟨g, 5, none⟩ = some (.int .u64 (s.x.more : Nat)) ∧ w.cell? ⟨g, 6, none⟩ = some (.bool s.x.dynamic) ∧ w.cell? ⟨g, 7, none⟩ = some (.slice s.A1 s.x.dyn.needed.length s.c1) ∧ w.cell? ⟨g, 8, none⟩ = some (.string s.x.dyn.soname) ∧ w.cell? ⟨g, 9, none⟩ = some (.string s.x.dyn.run) ∧ w.cell? ⟨g, 10, none⟩ = some (.slice s.A2 s.x.dyn.syms.length s.c2) ∧ w.cell? ⟨g, 11, none⟩ = some (.slice s.A3 s.x.dyn.relas.length s.c3) ∧ w.cell? ⟨g, 12, none⟩ = some (.int .i64 s.x.apart) :=
  ⟨h.cell (i := 0) rfl, h.cell (i := 1) rfl, h.cell (i := 2) rfl, h.cell (i := 3) rfl, h.cell (i := 4) rfl, h.cell (i := 5) rfl, h.cell (i := 6) rfl, h.cell (i := 7) rfl, h.cell (i := 8) rfl, h.cell (i := 9) rfl, h.cell (i := 10) rfl, h.cell (i := 11) rfl, h.cell (i := 12) rfl⟩
set_option maxRecDepth 100000 in
set_option maxHeartbeats 8000000 in
theorem pbase_any (s : Xq) (w : World) : Calls Tryz.prog 27 #[.agg s.l.toArray] w fun e w' => e = .returned (.int .u64 (Mk.base s.x : Nat)) ∧ Below w.heap.size w w' := by
  have hb1 : Below w.heap.size w (w.alloc (.cells #[.int .u16 (s.x.type : Nat), .int .u64 (s.x.entry : Nat), .string s.x.interp, .slice s.At s.x.text.length s.ct, .slice s.Ad s.x.data.length s.cd, .int .u64 (s.x.more : Nat), .bool s.x.dynamic, .slice s.A1 s.x.dyn.needed.length s.c1, .string s.x.dyn.soname, .string s.x.dyn.run, .slice s.A2 s.x.dyn.syms.length s.c2, .slice s.A3 s.x.dyn.relas.length s.c3, .int .i64 s.x.apart] 66)) := (Below.refl _ _).alloc (Nat.le_refl _) _
  have y0 : (w.alloc (.cells #[.int .u16 (s.x.type : Nat), .int .u64 (s.x.entry : Nat), .string s.x.interp, .slice s.At s.x.text.length s.ct, .slice s.Ad s.x.data.length s.cd, .int .u64 (s.x.more : Nat), .bool s.x.dynamic, .slice s.A1 s.x.dyn.needed.length s.c1, .string s.x.dyn.soname, .string s.x.dyn.run, .slice s.A2 s.x.dyn.syms.length s.c2, .slice s.A3 s.x.dyn.relas.length s.c3, .int .i64 s.x.apart] 66)).cell? ⟨w.heap.size, 0, none⟩ = some (.int .u16 (s.x.type : Nat)) := (Blk.new w 66 s.l).cell (i := 0) rfl
  have Hb1 := hide hb1
  have Hba := hide (show Mk.base s.x = if s.x.type = 2 then 4194304 else 0 from rfl)
  show Calls _ _ #[.agg #[.int .u16 (s.x.type : Nat), .int .u64 (s.x.entry : Nat), .string s.x.interp, .slice s.At s.x.text.length s.ct, .slice s.Ad s.x.data.length s.cd, .int .u64 (s.x.more : Nat), .bool s.x.dynamic, .slice s.A1 s.x.dyn.needed.length s.c1, .string s.x.dyn.soname, .string s.x.dyn.run, .slice s.A2 s.x.dyn.syms.length s.c2, .slice s.A3 s.x.dyn.relas.length s.c3, .int .i64 s.x.apart]] w _
  clear hb1
  by_cases h : s.x.type = 2
  · have q1 : ((s.x.type : Int) == 2) = true := by rw [h]; rfl
    have He := hide (show Mk.base s.x = 4194304 by rw [unhide Hba, if_pos h])
    clear h
    go_enter Tryz.func27, Tryz.ntmps27
    go_wp2_with fail
    go_ret
    exact ⟨by rw [unhide He]; rfl, unhide Hb1⟩
  · have q1 : ((s.x.type : Int) == 2) = false := by rw [beq_eq_false_iff_ne]; omega
    have He := hide (show Mk.base s.x = 0 by rw [unhide Hba, if_neg h])
    clear h
    go_enter Tryz.func27, Tryz.ntmps27
    go_wp2_with fail
    go_ret
    exact ⟨by rw [unhide He]; rfl, unhide Hb1⟩
set_option maxRecDepth 100000 in
set_option maxHeartbeats 8000000 in
theorem pempty_any (s : Xq) (w : World) (ho : DqOk s.q) : Calls Tryz.prog 68 #[.agg #[.slice s.A1 s.x.dyn.needed.length s.c1, .string s.x.dyn.soname, .string s.x.dyn.run, .slice s.A2 s.x.dyn.syms.length s.c2, .slice s.A3 s.x.dyn.relas.length s.c3]] w fun e w' => e = .returned (.bool (Mk.empty s.x.dyn)) ∧ Below w.heap.size w w' := by
  have hb1 : Below w.heap.size w (w.alloc (.cells #[.slice s.A1 s.x.dyn.needed.length s.c1, .string s.x.dyn.soname, .string s.x.dyn.run, .slice s.A2 s.x.dyn.syms.length s.c2, .slice s.A3 s.x.dyn.relas.length s.c3] 29)) := (Below.refl _ _).alloc (Nat.le_refl _) _
  have hbl := Blk.new w 29 [.slice s.A1 s.x.dyn.needed.length s.c1, .string s.x.dyn.soname, .string s.x.dyn.run, .slice s.A2 s.x.dyn.syms.length s.c2, .slice s.A3 s.x.dyn.relas.length s.c3]
  have y0 : (w.alloc (.cells #[.slice s.A1 s.x.dyn.needed.length s.c1, .string s.x.dyn.soname, .string s.x.dyn.run, .slice s.A2 s.x.dyn.syms.length s.c2, .slice s.A3 s.x.dyn.relas.length s.c3] 29)).cell? ⟨w.heap.size, 0, none⟩ = some (.slice s.A1 s.x.dyn.needed.length s.c1) := hbl.cell (i := 0) rfl
  have y1 : (w.alloc (.cells #[.slice s.A1 s.x.dyn.needed.length s.c1, .string s.x.dyn.soname, .string s.x.dyn.run, .slice s.A2 s.x.dyn.syms.length s.c2, .slice s.A3 s.x.dyn.relas.length s.c3] 29)).cell? ⟨w.heap.size, 1, none⟩ = some (.string s.x.dyn.soname) := hbl.cell (i := 1) rfl
  have y2 : (w.alloc (.cells #[.slice s.A1 s.x.dyn.needed.length s.c1, .string s.x.dyn.soname, .string s.x.dyn.run, .slice s.A2 s.x.dyn.syms.length s.c2, .slice s.A3 s.x.dyn.relas.length s.c3] 29)).cell? ⟨w.heap.size, 2, none⟩ = some (.string s.x.dyn.run) := hbl.cell (i := 2) rfl
  have y3 : (w.alloc (.cells #[.slice s.A1 s.x.dyn.needed.length s.c1, .string s.x.dyn.soname, .string s.x.dyn.run, .slice s.A2 s.x.dyn.syms.length s.c2, .slice s.A3 s.x.dyn.relas.length s.c3] 29)).cell? ⟨w.heap.size, 3, none⟩ = some (.slice s.A2 s.x.dyn.syms.length s.c2) := hbl.cell (i := 3) rfl
  have y4 : (w.alloc (.cells #[.slice s.A1 s.x.dyn.needed.length s.c1, .string s.x.dyn.soname, .string s.x.dyn.run, .slice s.A2 s.x.dyn.syms.length s.c2, .slice s.A3 s.x.dyn.relas.length s.c3] 29)).cell? ⟨w.heap.size, 4, none⟩ = some (.slice s.A3 s.x.dyn.relas.length s.c3) := hbl.cell (i := 4) rfl
  have n1 : s.x.dyn.needed.length ≤ 4294967296 := ho.n1
  have n2 : s.x.dyn.syms.length ≤ 4294967296 := ho.n2
  have n3 : s.x.dyn.relas.length ≤ 4294967296 := ho.n3
  have Hb1 := hide hb1
  have Hem := hide (show Mk.empty s.x.dyn = (decide (s.x.dyn.needed.length + s.x.dyn.syms.length + s.x.dyn.relas.length = 0) && (decide (s.x.dyn.soname.size = 0) && decide (s.x.dyn.run.size = 0))) from rfl)
  clear hb1 hbl ho
  by_cases h : s.x.dyn.needed.length + s.x.dyn.syms.length + s.x.dyn.relas.length = 0
  · have q1 : ((s.x.dyn.needed.length : Int) + (s.x.dyn.syms.length : Int) + (s.x.dyn.relas.length : Int) == 0) = true := by rw [beq_iff_eq]; omega
    have He := hide (show Mk.empty s.x.dyn = (decide (s.x.dyn.soname.size = 0) && decide (s.x.dyn.run.size = 0)) by rw [unhide Hem, decide_eq_true h, Bool.true_and])
    clear h
    by_cases h1 : s.x.dyn.soname.size = 0
    · have q2 := toList_empty h1
      by_cases h2 : s.x.dyn.run.size = 0
      · have q3 := toList_empty h2
        have He2 := hide (show Mk.empty s.x.dyn = true by rw [unhide He]; simp [h1, h2])
        clear h1 h2
        go_enter Tryz.func68, Tryz.ntmps68
        go_wp2_with fail
        go_ret
        exact ⟨by rw [unhide He2]; rfl, unhide Hb1⟩
      · have q3 := toList_some h2
        have He2 := hide (show Mk.empty s.x.dyn = false by rw [unhide He]; simp [h1, h2])
        clear h1 h2
        go_enter Tryz.func68, Tryz.ntmps68
        go_wp2_with fail
        go_ret
        exact ⟨by rw [unhide He2]; rfl, unhide Hb1⟩
    · have q2 := toList_some h1
      have He2 := hide (show Mk.empty s.x.dyn = false by rw [unhide He]; simp [h1])
      clear h1
      go_enter Tryz.func68, Tryz.ntmps68
      go_wp2_with fail
      go_ret
      exact ⟨by rw [unhide He2]; rfl, unhide Hb1⟩
  · have q1 : ((s.x.dyn.needed.length : Int) + (s.x.dyn.syms.length : Int) + (s.x.dyn.relas.length : Int) == 0) = false := by rw [beq_eq_false_iff_ne]; omega
    have He2 := hide (show Mk.empty s.x.dyn = false by rw [unhide Hem, decide_eq_false h, Bool.false_and])
    clear h
    go_enter Tryz.func68, Tryz.ntmps68
    go_wp2_with fail
    go_ret
    exact ⟨by rw [unhide He2]; rfl, unhide Hb1⟩
end Go.Proofs.YtnbecdahfgkffaaGreat
namespace Go.Proofs.YtnbecdahfgkffaaGreat
open Go.RowKit
section
variable {P : Program} {t e : TypeId} {size bytes : Nat}
theorem rd_src (T : SlTy P t e size bytes) {w : World} {B : Nat} {A : Option Addr} {m : Nat} {xs : List Value} (h : Rd w B size A m xs) (hm : 0 < m) : ∃ ad, A = some ad ∧ ∀ j u, xs[j]? = some u → w.cell? (ad.add j) = some u := by
  rcases h.2 with rfl | ⟨b, off, rfl, _, hc⟩
  · exfalso
    have h1 := h.1
    simp only [List.length_nil] at h1
    have := Nat.mul_pos hm T.hsz
    omega
  · exact ⟨_, rfl, fun j u hu => by rw [Addr.add_lit]; exact hc j u hu⟩
theorem run_appG (T : SlTy P t e size bytes) (w : World) (ty : TypeId) (A : Option Addr) (n B : Nat) (olds : List Value) (hr : Rd w B size A n olds) (B2 : Nat) (A2 : Option Addr) (m c : Nat) (news : List Value) (hr2 : Rd w B2 size A2 m news)
    (h1 : ∀ u ∈ news, u.oneCell' = true) (hb : (n + m) * bytes ≤ 140737488355328) :
    ∃ v' w', (Builtin.append_ #[t, t] ty #[.slice A n n, .slice A2 m c]).run P w = .ok v' w' ∧ ((m = 0 ∧ v' = .slice A n n ∧ w' = w) ∨ (0 < m ∧ w'.ownsRow w.heap.size e size v' (n + m) (olds ++ news) ∧ w.grownBy w' none)) := by
  have T' := T
  obtain ⟨ht, ⟨i, z, hi, hz, hs, hby, hzs⟩, hsz, hbp⟩ := T
  have h63 : n + m ≤ maxLen := by
    have : (n + m) * 1 ≤ (n + m) * bytes := Nat.mul_le_mul_left _ hbp
    unfold maxLen
    omega
  rcases Nat.eq_zero_or_pos m with rfl | hm
  · have hn0 : news = [] := List.eq_nil_of_length_eq_zero (by simpa using hr2.1)
    subst hn0
    refine ⟨_, _, ?_, .inl ⟨rfl, rfl, rfl⟩⟩
    cases A2 with
    | none => exact run_append_nothing w t t ty e i ht hi A n n (Nat.le_refl _) _ (Src.ofNil w ht c)
    | some a => exact run_append_nothing w t t ty e i ht hi A n n (Nat.le_refl _) _ (Src.ofSlice w ht a 0 c [] (by simp) (by simp) (by simp))
  · obtain ⟨ad, rfl, hc2⟩ := rd_src T' hr2 hm
    cases A with
    | some b0 =>
      have hc : ∀ j u, olds[j]? = some u → w.cell? (b0.add j) = some u := by
        intro j u hu
        rcases hr.2 with rfl | ⟨b, off, ha, _, hc⟩
        · simp at hu
        · injection ha with ha
          subst ha
          rw [Addr.add_lit]
          exact hc j u hu
      obtain ⟨v', w', hrun, r1, r2⟩ := run_append_arg_grows (P := P) w t ty e i z size bytes ht hi hz hs hby hzs hsz b0 n n olds hr.1 hc ad m c news hr2.1 hc2 (by omega) h63 hb
      exact ⟨v', w', hrun, .inr ⟨hm, r1, r2⟩⟩
    | none =>
      have hn : n = 0 ∧ olds = [] := by
        rcases hr.2 with rfl | ⟨b, off, ha, _, _⟩
        · have h1 := hr.1
          simp only [List.length_nil] at h1
          refine ⟨?_, rfl⟩
          rcases Nat.eq_zero_or_pos n with h | h
          · exact h
          · have := Nat.mul_pos h hsz
            omega
        · cases ha
      obtain ⟨rfl, rfl⟩ := hn
      obtain ⟨v', w', hrun, r1, r2, _⟩ := run_append_own (P := P) w w.heap.size t ty e i z size bytes ht hi hz hs hby hzs hsz (.slice none 0 0) 0 [] (World.ownsRow_nil w _ e size) ad m c news hr2.1 hc2 h1 h63 hb (Nat.le_refl _)
      exact ⟨v', w', hrun, .inr ⟨hm, r1, r2⟩⟩
theorem wpList_appGo (T : SlTy P t e size bytes) {w : World} {ops : Array Oper} {rest : List Oper} {o : Oper} {a : Act} {Q : Exit → Act → World → Prop} (hgd : o.guard = none) (s x : Operand)
    (ho : o.op = .call { callee := .builtin .append, args := #[s, x], argTypes := #[t, t] })
    (A : Option Addr) (n B : Nat) (olds : List Value) (hs : a.eval s = .slice A n n) (hr : Rd w B size A n olds)
    (B2 : Nat) (A2 : Option Addr) (m c : Nat) (news : List Value) (hx : a.eval x = .slice A2 m c) (hr2 : Rd w B2 size A2 m news) (h1 : ∀ u ∈ news, u.oneCell' = true)
    (hb : (n + m) * bytes ≤ 140737488355328) (hm : 0 < m)
    (h : ∀ A' c' w', w'.ownsRow w.heap.size e size (.slice A' (n + m) c') (n + m) (olds ++ news) → Below w.heap.size w w' → wpList P ops Q rest (a.put o.dst (.slice A' (n + m) c')) w') : wpList P ops Q (o :: rest) a w := by
  refine wpList_plain hgd fun _ hK => ?_
  obtain ⟨v', w', hrun, h2⟩ := run_appG T w o.type A n B olds hr B2 A2 m c news hr2 h1 hb
  unfold Oper.wp execOp
  simp only [ho, resolve, invoke, builtin, Sem.run_bind, Sem.run_pure, Result.andThen_ok, List.map_toArray, List.map_cons, List.map_nil, hs, hx, hrun]
  rcases h2 with ⟨rfl, _⟩ | ⟨_, h3, h4⟩
  · omega
  · obtain ⟨A', c', rfl⟩ := own_form h3
    exact hK _ _ (h A' c' w' h3 ((Below.refl _ _).grown h4 (Nat.le_refl _) (fun k hk => by cases hk)))
end
end Go.Proofs.YtnbecdahfgkffaaGreat
namespace Go.Proofs.YtnbecdahfgkffaaGreat
open Go.RowKit
theorem conv24 (w : World) (C : Array Value) (n c : Nat) : (convert 24 24 (.slice (some ⟨w.heap.size, 0, none⟩) n c)).run Tryz.prog (w.alloc (.cells C 5)) = .ok (.slice (some ⟨w.heap.size, 0, none⟩) n c) (w.alloc (.cells C 5 (C.size, C.size + 1))) := Lib.run_convert_bytes_const w 24 5 C n c Tryz.underlying24 Tryz.underlying5
end Go.Proofs.YtnbecdahfgkffaaGreat
namespace Go.Proofs.YtnbecdahfgkffaaGreat
open Go.RowKit
theorem lit3 (w : World) (a b c : Int) : Rd (w.alloc (.cells #[.int .u64 a, .int .u64 b, .int .u64 c] 23)) (w.alloc (.cells #[.int .u64 a, .int .u64 b, .int .u64 c] 23)).heap.size 1 (some ⟨w.heap.size, 0, none⟩) 3 [.int .u64 a, .int .u64 b, .int .u64 c] := by
  rw [show (w.alloc (.cells #[.int .u64 a, .int .u64 b, .int .u64 c] 23)).heap.size = w.heap.size + 1 by simp]
  exact Rd.rowF (n := 3) (size := 1) rfl
theorem lit6 (w : World) (a b c d e f : Int) : Rd (w.alloc (.cells #[.int .u64 a, .int .u64 b, .int .u64 c, .int .u64 d, .int .u64 e, .int .u64 f] 23)) (w.alloc (.cells #[.int .u64 a, .int .u64 b, .int .u64 c, .int .u64 d, .int .u64 e, .int .u64 f] 23)).heap.size 1 (some ⟨w.heap.size, 0, none⟩) 6 [.int .u64 a, .int .u64 b, .int .u64 c, .int .u64 d, .int .u64 e, .int .u64 f] := by
  rw [show (w.alloc (.cells #[.int .u64 a, .int .u64 b, .int .u64 c, .int .u64 d, .int .u64 e, .int .u64 f] 23)).heap.size = w.heap.size + 1 by simp]
  exact Rd.rowF (n := 6) (size := 1) rfl
theorem FiE.first {t : TypeId} {g o base n n' c' : Nat} {l : List Value} {A A' : Option Addr} {w w1 : World} {xs' : List UInt8} {ys : List Value} {c : Nat} (hbase : base ≤ w.heap.size) (h : Blk w g t l) (hb : Below w.heap.size w w1) (hat : l[o]? = some (.slice A n c)) (ho : w1.ownsRow w.heap.size 5 1 (.slice A' n' c') n' ys) (hy : ys = bys xs') : FiE t g o l base none w (w1.setCell ⟨g, o, none⟩ (.slice A' n' c')) A' n' c' xs' := by
  subst hy
  have hlt := h.lt
  have hl := own_bklt ho
  have hne : bk A' ≠ some g := fun e => by have := (hl g e).1; omega
  exact ⟨⟨(h.belowSz hb).set o _, by rw [List.getElem?_set_self (List.getElem?_eq_some_iff.1 hat).1], own_base (own_setG ho hne _) hbase, hne⟩, hb.os, hb.tape, hb.output, by simpa using hb.size, fun k hk h1 _ => (heap_setCell_other _ _ _ _ (by show k ≠ g; exact h1)).trans (hb.block k hk), fun k hk => .inr (hl k hk).1⟩
set_option maxRecDepth 100000 in
set_option maxHeartbeats 8000000 in
theorem pnumberG_any (t : TypeId) (g o : Nat) (l : List Value) (base : Nat) (A : Option Addr) (n : Nat) (xs : List UInt8) (kv ov m cv s : Nat) (vs : List Nat) (w : World) (h : Blk w g t l) (hat : l[o]? = some (.slice A n n)) (hrA : Rd w w.heap.size 1 A n (bys xs)) (hgA : bk A ≠ some g) (hbase : base ≤ w.heap.size)
    (hr : Rd w w.heap.size 1 (some ⟨kv, ov, none⟩) m (u64s vs)) (hbg : kv ≠ g) (hv : ∀ v ∈ vs, v < 18446744073709551616) (hs : s = 1 ∨ s = 2 ∨ s = 4 ∨ s = 8) (hn : n ≤ 17592186044416) (hm : m ≤ 1048576) (hm0 : 0 < m) :
    Calls Tryz.prog 72 #[.pointer (some ⟨g, o, none⟩), .int .i64 s, .slice (some ⟨kv, ov, none⟩) m cv] w fun e w' => e = .returned (.tuple #[]) ∧ ∃ A' c', FiE t g o l base none w w' A' (n + s * m) c' (xs ++ Mk.lbs s vs) := by
  have hvl : vs.length = m := by have := hr.1; simp [u64s] at this; omega
  have hs8 : s ≤ 8 := by omega
  have hsp : 0 < s := by omega
  obtain ⟨i, hi, hz0, hz1, hz2⟩ := info_parts byteInfo
  have Hi := hide hi
  have Hz0 := hide hz0
  have Hz1 := hide hz1
  have Hz2 := hide hz2
  have H := hide h
  have Hr := hide hr
  have Hbg := hide hbg
  have Hat := hide hat
  have HrA := hide hrA
  have HgA := hide hgA
  have Hv := hide hv
  have Hs := hide hs
  have Hvl := hide hvl
  clear h hr hbg hat hrA hgA hv hs hvl hi hz0 hz1 hz2
  go_enter Tryz.func72, Tryz.ntmps72
  go_wp2_with fail
  go_loopg [12] m (fun gk iv wr => ∃ (j : Nat), gk = m - j ∧ j ≤ m ∧ iv = .int .i64 j ∧ ((j = 0 ∧ wr = w) ∨ (0 < j ∧ ∃ A1 c1, FiE t g o l base none w wr A1 (n + s * j) c1 (xs ++ Mk.lbs s (vs.take j)))))
  case atStart => exact ⟨0, by omega, by omega, rfl, .inl ⟨rfl, rfl⟩⟩
  case round =>
  obtain ⟨j, hgk, hj, rfl, hE⟩ := hrel
  have Hgk := hide hgk
  clear hgk
  rcases hE with ⟨rfl, rfl⟩ | ⟨hj0, A1, c1, hE⟩
  · obtain ⟨x, hx⟩ : ∃ x, vs[0]? = some x := ⟨_, List.getElem?_eq_getElem (by rw [unhide Hvl]; exact hm0)⟩
    have hx64 := (unhide Hv) x (List.mem_of_getElem? hx)
    obtain ⟨b1, o1, hA1, hb1, st⟩ := (unhide Hr).at_ (k := 0) (u := .int .u64 (x : Nat)) (by simp [u64s, hx])
    injection hA1 with hA1
    injection hA1 with hA1 hA2
    subst hA1 hA2
    rw [Nat.add_zero] at st
    have Hx := hide hx
    have hji : (0 : Int) < (m : Int) := by omega
    clear hx
    go_wp2_with (at_make; refine wpList_make_full _ rfl _ _ 24 rfl wr.heap.size 5 i (.int .u8 0) 1 Tryz.underlying24 (unhide Hi) (unhide Hz0) (unhide Hz1) _ _ _ _ s rfl (by rfl) rfl (by rfl) (by rw [unhide Hz2]; omega) (by unfold maxLen; omega) (Nat.le_refl _) ?_; intro w1 hown hgrow; rw [zerosN] at hown; have hb1 := (Below.refl wr.heap.size wr).grown hgrow (Nat.le_refl _) (fun k hk => by cases hk); have Hown := hide hown; have Hb1 := hide hb1; clear hown hgrow hb1)
    have ho := unhide Hown
    have KS := hide (set_yes wr.heap.size s s w1.heap.size (List.replicate s 0) 0 s x w1 (Nat.le_refl _) (Rd.of_own ho) (by omega) (unhide Hs) (by omega) hx64)
    clear ho
    refine (unhide KS).mono ?_
    rintro e w2 ⟨A2, c2, rfl, ho2, hb2⟩
    rw [setK_all] at ho2
    have hs1 := (unhide Hb1).size
    have hb12 := (unhide Hb1).trans (hb2.mono hs1)
    have hB2 := (unhide H).belowSz hb12
    have y0 := hB2.cell (unhide Hat)
    have z0 := hB2.free o
    have HB2 := hide hB2
    have Hb12 := hide hb12
    have Ho2 := hide ho2
    have hs2 := hb12.size
    clear KS ho2 hb2 hb12 hB2
    go_wp2_with (at_builtin; refine wpList_appGo byteTy rfl _ _ rfl A n wr.heap.size (bys xs) rfl ((unhide HrA).below (unhide Hb12)) w2.heap.size A2 s c2 (bys (Cl.lb x s)) rfl (Rd.of_own (unhide Ho2)) (bys_one _) (by omega) hsp ?_; intro A3 c3 w3 ho3 hb3; have z2 := ((unhide HB2).belowSz hb3).cell (unhide Hat); have z3 := ((unhide HB2).belowSz hb3).free o; have HE3 := hide (FiE.first (l := l) (o := o) (g := g) (t := t) hbase (unhide H) ((unhide Hb12).trans (hb3.mono hs2)) (unhide Hat) (own_base ho3 hs2) (show bys xs ++ bys (Cl.lb x s) = bys (xs ++ Cl.lb x s) from (bys_app _ _).symm)); clear ho3 hb3 y0 z0)
    go_roundg (m - 1)
    case measure => have := unhide Hgk; omega
    case rel => exact ⟨1, rfl, by omega, by go_num, .inr ⟨by omega, A3, c3, by
      have h9 := unhide HE3
      have h8 : vs.take 1 = [x] := by
        have h7 := unhide Hx
        cases vs with
        | nil => simp at h7
        | cons a r => simp at h7; subst h7; rfl
      rw [h8, Nat.mul_one]
      simpa [Mk.lbs] using h9⟩⟩
  have hsz := hE.size
  have HE := hide hE
  clear hE
  rcases Nat.lt_or_ge j m with hlt | hge
  · obtain ⟨x, hx⟩ : ∃ x, vs[j]? = some x := ⟨_, List.getElem?_eq_getElem (by rw [unhide Hvl]; exact hlt)⟩
    have hx64 := (unhide Hv) x (List.mem_of_getElem? hx)
    obtain ⟨b1, o1, hA1, hb1, st⟩ := ((unhide HE).rdK (unhide Hr) (Nat.le_refl _) (fun e => (unhide Hbg) (by injection e)) (fun k e e2 => by cases e2)).at_ (k := j) (u := .int .u64 (x : Nat)) (by simp [u64s, hx])
    injection hA1 with hA1
    injection hA1 with hA1 hA2
    subst hA1 hA2
    have Hx := hide hx
    have hsj : s * j ≤ 8388608 := Nat.le_trans (Nat.mul_le_mul hs8 (by omega)) (by omega : 8 * 1048576 ≤ 8388608)
    have hji : (j : Int) < (m : Int) := by omega
    clear hx
    go_wp2_with (at_make; refine wpList_make_full _ rfl _ _ 24 rfl wr.heap.size 5 i (.int .u8 0) 1 Tryz.underlying24 (unhide Hi) (unhide Hz0) (unhide Hz1) _ _ _ _ s rfl (by rfl) rfl (by rfl) (by rw [unhide Hz2]; omega) (by unfold maxLen; omega) (Nat.le_refl _) ?_; intro w1 hown hgrow; rw [zerosN] at hown; have hb1 := (Below.refl wr.heap.size wr).grown hgrow (Nat.le_refl _) (fun k hk => by cases hk); have Hown := hide hown; have Hb1 := hide hb1; clear hown hgrow hb1)
    have ho := unhide Hown
    have KS := hide (set_yes wr.heap.size s s w1.heap.size (List.replicate s 0) 0 s x w1 (Nat.le_refl _) (Rd.of_own ho) (by omega) (unhide Hs) (by omega) hx64)
    clear ho
    refine (unhide KS).mono ?_
    rintro e w2 ⟨A2, c2, rfl, ho2, hb2⟩
    rw [setK_all] at ho2
    have hs1 := (unhide Hb1).size
    have hb12 := (unhide Hb1).trans (hb2.mono hs1)
    have hE2 := (unhide HE).then_ hb12
    have y0 := hE2.m.cell
    have z0 := hE2.m.blk.free o
    have HE2 := hide hE2
    have Ho2 := hide ho2
    have hs2 := hb12.size
    clear KS ho2 hb2 hb12 hE2 HE
    go_wp2_with (at_builtin; refine wpList_appKk byteTy rfl _ _ rfl base A1 (n + s * j) c1 _ rfl (unhide HE2).m.row w2.heap.size A2 s c2 (bys (Cl.lb x s)) rfl (Rd.of_own (unhide Ho2)) (bys_one _) hsp (by omega) (by omega) ?_; intro A3 c3 w3 ho3 hg3 ha3 hk3; clear hk3; obtain ⟨hb3, hE3⟩ := (unhide HE2).more (Below.refl _ _) (show Grew _ w3 base _ _ (n + s * j + s) (xs ++ Mk.lbs s (vs.take j) ++ Cl.lb x s) from ⟨by rw [bys_app]; exact ho3, hg3, ha3⟩); have z2 := hb3.cell (unhide HE2).m.at_; have z3 := hb3.free o; have HE3 := hide hE3; clear ho3 hg3 ha3 hb3 hE3 y0 z0)
    go_roundg (m - (j + 1))
    case measure => have := unhide Hgk; omega
    case rel => exact ⟨j + 1, rfl, by omega, by go_num, .inr ⟨by omega, A3, c3, by
      have h9 := unhide HE3
      rw [List.take_add_one, unhide Hx, Option.toList_some, lbs_snoc, ← List.append_assoc, Nat.mul_succ, ← Nat.add_assoc]
      exact h9⟩⟩
  · obtain rfl : j = m := by omega
    have ige : ¬ (j : Int) < (j : Int) := by omega
    have hE := unhide HE
    rw [List.take_of_length_le (by rw [unhide Hvl]; omega)] at hE
    have HE3 := hide hE
    clear hE HE
    go_wp2_with fail
    go_end0
    exact ⟨rfl, A1, c1, unhide HE3⟩
structure OwF (gF b0 : Nat) (W0 wr : World) (fs : List UInt8) (L : List (Nat × TypeId × List Value)) : Prop where
  fi : ∃ A c, FiM wr 71 gF 0 [.slice A fs.length c] b0 A fs.length c fs ∧ ∀ q ∈ L, Blk wr q.1 q.2.1 q.2.2 ∧ q.1 ≠ gF ∧ bk A ≠ some q.1
  bel : Below b0 W0 wr
  hg : b0 ≤ gF
  hb : b0 ≤ W0.heap.size
section
variable {gF b0 : Nat} {W0 wr w2 : World} {fs : List UInt8} {L : List (Nat × TypeId × List Value)}
theorem OwF.calm (h : OwF gF b0 W0 wr fs L) (hb : Below wr.heap.size wr w2) : OwF gF b0 W0 w2 fs L := by
  obtain ⟨A, c, F, d⟩ := h.fi
  exact ⟨⟨A, c, F.below hb, fun q hq => ⟨(d q hq).1.belowSz hb, (d q hq).2⟩⟩, h.bel.trans (hb.mono (by have := h.bel.size; have := h.hb; omega)), h.hg, h.hb⟩
theorem OwF.sub (h : OwF gF b0 W0 wr fs L) {L' : List (Nat × TypeId × List Value)} (hL : ∀ q ∈ L', q ∈ L) : OwF gF b0 W0 wr fs L' := by
  obtain ⟨A, c, F, d⟩ := h.fi
  exact ⟨⟨A, c, F, fun q hq => d q (hL q hq)⟩, h.bel, h.hg, h.hb⟩
theorem OwF.lay (h : OwF gF b0 W0 wr fs L) (t3 : TypeId) (l3 : List Value) : OwF gF b0 W0 (wr.alloc (.cells l3.toArray t3)) fs ((wr.heap.size, t3, l3) :: L) := by
  have hb : Below wr.heap.size wr (wr.alloc (.cells l3.toArray t3)) := below_al _ _
  have h1 := h.calm hb
  obtain ⟨A, c, F, d⟩ := h.fi
  refine ⟨⟨A, c, F.below hb, fun q hq => ?_⟩, h1.bel, h1.hg, h1.hb⟩
  rcases List.mem_cons.1 hq with rfl | hq
  · refine ⟨Blk.new wr t3 l3, fun e => ?_, fun e => ?_⟩
    · have := F.blk.lt; simp at e; omega
    · have := (F.lt _ e).2; simp at this
  · exact ⟨(d q hq).1.belowSz hb, (d q hq).2⟩
theorem OwF.cell (h : OwF gF b0 W0 wr fs L) {k i : Nat} {t3 : TypeId} {l3 : List Value} {v : Value} (hm : (k, t3, l3) ∈ L) (hi : l3[i]? = some v) : wr.cell? ⟨k, i, none⟩ = some v := by
  obtain ⟨A, c, F, d⟩ := h.fi
  exact (d _ hm).1.cell hi
theorem OwF.bind (h : OwF gF b0 W0 wr fs L) {fs' : List UInt8} (e : fs = fs') : OwF gF b0 W0 wr fs' L := by subst e; exact h
theorem OwF.callNumber (h : OwF gF b0 W0 wr fs L) (hb : Below wr.heap.size wr w2) {kv m cv s : Nat} {sv : Int} {vs : List Nat} {us : List Value} (hkv : wr.heap.size ≤ kv) (hr : Rd w2 w2.heap.size 1 (some ⟨kv, 0, none⟩) m us) (hu : us = u64s vs) (hv : ∀ v ∈ vs, v < 18446744073709551616) (hsv : sv = (s : Nat)) (hs : s = 1 ∨ s = 2 ∨ s = 4 ∨ s = 8) (hn : fs.length ≤ 17592186044416) (hm : m ≤ 1048576) :
    Calls Tryz.prog 72 #[.pointer (some ⟨gF, 0, none⟩), .int .i64 sv, .slice (some ⟨kv, 0, none⟩) m cv] w2 fun e w3 => e = .returned (.tuple #[]) ∧ OwF gF b0 W0 w3 (fs ++ Mk.lbs s vs) L := by
  subst hsv hu
  obtain ⟨A, c, F, d⟩ := h.fi
  have F2 := F.below hb
  have hlt := F.lt
  have hgl := F.blk.lt
  have h2 := h.calm hb
  have hvl : vs.length = m := by have := hr.1; simp [u64s] at this; omega
  refine (pnumber_any _ gF 0 _ b0 A fs.length c fs kv 0 m cv s vs w2 F2 (by have := h2.bel.size; have := h.hb; omega) hr (by omega) (fun e => by have := (hlt kv e).2; omega) hv hs hn hm).mono ?_
  rintro e w3 ⟨rfl, A', c', E, -⟩
  have hnl : fs.length + s * m = (fs ++ Mk.lbs s vs).length := by rw [List.length_append, lbs_len', hvl]
  rw [hnl] at E
  refine ⟨rfl, ⟨⟨A', c', E.m, fun q hq => ?_⟩, h2.bel.trans (E.below h.hg (fun k hk => (hlt k hk).1) (by have := h2.bel.size; have := h.hb; omega)), h.hg, h.hb⟩⟩
  obtain ⟨q1, q2, q3⟩ := d q hq
  refine ⟨E.blk (q1.belowSz hb) q2 q3, q2, fun e => ?_⟩
  rcases E.at_ _ e with h9 | h9
  · exact q3 h9
  · have := (q1.belowSz hb).lt; omega
end
theorem OwF.startG {gF b0 n : Nat} {A : Option Addr} {W0 w2 : World} {xs : List UInt8} {L : List (Nat × TypeId × List Value)} (hf : Blk W0 gF 71 [.slice A n n]) (hrA : Rd W0 W0.heap.size 1 A n (bys xs)) (hA : bk A ≠ some gF) (hg : b0 ≤ gF) (hb0 : b0 ≤ W0.heap.size) (hL : ∀ q ∈ L, Blk W0 q.1 q.2.1 q.2.2 ∧ q.1 ≠ gF)
    (hb : Below W0.heap.size W0 w2) {kv m cv s : Nat} {sv : Int} {vs : List Nat} {us : List Value} (hkv : W0.heap.size ≤ kv) (hr : Rd w2 w2.heap.size 1 (some ⟨kv, 0, none⟩) m us) (hu : us = u64s vs) (hv : ∀ v ∈ vs, v < 18446744073709551616) (hsv : sv = (s : Nat)) (hs : s = 1 ∨ s = 2 ∨ s = 4 ∨ s = 8) (hn : n ≤ 17592186044416) (hm : m ≤ 1048576) (hm0 : 0 < m) :
    Calls Tryz.prog 72 #[.pointer (some ⟨gF, 0, none⟩), .int .i64 sv, .slice (some ⟨kv, 0, none⟩) m cv] w2 fun e w3 => e = .returned (.tuple #[]) ∧ OwF gF b0 W0 w3 (xs ++ Mk.lbs s vs) L := by
  subst hsv hu
  have hgl := hf.lt
  have hxl : xs.length = n := by simpa [bys] using hrA.len1
  have hvl : vs.length = m := by have := hr.1; simp [u64s] at this; omega
  have hsz := hb.size
  refine (pnumberG_any _ gF 0 _ b0 A n xs kv 0 m cv s vs w2 (hf.belowSz hb) rfl ((hrA.below hb).more hsz) hA (by omega) hr (by omega) hv hs hn hm hm0).mono ?_
  rintro e w3 ⟨rfl, A', c', E⟩
  have hnl : n + s * m = (xs ++ Mk.lbs s vs).length := by rw [List.length_append, lbs_len', hvl, hxl]
  rw [hnl] at E
  refine ⟨rfl, ⟨⟨A', c', E.m, fun q hq => ?_⟩, (hb.mono hb0).trans (E.below hg (fun k hk => by cases hk) (by omega)), hg, hb0⟩⟩
  obtain ⟨q1, q2⟩ := hL q hq
  refine ⟨E.blk (q1.belowSz hb) q2 (by simp [bk]), q2, fun e => ?_⟩
  rcases E.at_ _ e with h9 | h9
  · cases h9
  · have := q1.lt; omega
set_option maxRecDepth 100000 in
set_option maxHeartbeats 16000000 in
theorem phead_any (s : Xq) (Al : Option Addr) (nl cl B : Nat) (l : List Mk.Row) (w : World) (hB : B ≤ w.heap.size) (hl : l.length = nl) (hnl : nl ≤ 64) (hr : Rd w B 7 Al nl (rowC l)) (hok : ∀ r ∈ l, RowOk r) (hty : s.x.type < 65536) (hen : s.x.entry < 18446744073709551616) :
    Calls Tryz.prog 32 #[.agg s.l.toArray, .slice Al nl cl] w fun e w' => ∃ A' c', e = .returned (.slice A' (64 + 56 * nl) c') ∧ w'.ownsRow w.heap.size 5 1 (.slice A' (64 + 56 * nl) c') (64 + 56 * nl) (bys (Mk.head s.x l)) ∧ Below w.heap.size w w' := by
  have hb1 : Below w.heap.size w (w.alloc (.cells #[.int .u16 (s.x.type : Nat), .int .u64 (s.x.entry : Nat), .string s.x.interp, .slice s.At s.x.text.length s.ct, .slice s.Ad s.x.data.length s.cd, .int .u64 (s.x.more : Nat), .bool s.x.dynamic, .slice s.A1 s.x.dyn.needed.length s.c1, .string s.x.dyn.soname, .string s.x.dyn.run, .slice s.A2 s.x.dyn.syms.length s.c2, .slice s.A3 s.x.dyn.relas.length s.c3, .int .i64 s.x.apart] 66)) := (Below.refl _ _).alloc (Nat.le_refl _) _
  have hbl := Blk.new w 66 s.l
  have e1 : (w.alloc (.cells #[.int .u16 (s.x.type : Nat), .int .u64 (s.x.entry : Nat), .string s.x.interp, .slice s.At s.x.text.length s.ct, .slice s.Ad s.x.data.length s.cd, .int .u64 (s.x.more : Nat), .bool s.x.dynamic, .slice s.A1 s.x.dyn.needed.length s.c1, .string s.x.dyn.soname, .string s.x.dyn.run, .slice s.A2 s.x.dyn.syms.length s.c2, .slice s.A3 s.x.dyn.relas.length s.c3, .int .i64 s.x.apart] 66)).heap.size = w.heap.size + 1 := by simp
  have hcv := conv24 (w.alloc (.cells #[.int .u16 (s.x.type : Nat), .int .u64 (s.x.entry : Nat), .string s.x.interp, .slice s.At s.x.text.length s.ct, .slice s.Ad s.x.data.length s.cd, .int .u64 (s.x.more : Nat), .bool s.x.dynamic, .slice s.A1 s.x.dyn.needed.length s.c1, .string s.x.dyn.soname, .string s.x.dyn.run, .slice s.A2 s.x.dyn.syms.length s.c2, .slice s.A3 s.x.dyn.relas.length s.c3, .int .i64 s.x.apart] 66)) #[.int .u8 127, .int .u8 69, .int .u8 76, .int .u8 70, .int .u8 2, .int .u8 1, .int .u8 1, .int .u8 0, .int .u8 0, .int .u8 0, .int .u8 0, .int .u8 0, .int .u8 0, .int .u8 0, .int .u8 0, .int .u8 0] 16 16
  rw [e1] at hcv
  have hbM : Below (w.alloc (.cells #[.int .u16 (s.x.type : Nat), .int .u64 (s.x.entry : Nat), .string s.x.interp, .slice s.At s.x.text.length s.ct, .slice s.Ad s.x.data.length s.cd, .int .u64 (s.x.more : Nat), .bool s.x.dynamic, .slice s.A1 s.x.dyn.needed.length s.c1, .string s.x.dyn.soname, .string s.x.dyn.run, .slice s.A2 s.x.dyn.syms.length s.c2, .slice s.A3 s.x.dyn.relas.length s.c3, .int .i64 s.x.apart] 66)).heap.size (w.alloc (.cells #[.int .u16 (s.x.type : Nat), .int .u64 (s.x.entry : Nat), .string s.x.interp, .slice s.At s.x.text.length s.ct, .slice s.Ad s.x.data.length s.cd, .int .u64 (s.x.more : Nat), .bool s.x.dynamic, .slice s.A1 s.x.dyn.needed.length s.c1, .string s.x.dyn.soname, .string s.x.dyn.run, .slice s.A2 s.x.dyn.syms.length s.c2, .slice s.A3 s.x.dyn.relas.length s.c3, .int .i64 s.x.apart] 66)) ((w.alloc (.cells #[.int .u16 (s.x.type : Nat), .int .u64 (s.x.entry : Nat), .string s.x.interp, .slice s.At s.x.text.length s.ct, .slice s.Ad s.x.data.length s.cd, .int .u64 (s.x.more : Nat), .bool s.x.dynamic, .slice s.A1 s.x.dyn.needed.length s.c1, .string s.x.dyn.soname, .string s.x.dyn.run, .slice s.A2 s.x.dyn.syms.length s.c2, .slice s.A3 s.x.dyn.relas.length s.c3, .int .i64 s.x.apart] 66)).alloc (.cells #[.int .u8 127, .int .u8 69, .int .u8 76, .int .u8 70, .int .u8 2, .int .u8 1, .int .u8 1, .int .u8 0, .int .u8 0, .int .u8 0, .int .u8 0, .int .u8 0, .int .u8 0, .int .u8 0, .int .u8 0, .int .u8 0] 5 (16, 17))) := below_al _ _
  have e2 : ((w.alloc (.cells #[.int .u16 (s.x.type : Nat), .int .u64 (s.x.entry : Nat), .string s.x.interp, .slice s.At s.x.text.length s.ct, .slice s.Ad s.x.data.length s.cd, .int .u64 (s.x.more : Nat), .bool s.x.dynamic, .slice s.A1 s.x.dyn.needed.length s.c1, .string s.x.dyn.soname, .string s.x.dyn.run, .slice s.A2 s.x.dyn.syms.length s.c2, .slice s.A3 s.x.dyn.relas.length s.c3, .int .i64 s.x.apart] 66)).alloc (.cells #[.int .u8 127, .int .u8 69, .int .u8 76, .int .u8 70, .int .u8 2, .int .u8 1, .int .u8 1, .int .u8 0, .int .u8 0, .int .u8 0, .int .u8 0, .int .u8 0, .int .u8 0, .int .u8 0, .int .u8 0, .int .u8 0] 5 (16, 17))).heap.size = w.heap.size + 1 + 1 := by simp
  have hb2 : Below w.heap.size w (((w.alloc (.cells #[.int .u16 (s.x.type : Nat), .int .u64 (s.x.entry : Nat), .string s.x.interp, .slice s.At s.x.text.length s.ct, .slice s.Ad s.x.data.length s.cd, .int .u64 (s.x.more : Nat), .bool s.x.dynamic, .slice s.A1 s.x.dyn.needed.length s.c1, .string s.x.dyn.soname, .string s.x.dyn.run, .slice s.A2 s.x.dyn.syms.length s.c2, .slice s.A3 s.x.dyn.relas.length s.c3, .int .i64 s.x.apart] 66)).alloc (.cells #[.int .u8 127, .int .u8 69, .int .u8 76, .int .u8 70, .int .u8 2, .int .u8 1, .int .u8 1, .int .u8 0, .int .u8 0, .int .u8 0, .int .u8 0, .int .u8 0, .int .u8 0, .int .u8 0, .int .u8 0, .int .u8 0] 5 (16, 17))).alloc (.cells #[.slice (some ⟨w.heap.size + 1, 0, none⟩) 16 16] 71)) := (hb1.alloc (by simp) _).alloc (by simp; omega) _
  have hbl2 : Blk (((w.alloc (.cells #[.int .u16 (s.x.type : Nat), .int .u64 (s.x.entry : Nat), .string s.x.interp, .slice s.At s.x.text.length s.ct, .slice s.Ad s.x.data.length s.cd, .int .u64 (s.x.more : Nat), .bool s.x.dynamic, .slice s.A1 s.x.dyn.needed.length s.c1, .string s.x.dyn.soname, .string s.x.dyn.run, .slice s.A2 s.x.dyn.syms.length s.c2, .slice s.A3 s.x.dyn.relas.length s.c3, .int .i64 s.x.apart] 66)).alloc (.cells #[.int .u8 127, .int .u8 69, .int .u8 76, .int .u8 70, .int .u8 2, .int .u8 1, .int .u8 1, .int .u8 0, .int .u8 0, .int .u8 0, .int .u8 0, .int .u8 0, .int .u8 0, .int .u8 0, .int .u8 0, .int .u8 0] 5 (16, 17))).alloc (.cells #[.slice (some ⟨w.heap.size + 1, 0, none⟩) 16 16] 71)) w.heap.size 66 s.l := ((show Blk (w.alloc (.cells #[.int .u16 (s.x.type : Nat), .int .u64 (s.x.entry : Nat), .string s.x.interp, .slice s.At s.x.text.length s.ct, .slice s.Ad s.x.data.length s.cd, .int .u64 (s.x.more : Nat), .bool s.x.dynamic, .slice s.A1 s.x.dyn.needed.length s.c1, .string s.x.dyn.soname, .string s.x.dyn.run, .slice s.A2 s.x.dyn.syms.length s.c2, .slice s.A3 s.x.dyn.relas.length s.c3, .int .i64 s.x.apart] 66)) w.heap.size 66 s.l from hbl).alloc _).alloc _
  have hf2 : Blk (((w.alloc (.cells #[.int .u16 (s.x.type : Nat), .int .u64 (s.x.entry : Nat), .string s.x.interp, .slice s.At s.x.text.length s.ct, .slice s.Ad s.x.data.length s.cd, .int .u64 (s.x.more : Nat), .bool s.x.dynamic, .slice s.A1 s.x.dyn.needed.length s.c1, .string s.x.dyn.soname, .string s.x.dyn.run, .slice s.A2 s.x.dyn.syms.length s.c2, .slice s.A3 s.x.dyn.relas.length s.c3, .int .i64 s.x.apart] 66)).alloc (.cells #[.int .u8 127, .int .u8 69, .int .u8 76, .int .u8 70, .int .u8 2, .int .u8 1, .int .u8 1, .int .u8 0, .int .u8 0, .int .u8 0, .int .u8 0, .int .u8 0, .int .u8 0, .int .u8 0, .int .u8 0, .int .u8 0] 5 (16, 17))).alloc (.cells #[.slice (some ⟨w.heap.size + 1, 0, none⟩) 16 16] 71)) (w.heap.size + 1 + 1) 71 [.slice (some ⟨w.heap.size + 1, 0, none⟩) 16 16] := by
    have h9 := Blk.new ((w.alloc (.cells #[.int .u16 (s.x.type : Nat), .int .u64 (s.x.entry : Nat), .string s.x.interp, .slice s.At s.x.text.length s.ct, .slice s.Ad s.x.data.length s.cd, .int .u64 (s.x.more : Nat), .bool s.x.dynamic, .slice s.A1 s.x.dyn.needed.length s.c1, .string s.x.dyn.soname, .string s.x.dyn.run, .slice s.A2 s.x.dyn.syms.length s.c2, .slice s.A3 s.x.dyn.relas.length s.c3, .int .i64 s.x.apart] 66)).alloc (.cells #[.int .u8 127, .int .u8 69, .int .u8 76, .int .u8 70, .int .u8 2, .int .u8 1, .int .u8 1, .int .u8 0, .int .u8 0, .int .u8 0, .int .u8 0, .int .u8 0, .int .u8 0, .int .u8 0, .int .u8 0, .int .u8 0] 5 (16, 17))) 71 [.slice (some ⟨w.heap.size + 1, 0, none⟩) 16 16]
    rw [e2] at h9
    exact h9
  have hs0 : (((w.alloc (.cells #[.int .u16 (s.x.type : Nat), .int .u64 (s.x.entry : Nat), .string s.x.interp, .slice s.At s.x.text.length s.ct, .slice s.Ad s.x.data.length s.cd, .int .u64 (s.x.more : Nat), .bool s.x.dynamic, .slice s.A1 s.x.dyn.needed.length s.c1, .string s.x.dyn.soname, .string s.x.dyn.run, .slice s.A2 s.x.dyn.syms.length s.c2, .slice s.A3 s.x.dyn.relas.length s.c3, .int .i64 s.x.apart] 66)).alloc (.cells #[.int .u8 127, .int .u8 69, .int .u8 76, .int .u8 70, .int .u8 2, .int .u8 1, .int .u8 1, .int .u8 0, .int .u8 0, .int .u8 0, .int .u8 0, .int .u8 0, .int .u8 0, .int .u8 0, .int .u8 0, .int .u8 0] 5 (16, 17))).alloc (.cells #[.slice (some ⟨w.heap.size + 1, 0, none⟩) 16 16] 71)).heap.size = w.heap.size + 3 := by simp
  have hm2 : Rd (((w.alloc (.cells #[.int .u16 (s.x.type : Nat), .int .u64 (s.x.entry : Nat), .string s.x.interp, .slice s.At s.x.text.length s.ct, .slice s.Ad s.x.data.length s.cd, .int .u64 (s.x.more : Nat), .bool s.x.dynamic, .slice s.A1 s.x.dyn.needed.length s.c1, .string s.x.dyn.soname, .string s.x.dyn.run, .slice s.A2 s.x.dyn.syms.length s.c2, .slice s.A3 s.x.dyn.relas.length s.c3, .int .i64 s.x.apart] 66)).alloc (.cells #[.int .u8 127, .int .u8 69, .int .u8 76, .int .u8 70, .int .u8 2, .int .u8 1, .int .u8 1, .int .u8 0, .int .u8 0, .int .u8 0, .int .u8 0, .int .u8 0, .int .u8 0, .int .u8 0, .int .u8 0, .int .u8 0] 5 (16, 17))).alloc (.cells #[.slice (some ⟨w.heap.size + 1, 0, none⟩) 16 16] 71)) (((w.alloc (.cells #[.int .u16 (s.x.type : Nat), .int .u64 (s.x.entry : Nat), .string s.x.interp, .slice s.At s.x.text.length s.ct, .slice s.Ad s.x.data.length s.cd, .int .u64 (s.x.more : Nat), .bool s.x.dynamic, .slice s.A1 s.x.dyn.needed.length s.c1, .string s.x.dyn.soname, .string s.x.dyn.run, .slice s.A2 s.x.dyn.syms.length s.c2, .slice s.A3 s.x.dyn.relas.length s.c3, .int .i64 s.x.apart] 66)).alloc (.cells #[.int .u8 127, .int .u8 69, .int .u8 76, .int .u8 70, .int .u8 2, .int .u8 1, .int .u8 1, .int .u8 0, .int .u8 0, .int .u8 0, .int .u8 0, .int .u8 0, .int .u8 0, .int .u8 0, .int .u8 0, .int .u8 0] 5 (16, 17))).alloc (.cells #[.slice (some ⟨w.heap.size + 1, 0, none⟩) 16 16] 71)).heap.size 1 (some ⟨w.heap.size + 1, 0, none⟩) 16 (bys Mk.magic) := by
    have h9 := Rd.rowF (w := (w.alloc (.cells #[.int .u16 (s.x.type : Nat), .int .u64 (s.x.entry : Nat), .string s.x.interp, .slice s.At s.x.text.length s.ct, .slice s.Ad s.x.data.length s.cd, .int .u64 (s.x.more : Nat), .bool s.x.dynamic, .slice s.A1 s.x.dyn.needed.length s.c1, .string s.x.dyn.soname, .string s.x.dyn.run, .slice s.A2 s.x.dyn.syms.length s.c2, .slice s.A3 s.x.dyn.relas.length s.c3, .int .i64 s.x.apart] 66))) (cs := #[.int .u8 127, .int .u8 69, .int .u8 76, .int .u8 70, .int .u8 2, .int .u8 1, .int .u8 1, .int .u8 0, .int .u8 0, .int .u8 0, .int .u8 0, .int .u8 0, .int .u8 0, .int .u8 0, .int .u8 0, .int .u8 0]) (e := 5) (size := 1) (n := 16) (fz := (16, 17)) rfl
    rw [e1] at h9
    exact (h9.below (((Below.refl _ _).alloc (by simp) _))).more (by rw [hs0]; omega)
  have hr2 := hr.below (hb2.mono hB)
  have yt : (((w.alloc (.cells #[.int .u16 (s.x.type : Nat), .int .u64 (s.x.entry : Nat), .string s.x.interp, .slice s.At s.x.text.length s.ct, .slice s.Ad s.x.data.length s.cd, .int .u64 (s.x.more : Nat), .bool s.x.dynamic, .slice s.A1 s.x.dyn.needed.length s.c1, .string s.x.dyn.soname, .string s.x.dyn.run, .slice s.A2 s.x.dyn.syms.length s.c2, .slice s.A3 s.x.dyn.relas.length s.c3, .int .i64 s.x.apart] 66)).alloc (.cells #[.int .u8 127, .int .u8 69, .int .u8 76, .int .u8 70, .int .u8 2, .int .u8 1, .int .u8 1, .int .u8 0, .int .u8 0, .int .u8 0, .int .u8 0, .int .u8 0, .int .u8 0, .int .u8 0, .int .u8 0, .int .u8 0] 5 (16, 17))).alloc (.cells #[.slice (some ⟨w.heap.size + 1, 0, none⟩) 16 16] 71)).cell? ⟨w.heap.size, 0, none⟩ = some (.int .u16 (s.x.type : Nat)) := hbl2.cell (i := 0) rfl
  have Hbl : Hid (Blk (((w.alloc (.cells #[.int .u16 (s.x.type : Nat), .int .u64 (s.x.entry : Nat), .string s.x.interp, .slice s.At s.x.text.length s.ct, .slice s.Ad s.x.data.length s.cd, .int .u64 (s.x.more : Nat), .bool s.x.dynamic, .slice s.A1 s.x.dyn.needed.length s.c1, .string s.x.dyn.soname, .string s.x.dyn.run, .slice s.A2 s.x.dyn.syms.length s.c2, .slice s.A3 s.x.dyn.relas.length s.c3, .int .i64 s.x.apart] 66)).alloc (.cells #[.int .u8 127, .int .u8 69, .int .u8 76, .int .u8 70, .int .u8 2, .int .u8 1, .int .u8 1, .int .u8 0, .int .u8 0, .int .u8 0, .int .u8 0, .int .u8 0, .int .u8 0, .int .u8 0, .int .u8 0, .int .u8 0] 5 (16, 17))).alloc (.cells #[.slice (some ⟨w.heap.size + 1, 0, none⟩) 16 16] 71)) w.heap.size 66 s.l) := hide hbl2
  have Hf2 := hide hf2
  have Hm2 := hide hm2
  have Hb2 := hide hb2
  have Hr := hide hr2
  have Hl := hide hl
  have Hok := hide hok
  have Hs0 := hide hs0
  show Calls _ _ #[.agg #[.int .u16 (s.x.type : Nat), .int .u64 (s.x.entry : Nat), .string s.x.interp, .slice s.At s.x.text.length s.ct, .slice s.Ad s.x.data.length s.cd, .int .u64 (s.x.more : Nat), .bool s.x.dynamic, .slice s.A1 s.x.dyn.needed.length s.c1, .string s.x.dyn.soname, .string s.x.dyn.run, .slice s.A2 s.x.dyn.syms.length s.c2, .slice s.A3 s.x.dyn.relas.length s.c3, .int .i64 s.x.apart], .slice Al nl cl] w _
  clear hb1 hbl e1 e2 hbM hbl2 hf2 hm2 hb2 hr2 hr hl hok hs0
  go_enter Tryz.func32, Tryz.ntmps32
  go_upto_region 2 with fail
  generalize (((w.alloc (.cells #[.int .u16 (s.x.type : Nat), .int .u64 (s.x.entry : Nat), .string s.x.interp, .slice s.At s.x.text.length s.ct, .slice s.Ad s.x.data.length s.cd, .int .u64 (s.x.more : Nat), .bool s.x.dynamic, .slice s.A1 s.x.dyn.needed.length s.c1, .string s.x.dyn.soname, .string s.x.dyn.run, .slice s.A2 s.x.dyn.syms.length s.c2, .slice s.A3 s.x.dyn.relas.length s.c3, .int .i64 s.x.apart] 66)).alloc (.cells #[.int .u8 127, .int .u8 69, .int .u8 76, .int .u8 70, .int .u8 2, .int .u8 1, .int .u8 1, .int .u8 0, .int .u8 0, .int .u8 0, .int .u8 0, .int .u8 0, .int .u8 0, .int .u8 0, .int .u8 0, .int .u8 0] 5 (16, 17))).alloc (.cells #[.slice (some ⟨w.heap.size + 1, 0, none⟩) 16 16] 71)) = W0 at *
  have hs0 : w.heap.size + 3 ≤ W0.heap.size := by rw [unhide Hs0]; exact Nat.le_refl _
  have HL1 := hide (lit2 W0 (s.x.type : Nat) 62)
  have KN1 := hide (OwF.startG (b0 := w.heap.size + 1) (L := [(w.heap.size, 66, s.l)]) (w2 := W0.alloc (.cells #[.int .u64 (s.x.type : Nat), .int .u64 62] 23)) (unhide Hf2) (unhide Hm2) (fun e => by injection e with e; have h9 : w.heap.size + 1 = w.heap.size + 1 + 1 := e; omega) (by omega) (by omega) (fun q hq => by rw [List.mem_singleton] at hq; subst hq; exact ⟨unhide Hbl, by show w.heap.size ≠ _; omega⟩) (below_al _ _) (kv := W0.heap.size) (m := 2) (cv := 2) (s := 2) (sv := 2) (vs := [s.x.type, 62]) (Nat.le_refl _) (unhide HL1) rfl (by intro v hv; simp at hv; omega) rfl (by omega) (by omega) (by omega) (by omega))
  go_wp2_with fail
  refine (unhide KN1).mono ?_
  rintro e v1 ⟨rfl, hS1⟩
  have HS1 := hide hS1
  clear hS1 KN1 HL1 yt Hf2 Hm2 Hs0
  have hf1 : (Mk.magic ++ Mk.lbs 2 [s.x.type, 62]).length ≤ 20 := by rw [List.length_append, lbs_len']; show 16 + 2 * 2 ≤ 20; decide
  have HL2 := hide (lit1 v1 1)
  have KN2 := hide ((unhide HS1).callNumber (w2 := v1.alloc (.cells #[.int .u64 1] 23)) (below_al _ _) (kv := v1.heap.size) (m := 1) (cv := 1) (s := 4) (sv := 4) (vs := [1]) (Nat.le_refl _) (unhide HL2) rfl (by intro v hv; simp at hv; omega) rfl (by omega) (by omega) (by omega))
  go_wp2_with fail
  refine (unhide KN2).mono ?_
  rintro e v2 ⟨rfl, hS2⟩
  have hf2 : (Mk.magic ++ Mk.lbs 2 [s.x.type, 62] ++ Mk.lbs 4 [1]).length ≤ 24 := by rw [List.length_append, lbs_len']; exact Nat.le_trans (Nat.add_le_add_right hf1 _) (by simp)
  have HS2 := hide hS2
  clear hS2 KN2 HL2
  have ye := (unhide HS2).cell List.mem_cons_self (i := 1) rfl
  have HL3 := hide (lit3 v2 (s.x.entry : Nat) 64 0)
  have KN3 := hide ((unhide HS2).callNumber (w2 := v2.alloc (.cells #[.int .u64 (s.x.entry : Nat), .int .u64 64, .int .u64 0] 23)) (below_al _ _) (kv := v2.heap.size) (m := 3) (cv := 3) (s := 8) (sv := 8) (vs := [s.x.entry, 64, 0]) (Nat.le_refl _) (unhide HL3) rfl (by intro v hv; simp at hv; omega) rfl (by omega) (by omega) (by omega))
  go_wp2_with fail
  refine (unhide KN3).mono ?_
  rintro e v3 ⟨rfl, hS3⟩
  have hf3 : (Mk.magic ++ Mk.lbs 2 [s.x.type, 62] ++ Mk.lbs 4 [1] ++ Mk.lbs 8 [s.x.entry, 64, 0]).length ≤ 48 := by rw [List.length_append, lbs_len']; exact Nat.le_trans (Nat.add_le_add_right hf2 _) (by simp)
  have HS3 := hide hS3
  clear ye hS3 KN3 HL3
  have HL4 := hide (lit1 v3 0)
  have KN4 := hide ((unhide HS3).callNumber (w2 := v3.alloc (.cells #[.int .u64 0] 23)) (below_al _ _) (kv := v3.heap.size) (m := 1) (cv := 1) (s := 4) (sv := 4) (vs := [0]) (Nat.le_refl _) (unhide HL4) rfl (by intro v hv; simp at hv; omega) rfl (by omega) (by omega) (by omega))
  go_wp2_with fail
  refine (unhide KN4).mono ?_
  rintro e v4 ⟨rfl, hS4⟩
  have hf4 : (Mk.magic ++ Mk.lbs 2 [s.x.type, 62] ++ Mk.lbs 4 [1] ++ Mk.lbs 8 [s.x.entry, 64, 0] ++ Mk.lbs 4 [0]).length ≤ 52 := by rw [List.length_append, lbs_len']; exact Nat.le_trans (Nat.add_le_add_right hf3 _) (by simp)
  have HS4 := hide hS4
  clear hS4 KN4 HL4
  have HL5 := hide (lit6 v4 64 56 (nl : Nat) 64 0 0)
  have KN5 := hide ((unhide HS4).callNumber (w2 := v4.alloc (.cells #[.int .u64 64, .int .u64 56, .int .u64 (nl : Nat), .int .u64 64, .int .u64 0, .int .u64 0] 23)) (below_al _ _) (kv := v4.heap.size) (m := 6) (cv := 6) (s := 2) (sv := 2) (vs := [64, 56, nl, 64, 0, 0]) (Nat.le_refl _) (unhide HL5) rfl (by intro v hv; simp at hv; omega) rfl (by omega) (by omega) (by omega))
  go_wp2_with fail
  refine (unhide KN5).mono ?_
  rintro e v5 ⟨rfl, hS5⟩
  have hf5 : (Mk.magic ++ Mk.lbs 2 [s.x.type, 62] ++ Mk.lbs 4 [1] ++ Mk.lbs 8 [s.x.entry, 64, 0] ++ Mk.lbs 4 [0] ++ Mk.lbs 2 [64, 56, nl, 64, 0, 0]).length ≤ 64 := by rw [List.length_append, lbs_len']; exact Nat.le_trans (Nat.add_le_add_right hf4 _) (by simp)
  have HS5 := hide hS5
  clear hS5 KN5 HL5
  obtain ⟨h5, he5⟩ : ∃ h5, Mk.magic ++ Mk.lbs 2 [s.x.type, 62] ++ Mk.lbs 4 [1] ++ Mk.lbs 8 [s.x.entry, 64, 0] ++ Mk.lbs 4 [0] ++ Mk.lbs 2 [64, 56, nl, 64, 0, 0] = h5 := ⟨_, rfl⟩
  rw [he5] at HS5 hf5
  have Hh5 := hide he5
  clear he5 hf1 hf2 hf3 hf4
  go_wp2_with fail
  go_loopg [37] nl (fun gk iv wr => ∃ j : Nat, gk = nl - j ∧ j ≤ nl ∧ iv = .int .i64 j ∧ OwF (w.heap.size + 1 + 1) (w.heap.size + 1) W0 wr (h5 ++ Mk.rowsB (l.take j)) [])
  case atStart => exact ⟨0, by omega, by omega, rfl, by simpa [Mk.rowsB] using (unhide HS5).sub (by intro q hq; cases hq)⟩
  case round =>
  clear HS5
  obtain ⟨j, hgk, hj, rfl, hS⟩ := hrel
  have Hgk := hide hgk
  have HS := hide hS
  have hbw := hS.bel
  have Hbw := hide hbw
  clear hgk hS hbw
  rcases Nat.lt_or_ge j nl with hlt | hge
  · obtain ⟨r, hr⟩ : ∃ r, l[j]? = some r := ⟨_, List.getElem?_eq_getElem (by rw [unhide Hl]; exact hlt)⟩
    have hro := (unhide Hok) r (List.mem_of_getElem? hr)
    obtain ⟨b1, o1, hA1, hb1, st0, st1, st2, st3, st4, st5, st6⟩ := mkrow_at ((unhide Hr).below ((unhide Hbw).mono (by omega))) hr
    subst hA1
    have ilt : (j : Int) < (nl : Int) := by omega
    have Hx := hide hr
    have Hro := hide hro
    have hfj : (h5 ++ Mk.rowsB (l.take j)).length ≤ 3700 := by rw [List.length_append, rowsB_len, List.length_take]; omega
    obtain ⟨fj, hfe⟩ : ∃ fj, h5 ++ Mk.rowsB (l.take j) = fj := ⟨_, rfl⟩
    rw [hfe] at hfj HS
    have Hfe := hide hfe
    have HSl : Hid (OwF (w.heap.size + 1 + 1) (w.heap.size + 1) W0 (wr.alloc (.cells #[.int .u64 (r.kind : Nat), .int .u64 (r.flags : Nat), .int .u64 (r.off : Nat), .int .u64 (r.addr : Nat), .int .u64 (r.fsz : Nat), .int .u64 (r.msz : Nat), .int .u64 (r.align : Nat)] 74)) fj [(wr.heap.size, 74, [.int .u64 (r.kind : Nat), .int .u64 (r.flags : Nat), .int .u64 (r.off : Nat), .int .u64 (r.addr : Nat), .int .u64 (r.fsz : Nat), .int .u64 (r.msz : Nat), .int .u64 (r.align : Nat)])]) := hide ((unhide HS).lay 74 [.int .u64 (r.kind : Nat), .int .u64 (r.flags : Nat), .int .u64 (r.off : Nat), .int .u64 (r.addr : Nat), .int .u64 (r.fsz : Nat), .int .u64 (r.msz : Nat), .int .u64 (r.align : Nat)])
    have hsx : (wr.alloc (.cells #[.int .u64 (r.kind : Nat), .int .u64 (r.flags : Nat), .int .u64 (r.off : Nat), .int .u64 (r.addr : Nat), .int .u64 (r.fsz : Nat), .int .u64 (r.msz : Nat), .int .u64 (r.align : Nat)] 74)).heap.size = wr.heap.size + 1 := by simp
    have HL7 := hide (lit2 (wr.alloc (.cells #[.int .u64 (r.kind : Nat), .int .u64 (r.flags : Nat), .int .u64 (r.off : Nat), .int .u64 (r.addr : Nat), .int .u64 (r.fsz : Nat), .int .u64 (r.msz : Nat), .int .u64 (r.align : Nat)] 74)) (r.kind : Nat) (r.flags : Nat))
    rw [hsx] at HL7
    have KN7 := hide ((unhide HSl).callNumber (w2 := (wr.alloc (.cells #[.int .u64 (r.kind : Nat), .int .u64 (r.flags : Nat), .int .u64 (r.off : Nat), .int .u64 (r.addr : Nat), .int .u64 (r.fsz : Nat), .int .u64 (r.msz : Nat), .int .u64 (r.align : Nat)] 74)).alloc (.cells #[.int .u64 (r.kind : Nat), .int .u64 (r.flags : Nat)] 23)) (below_al _ _) (kv := wr.heap.size + 1) (m := 2) (cv := 2) (s := 4) (sv := 4) (vs := [r.kind, r.flags]) (by rw [hsx]; exact Nat.le_refl _) (unhide HL7) rfl (by intro v hv; simp at hv; have h8 := (unhide Hro).kind; have h9 := (unhide Hro).flags; rcases hv with rfl | rfl <;> assumption) rfl (by omega) (by omega) (by omega))
    clear hr hro hfe hb1 hsx HSl HS
    go_wp2_with fail
    refine (unhide KN7).mono ?_
    rintro e v7 ⟨rfl, hS7⟩
    have z2 := hS7.cell List.mem_cons_self (i := 2) rfl
    have z3 := hS7.cell List.mem_cons_self (i := 3) rfl
    have z4 := hS7.cell List.mem_cons_self (i := 4) rfl
    have z5 := hS7.cell List.mem_cons_self (i := 5) rfl
    have z6 := hS7.cell List.mem_cons_self (i := 6) rfl
    have hf7 : (fj ++ Mk.lbs 4 [r.kind, r.flags]).length ≤ 3708 := by rw [List.length_append, lbs_len']; exact Nat.le_trans (Nat.add_le_add_right hfj _) (by simp)
    have HL8 := hide (lit6 v7 (r.off : Nat) (r.addr : Nat) (r.addr : Nat) (r.fsz : Nat) (r.msz : Nat) (r.align : Nat))
    have KN8 := hide (hS7.callNumber (w2 := v7.alloc (.cells #[.int .u64 (r.off : Nat), .int .u64 (r.addr : Nat), .int .u64 (r.addr : Nat), .int .u64 (r.fsz : Nat), .int .u64 (r.msz : Nat), .int .u64 (r.align : Nat)] 23)) (below_al _ _) (kv := v7.heap.size) (m := 6) (cv := 6) (s := 8) (sv := 8) (vs := [r.off, r.addr, r.addr, r.fsz, r.msz, r.align]) (Nat.le_refl _) (unhide HL8) rfl (by intro v hv; simp at hv; have q2 := (unhide Hro).off; have q3 := (unhide Hro).addr; have q4 := (unhide Hro).fsz; have q5 := (unhide Hro).msz; have q6 := (unhide Hro).align; rcases hv with rfl | rfl | rfl | rfl | rfl <;> assumption) rfl (by omega) (by omega) (by omega))
    clear hS7 KN7 HL7
    go_wp2_with fail
    refine (unhide KN8).mono ?_
    rintro e v8 ⟨rfl, hS8⟩
    have HS8 := hide hS8
    clear hS8 KN8 HL8 z2 z3 z4 z5 z6
    go_wp2_with fail
    go_roundg (nl - (j + 1))
    case measure => have := unhide Hgk; omega
    case rel => exact ⟨j + 1, rfl, by omega, by go_num, ((unhide HS8).sub (by intro q hq; cases hq)).bind (by rw [rowsB_next (unhide Hx), ← List.append_assoc, unhide Hfe]; simp [Mk.rowB, Mk.lbs, List.append_assoc])⟩
  · obtain rfl : j = nl := by omega
    have ige : ¬ (j : Int) < (j : Int) := by omega
    have hS := unhide HS
    rw [List.take_of_length_le (by rw [unhide Hl]; omega)] at hS
    have hhd : h5 ++ Mk.rowsB l = Mk.head s.x l := by
      rw [← unhide Hh5]
      unfold Mk.head
      rw [unhide Hl]
      simp [Mk.lbs, List.append_assoc]
    rw [hhd] at hS
    obtain ⟨A9, c9, F, -⟩ := hS.fi
    have hll := head_len s.x l
    rw [unhide Hl] at hll
    rw [hll] at F
    have y0 := F.cell
    have HF := hide F
    have HS9 := hide hS
    clear F hS hhd hll HS
    go_wp2_with fail
    go_ret
    exact ⟨A9, c9, rfl, own_base (unhide HF).row (by omega), (unhide Hb2).trans ((unhide Hbw).mono (by omega))⟩
end Go.Proofs.YtnbecdahfgkffaaGreat
namespace Go.Proofs.YtnbecdahfgkffaaGreat
open Go.RowKit Go.Lib Go.Sort
theorem join_any' (A : Option Addr) (n c : Nat) (l : List ByteArray) (sep : ByteArray) (w : World) (h : Rd w w.heap.size 1 A n (l.map Value.string)) (hc : n ≤ c) (hn : n ≤ 4294967296) (hlen : (Lib.join (l.map (·.data.toList)) sep.data.toList).length ≤ 140737488355328) :
    Calls Tryz.prog 70 #[.slice A n c, .string sep] w fun e w' => e = .returned (.string ⟨(Lib.join (l.map (·.data.toList)) sep.data.toList).toArray⟩) ∧ Below w.heap.size w w' := by
  have hl : l.length = n := by simpa using h.1
  rcases h.2 with h0 | ⟨b, off, rfl, hb, hcl⟩
  · have h1 : l = [] := by simpa using h0
    subst h1
    simp only [List.length_nil] at hl
    subst hl
    refine (Tryz.strings_Join_none A c sep w).mono ?_
    rintro e w' ⟨rfl, rfl⟩
    exact ⟨rfl, Below.refl _ _⟩
  · subst hl
    exact Tryz.strings_Join b off c l sep w (fun j x hx => hcl j _ (by rw [List.getElem?_map, hx]; rfl)) hb (by omega) hc hlen
end Go.Proofs.YtnbecdahfgkffaaGreat
namespace Go.Proofs.YtnbecdahfgkffaaGreat
open Go.RowKit
theorem index_has (l : List UInt8) : decide (0 ≤ Lib.indexByte l 0) = l.contains 0 := by
  have h1 := Lib.indexByte_ge l 0
  by_cases h : Lib.indexByte l 0 = -1
  · have h2 := Lib.indexByte_none h
    rw [decide_eq_false (by omega)]
    symm
    rw [← Bool.not_eq_true, List.contains_iff_mem]
    intro hm
    obtain ⟨k, hk⟩ := List.mem_iff_getElem?.1 hm
    exact h2 k hk
  · obtain ⟨o, ho⟩ : ∃ o : Nat, Lib.indexByte l 0 = o := ⟨(Lib.indexByte l 0).toNat, by omega⟩
    have h2 := (Lib.indexByte_some ho).1
    rw [decide_eq_true (by omega)]
    symm
    rw [List.contains_iff_mem]
    exact List.mem_of_getElem? h2
theorem join_flat (xs : List (List UInt8)) : Lib.join xs [] = xs.flatten := by
  cases xs with
  | nil => rfl
  | cons x r =>
    rw [Lib.join_cons]
    unfold Lib.joinTail
    simp
theorem names_has (l : List ByteArray) : (Lib.join (l.map (·.data.toList)) []).contains 0 = l.any Mk.has := by
  rw [join_flat]
  induction l with
  | nil => rfl
  | cons a r ih =>
    rw [List.map_cons, List.flatten_cons, List.any_cons, ← ih]
    unfold Mk.has
    rw [Bool.eq_iff_iff]
    simp
theorem any_or {α : Type} (f g : α → Bool) (l : List α) : l.any (fun x => f x || g x) = (l.any f || l.any g) := by
  induction l with
  | nil => rfl
  | cons a r ih =>
    rw [List.any_cons, List.any_cons, List.any_cons, ih]
    cases f a <;> cases g a <;> cases r.any f <;> cases r.any g <;> rfl
theorem all_not {α : Type} (g : α → Bool) (l : List α) : l.all (fun x => !g x) = !l.any g := by
  induction l with
  | nil => rfl
  | cons a r ih => rw [List.all_cons, List.any_cons, ih, Bool.not_or]
theorem le2 (b : Nat) : decide ((b : Int) ≤ 2) = !decide (2 < b) := by
  by_cases h : 2 < b
  · rw [decide_eq_true h, decide_eq_false (by omega)]; rfl
  · rw [decide_eq_false h, decide_eq_true (by omega)]; rfl
theorem leN (n : Nat) (x : Int) : decide (x ≤ (n : Int)) = !decide ((n : Int) < x) := by
  by_cases h : (n : Int) < x
  · rw [decide_eq_true h, decide_eq_false (by omega)]; rfl
  · rw [decide_eq_false h, decide_eq_true (by omega)]; rfl
def fits1 (l : List Dy.Sym) : Bool := l.all fun s => !decide (2 < s.bind)
def fits2 (n : Nat) (l : List Mk.Rel) : Bool := l.all fun r => !Mk.badRel n r
def namesOf (d : Mk.Dyn) : List ByteArray := [d.soname, d.run] ++ d.needed ++ Mk.names d.syms
theorem bad_eq (d : Mk.Dyn) : Mk.bad d = (!(fits1 d.syms && fits2 d.syms.length d.relas) || (namesOf d).any Mk.has) := by
  unfold Mk.bad fits1 fits2 namesOf Mk.names
  rw [all_not, all_not]
  have h1 : d.syms.any Mk.badSym = ((d.syms.any fun s => Mk.has s.name) || (d.syms.any fun s => decide (2 < s.bind))) := any_or _ _ _
  have h2 : (d.syms.map (·.name)).any Mk.has = d.syms.any fun s => Mk.has s.name := by rw [List.any_map]; rfl
  rw [h1, List.any_append, List.any_append, h2]
  simp only [List.any_cons, List.any_nil, Bool.or_false]
  cases Mk.has d.soname <;> cases Mk.has d.run <;> cases d.needed.any Mk.has <;> cases (d.syms.any fun s => Mk.has s.name) <;> cases (d.syms.any fun s => decide (2 < s.bind)) <;> cases d.relas.any (Mk.badRel d.syms.length) <;> rfl
def sumB (l : List ByteArray) : Nat := (l.map (·.data.toList)).flatten.length
theorem sumB_app (a b : List ByteArray) : sumB (a ++ b) = sumB a + sumB b := by unfold sumB; simp
theorem sumB_cons (a : ByteArray) (b : List ByteArray) : sumB (a :: b) = a.size + sumB b := by unfold sumB; simp
theorem put_ge (t : List UInt8) (s : ByteArray) : t.length + s.size ≤ (Mk.put t s).length := by
  unfold Mk.put
  split
  · omega
  · simp
theorem puts_sum (t : List UInt8) (l : List ByteArray) : t.length + sumB l ≤ (Mk.puts t l).length := by
  induction l generalizing t with
  | nil => exact Nat.le_refl _
  | cons s r ih =>
    have h1 := ih (Mk.put t s)
    have h2 := put_ge t s
    rw [sumB_cons]
    show _ ≤ (Mk.puts (Mk.put t s) r).length
    omega
theorem namesOf_sum (d : Mk.Dyn) : sumB (namesOf d) ≤ (Mk.texts3 d).length := by
  have h1 := puts_sum [0] d.needed
  have h2 := put_ge (Mk.texts0 d) d.soname
  have h3 := put_ge (Mk.texts1 d) d.run
  have h4 := puts_sum (Mk.texts2 d) (Mk.names d.syms)
  have e1 : (Mk.texts0 d) = Mk.puts [0] d.needed := rfl
  have e2 : (Mk.texts1 d) = Mk.put (Mk.texts0 d) d.soname := rfl
  have e3 : (Mk.texts2 d) = Mk.put (Mk.texts1 d) d.run := rfl
  have e4 : (Mk.texts3 d) = Mk.puts (Mk.texts2 d) (Mk.names d.syms) := rfl
  unfold namesOf
  rw [sumB_app, sumB_app, sumB_cons, sumB_cons]
  have h5 : sumB [] = 0 := rfl
  rw [← e1] at h1
  rw [← e2] at h2
  rw [← e3] at h3
  rw [← e4] at h4
  omega
set_option maxRecDepth 100000 in
set_option maxHeartbeats 60000000 in
theorem pcheck_any (s : Xq) (B : Nat) (w : World) (hB : B ≤ w.heap.size) (h : XqM w B s) (hf : MkFit s) (hn12 : s.x.dyn.needed.length + s.x.dyn.syms.length ≤ 1048576) :
    Calls Tryz.prog 25 #[.agg s.l.toArray] w fun e w' => e = .returned (.int .i64 (Mk.may s.x)) ∧ Below w.heap.size w w' := by
  have e1 : (w.alloc (.cells #[.int .u16 (s.x.type : Nat), .int .u64 (s.x.entry : Nat), .string s.x.interp, .slice s.At s.x.text.length s.ct, .slice s.Ad s.x.data.length s.cd, .int .u64 (s.x.more : Nat), .bool s.x.dynamic, .slice s.A1 s.x.dyn.needed.length s.c1, .string s.x.dyn.soname, .string s.x.dyn.run, .slice s.A2 s.x.dyn.syms.length s.c2, .slice s.A3 s.x.dyn.relas.length s.c3, .int .i64 s.x.apart] 66)).heap.size = w.heap.size + 1 := by simp
  have hb1 : Below w.heap.size w ((w.alloc (.cells #[.int .u16 (s.x.type : Nat), .int .u64 (s.x.entry : Nat), .string s.x.interp, .slice s.At s.x.text.length s.ct, .slice s.Ad s.x.data.length s.cd, .int .u64 (s.x.more : Nat), .bool s.x.dynamic, .slice s.A1 s.x.dyn.needed.length s.c1, .string s.x.dyn.soname, .string s.x.dyn.run, .slice s.A2 s.x.dyn.syms.length s.c2, .slice s.A3 s.x.dyn.relas.length s.c3, .int .i64 s.x.apart] 66)).alloc (.cells #[.slice s.A1 s.x.dyn.needed.length s.c1, .string s.x.dyn.soname, .string s.x.dyn.run, .slice s.A2 s.x.dyn.syms.length s.c2, .slice s.A3 s.x.dyn.relas.length s.c3] 29)) := ((Below.refl _ _).alloc (Nat.le_refl _) _).alloc (by simp) _
  have hbl : Blk ((w.alloc (.cells #[.int .u16 (s.x.type : Nat), .int .u64 (s.x.entry : Nat), .string s.x.interp, .slice s.At s.x.text.length s.ct, .slice s.Ad s.x.data.length s.cd, .int .u64 (s.x.more : Nat), .bool s.x.dynamic, .slice s.A1 s.x.dyn.needed.length s.c1, .string s.x.dyn.soname, .string s.x.dyn.run, .slice s.A2 s.x.dyn.syms.length s.c2, .slice s.A3 s.x.dyn.relas.length s.c3, .int .i64 s.x.apart] 66)).alloc (.cells #[.slice s.A1 s.x.dyn.needed.length s.c1, .string s.x.dyn.soname, .string s.x.dyn.run, .slice s.A2 s.x.dyn.syms.length s.c2, .slice s.A3 s.x.dyn.relas.length s.c3] 29)) w.heap.size 66 s.l := (Blk.new w 66 s.l).alloc _
  have hbd : Blk ((w.alloc (.cells #[.int .u16 (s.x.type : Nat), .int .u64 (s.x.entry : Nat), .string s.x.interp, .slice s.At s.x.text.length s.ct, .slice s.Ad s.x.data.length s.cd, .int .u64 (s.x.more : Nat), .bool s.x.dynamic, .slice s.A1 s.x.dyn.needed.length s.c1, .string s.x.dyn.soname, .string s.x.dyn.run, .slice s.A2 s.x.dyn.syms.length s.c2, .slice s.A3 s.x.dyn.relas.length s.c3, .int .i64 s.x.apart] 66)).alloc (.cells #[.slice s.A1 s.x.dyn.needed.length s.c1, .string s.x.dyn.soname, .string s.x.dyn.run, .slice s.A2 s.x.dyn.syms.length s.c2, .slice s.A3 s.x.dyn.relas.length s.c3] 29)) (w.heap.size + 1) 29 [.slice s.A1 s.x.dyn.needed.length s.c1, .string s.x.dyn.soname, .string s.x.dyn.run, .slice s.A2 s.x.dyn.syms.length s.c2, .slice s.A3 s.x.dyn.relas.length s.c3] := by
    have h9 := Blk.new (w.alloc (.cells #[.int .u16 (s.x.type : Nat), .int .u64 (s.x.entry : Nat), .string s.x.interp, .slice s.At s.x.text.length s.ct, .slice s.Ad s.x.data.length s.cd, .int .u64 (s.x.more : Nat), .bool s.x.dynamic, .slice s.A1 s.x.dyn.needed.length s.c1, .string s.x.dyn.soname, .string s.x.dyn.run, .slice s.A2 s.x.dyn.syms.length s.c2, .slice s.A3 s.x.dyn.relas.length s.c3, .int .i64 s.x.apart] 66)) 29 [.slice s.A1 s.x.dyn.needed.length s.c1, .string s.x.dyn.soname, .string s.x.dyn.run, .slice s.A2 s.x.dyn.syms.length s.c2, .slice s.A3 s.x.dyn.relas.length s.c3]
    rw [e1] at h9
    exact h9
  have hs1 : ((w.alloc (.cells #[.int .u16 (s.x.type : Nat), .int .u64 (s.x.entry : Nat), .string s.x.interp, .slice s.At s.x.text.length s.ct, .slice s.Ad s.x.data.length s.cd, .int .u64 (s.x.more : Nat), .bool s.x.dynamic, .slice s.A1 s.x.dyn.needed.length s.c1, .string s.x.dyn.soname, .string s.x.dyn.run, .slice s.A2 s.x.dyn.syms.length s.c2, .slice s.A3 s.x.dyn.relas.length s.c3, .int .i64 s.x.apart] 66)).alloc (.cells #[.slice s.A1 s.x.dyn.needed.length s.c1, .string s.x.dyn.soname, .string s.x.dyn.run, .slice s.A2 s.x.dyn.syms.length s.c2, .slice s.A3 s.x.dyn.relas.length s.c3] 29)).heap.size = w.heap.size + 2 := by simp
  have hxm := h.below (hb1.mono hB)
  have Hx : Hid (∀ W, Below (w.heap.size + 2) ((w.alloc (.cells #[.int .u16 (s.x.type : Nat), .int .u64 (s.x.entry : Nat), .string s.x.interp, .slice s.At s.x.text.length s.ct, .slice s.Ad s.x.data.length s.cd, .int .u64 (s.x.more : Nat), .bool s.x.dynamic, .slice s.A1 s.x.dyn.needed.length s.c1, .string s.x.dyn.soname, .string s.x.dyn.run, .slice s.A2 s.x.dyn.syms.length s.c2, .slice s.A3 s.x.dyn.relas.length s.c3, .int .i64 s.x.apart] 66)).alloc (.cells #[.slice s.A1 s.x.dyn.needed.length s.c1, .string s.x.dyn.soname, .string s.x.dyn.run, .slice s.A2 s.x.dyn.syms.length s.c2, .slice s.A3 s.x.dyn.relas.length s.c3] 29)) W → (Blk W w.heap.size 66 s.l ∧ Blk W (w.heap.size + 1) 29 [.slice s.A1 s.x.dyn.needed.length s.c1, .string s.x.dyn.soname, .string s.x.dyn.run, .slice s.A2 s.x.dyn.syms.length s.c2, .slice s.A3 s.x.dyn.relas.length s.c3]) ∧ XqM W B s) := hide (fun W hW => ⟨⟨hbl.below hW (by omega), hbd.below hW (by omega)⟩, hxm.below (hW.mono (by omega))⟩)
  have Hbr := hide (Below.refl (w.heap.size + 2) ((w.alloc (.cells #[.int .u16 (s.x.type : Nat), .int .u64 (s.x.entry : Nat), .string s.x.interp, .slice s.At s.x.text.length s.ct, .slice s.Ad s.x.data.length s.cd, .int .u64 (s.x.more : Nat), .bool s.x.dynamic, .slice s.A1 s.x.dyn.needed.length s.c1, .string s.x.dyn.soname, .string s.x.dyn.run, .slice s.A2 s.x.dyn.syms.length s.c2, .slice s.A3 s.x.dyn.relas.length s.c3, .int .i64 s.x.apart] 66)).alloc (.cells #[.slice s.A1 s.x.dyn.needed.length s.c1, .string s.x.dyn.soname, .string s.x.dyn.run, .slice s.A2 s.x.dyn.syms.length s.c2, .slice s.A3 s.x.dyn.relas.length s.c3] 29)))
  have Hb1 := hide hb1
  have Hs1 := hide (show w.heap.size + 2 ≤ ((w.alloc (.cells #[.int .u16 (s.x.type : Nat), .int .u64 (s.x.entry : Nat), .string s.x.interp, .slice s.At s.x.text.length s.ct, .slice s.Ad s.x.data.length s.cd, .int .u64 (s.x.more : Nat), .bool s.x.dynamic, .slice s.A1 s.x.dyn.needed.length s.c1, .string s.x.dyn.soname, .string s.x.dyn.run, .slice s.A2 s.x.dyn.syms.length s.c2, .slice s.A3 s.x.dyn.relas.length s.c3, .int .i64 s.x.apart] 66)).alloc (.cells #[.slice s.A1 s.x.dyn.needed.length s.c1, .string s.x.dyn.soname, .string s.x.dyn.run, .slice s.A2 s.x.dyn.syms.length s.c2, .slice s.A3 s.x.dyn.relas.length s.c3] 29)).heap.size by rw [hs1]; exact Nat.le_refl _)
  have KB : Hid (∀ W, Calls Tryz.prog 27 #[.agg #[.int .u16 (s.x.type : Nat), .int .u64 (s.x.entry : Nat), .string s.x.interp, .slice s.At s.x.text.length s.ct, .slice s.Ad s.x.data.length s.cd, .int .u64 (s.x.more : Nat), .bool s.x.dynamic, .slice s.A1 s.x.dyn.needed.length s.c1, .string s.x.dyn.soname, .string s.x.dyn.run, .slice s.A2 s.x.dyn.syms.length s.c2, .slice s.A3 s.x.dyn.relas.length s.c3, .int .i64 s.x.apart]] W fun e w' => e = .returned (.int .u64 (Mk.base s.x : Nat)) ∧ Below W.heap.size W w') := hide (fun W => pbase_any s W)
  have Hf := hide hf
  have hty := hf.ok.type
  have hen := hf.ok.entry
  have hmo := hf.ok.more
  have hte := hf.ok.text
  have hb4 : Mk.base s.x ≤ 4194304 := by unfold Mk.base; split <;> omega
  obtain ⟨a0, a1, a2, a3, a4, a5, a6, a7, a8, a9, a10, a11, a12⟩ := spec_cellsP hbl
  show Calls _ _ #[.agg #[.int .u16 (s.x.type : Nat), .int .u64 (s.x.entry : Nat), .string s.x.interp, .slice s.At s.x.text.length s.ct, .slice s.Ad s.x.data.length s.cd, .int .u64 (s.x.more : Nat), .bool s.x.dynamic, .slice s.A1 s.x.dyn.needed.length s.c1, .string s.x.dyn.soname, .string s.x.dyn.run, .slice s.A2 s.x.dyn.syms.length s.c2, .slice s.A3 s.x.dyn.relas.length s.c3, .int .i64 s.x.apart]] w _
  clear e1 hb1 hbl hbd hs1 hxm h hf
  go_enter Tryz.func25, Tryz.ntmps25
  go_upto_region 2 with fail
  generalize ((w.alloc (.cells #[.int .u16 (s.x.type : Nat), .int .u64 (s.x.entry : Nat), .string s.x.interp, .slice s.At s.x.text.length s.ct, .slice s.Ad s.x.data.length s.cd, .int .u64 (s.x.more : Nat), .bool s.x.dynamic, .slice s.A1 s.x.dyn.needed.length s.c1, .string s.x.dyn.soname, .string s.x.dyn.run, .slice s.A2 s.x.dyn.syms.length s.c2, .slice s.A3 s.x.dyn.relas.length s.c3, .int .i64 s.x.apart] 66)).alloc (.cells #[.slice s.A1 s.x.dyn.needed.length s.c1, .string s.x.dyn.soname, .string s.x.dyn.run, .slice s.A2 s.x.dyn.syms.length s.c2, .slice s.A3 s.x.dyn.relas.length s.c3] 29)) = W1 at *
  have hs1 := unhide Hs1
  have Henr := hide (show Mk.enters s.x = (Mk.within s.x || (decide (s.x.type = 3) && decide (s.x.entry = 0))) from rfl)
  have Hwi := hide (show Mk.within s.x = (decide (Mk.base s.x + 65536 ≤ s.x.entry) && decide (s.x.entry - (Mk.base s.x + 65536) < s.x.text.length)) from rfl)
  go_cut [4] (fun v wx => v = .bool (decide (s.x.type = 3) && decide (s.x.entry = 0)) ∧ wx = W1)
  case first =>
    by_cases c1 : s.x.type = 3
    · have q1 : ((s.x.type : Int) == 3) = true := by rw [c1]; rfl
      by_cases c2 : s.x.entry = 0
      · have q2 : ((s.x.entry : Int) == 0) = true := by rw [c2]; rfl
        have He := hide (show (decide (s.x.type = 3) && decide (s.x.entry = 0)) = true by simp [c1, c2])
        clear c1 c2
        go_wp2_with fail
        go_meet
        case rel => exact ⟨by rw [unhide He], rfl⟩
      · have q2 : ((s.x.entry : Int) == 0) = false := by rw [beq_eq_false_iff_ne]; omega
        have He := hide (show (decide (s.x.type = 3) && decide (s.x.entry = 0)) = false by simp [c2])
        clear c1 c2
        go_wp2_with fail
        go_meet
        case rel => exact ⟨by rw [unhide He], rfl⟩
    · have q1 : ((s.x.type : Int) == 3) = false := by rw [beq_eq_false_iff_ne]; omega
      have He := hide (show (decide (s.x.type = 3) && decide (s.x.entry = 0)) = false by simp [c1])
      clear c1
      go_wp2_with fail
      go_meet
      case rel => exact ⟨by rw [unhide He], rfl⟩
  case rest =>
    obtain ⟨rfl, hwc⟩ := hcut
    obtain rfl : W1 = wc := hwc.symm
    generalize (decide (s.x.type = 3) && decide (s.x.entry = 0)) = ef at *
    have KB1 := hide ((unhide KB) W1)
    go_wp2_with fail
    refine (unhide KB1).mono ?_
    rintro e w2 ⟨rfl, hb2⟩
    have hx2 := (unhide Hx) w2 ((unhide Hbr).trans (hb2.mono hs1))
    obtain ⟨x0, x1, x2, x3, x4, x5, x6, x7, x8, x9, x10, x11, x12⟩ := spec_cellsP hx2.1.1
    have d0 := hx2.1.2.cell (i := 0) rfl
    have d1 := hx2.1.2.cell (i := 1) rfl
    have d2 := hx2.1.2.cell (i := 2) rfl
    have d3 := hx2.1.2.cell (i := 3) rfl
    have HB2 := hide ((unhide Hbr).trans (hb2.mono hs1))
    have Hxm2 := hide hx2.2
    have hs2 := hb2.size
    clear hb2 hx2 KB KB1 a0 a1 a2 a3 a4 a5 a6 a7 a8 a9 a10 a11 a12
    generalize Mk.base s.x = bs at *
    go_upto_region 4 with fail
    go_cut [39] (fun v wx => v = .bool (Mk.within s.x) ∧ wx = w2)
    case first =>
      by_cases c1 : bs + 65536 ≤ s.x.entry
      · have c1i : decide (bs + 65536 ≤ s.x.entry) = true := decide_eq_true c1
        have c1j : ((bs : Int) + 65536 ≤ (s.x.entry : Int)) := by omega
        have c3 : (s.x.entry : Int) - ((bs : Int) + 65536) = ((s.x.entry - (bs + 65536) : Nat) : Int) := by omega
        have c4 : Mk.within s.x = decide (s.x.entry - (bs + 65536) < s.x.text.length) := by rw [unhide Hwi, decide_eq_true c1, Bool.true_and]
        obtain ⟨d, hd⟩ : ∃ d, s.x.entry - (bs + 65536) = d := ⟨_, rfl⟩
        rw [hd] at c3 c4
        have hdl : d < 18446744073709551616 := by omega
        by_cases c5 : d < s.x.text.length
        · have c5i : ((d : Int) < (s.x.text.length : Int)) := by omega
          have He := hide (show Mk.within s.x = true by rw [c4, decide_eq_true c5])
          clear hd c4 c5 c1
          go_wp2_with fail
          go_meet
          case rel => exact ⟨by rw [unhide He], rfl⟩
        · have c5i : ¬ ((d : Int) < (s.x.text.length : Int)) := by omega
          have He := hide (show Mk.within s.x = false by rw [c4, decide_eq_false c5])
          clear hd c4 c5 c1
          go_wp2_with fail
          go_meet
          case rel => exact ⟨by rw [unhide He], rfl⟩
      · have c1i : ¬ ((bs : Int) + 65536 ≤ (s.x.entry : Int)) := by omega
        have He := hide (show Mk.within s.x = false by rw [unhide Hwi, decide_eq_false c1]; rfl)
        clear c1
        go_wp2_with fail
        go_meet
        case rel => exact ⟨by rw [unhide He], rfl⟩
    case rest =>
      obtain ⟨rfl, hwc⟩ := hcut
      obtain rfl : w2 = wc := hwc.symm
      clear Hwi
      generalize Mk.within s.x = wi at *
      go_upto_if 39 with fail
      go_cut [4] (fun v wx => v = .bool (Mk.enters s.x) ∧ wx = w2)
      case first =>
        cases wi
        case false =>
          go_wp2_with fail
          go_meet
          case rel => exact ⟨by rw [unhide Henr]; rfl, rfl⟩
        case true =>
          go_wp2_with fail
          go_meet
          case rel => exact ⟨by rw [unhide Henr]; rfl, rfl⟩
      case rest =>
        obtain ⟨rfl, hwc⟩ := hcut
        obtain rfl : w2 = wc := hwc.symm
        clear Henr
        obtain ⟨en, hene⟩ : ∃ en, Mk.enters s.x = en := ⟨_, rfl⟩
        rw [hene]
        have Hene := hide hene
        clear hene
        have hn1 : s.x.dyn.needed.length ≤ 4294967296 := (unhide Hf).ok.dyn.n1
        have hn2 : s.x.dyn.syms.length ≤ 4294967296 := (unhide Hf).ok.dyn.n2
        have hn3 : s.x.dyn.relas.length ≤ 4294967296 := (unhide Hf).ok.dyn.n3
        have hl2 : (w2.alloc (.cells #[.string s.x.dyn.soname, .string s.x.dyn.run] 9)).ownsRow (w.heap.size + 2) 9 1 (.slice (some ⟨w2.heap.size, 0, none⟩) 2 2) 2 (([s.x.dyn.soname, s.x.dyn.run] : List ByteArray).map Value.string) := ⟨rfl, .inr ⟨_, 2, _, rfl, by omega, Blk.new w2 9 [.string s.x.dyn.soname, .string s.x.dyn.run], Nat.le_refl _, by unfold maxLen; omega, rfl, rfl⟩⟩
        have hba : Below w2.heap.size w2 (w2.alloc (.cells #[.string s.x.dyn.soname, .string s.x.dyn.run] 9)) := below_al _ _
        have hBW := (unhide HB2).trans (hba.mono (by omega))
        have hx3 := (unhide Hx) _ hBW
        have y0 : (w2.alloc (.cells #[.string s.x.dyn.soname, .string s.x.dyn.run] 9)).cell? ⟨w.heap.size + 1, 0, none⟩ = some (.slice s.A1 s.x.dyn.needed.length s.c1) := hx3.1.2.cell (i := 0) rfl
        have Hl2 := hide hl2
        have HBW := hide hBW
        have Hxm3 := hide hx3.2
        have hsz3 := hBW.size
        have Hsz3 := hide hsz3
        clear hl2 hba hBW hx3 HB2 Hxm2
        go_upto_region 8 with (at_builtin; refine wpList_app strTy rfl _ _ rfl (w.heap.size + 2) (.slice (some ⟨w2.heap.size, 0, none⟩) 2 2) 2 _ rfl (unhide Hl2) B s.A1 s.x.dyn.needed.length s.c1 (s.x.dyn.needed.map Value.string) rfl (unhide Hxm3).dyn.needed (by intro u hu; obtain ⟨y, -, rfl⟩ := List.mem_map.1 hu; rfl) (by omega) (by omega) ?_; intro An cn w4 ho4 hg4 ha4; have HN := hide (show w4.ownsRow (w.heap.size + 2) 9 1 (.slice An (2 + s.x.dyn.needed.length) cn) (2 + s.x.dyn.needed.length) (([s.x.dyn.soname, s.x.dyn.run] ++ s.x.dyn.needed).map Value.string) by rw [List.map_append]; exact ho4); have HB4 := hide ((unhide HBW).grown hg4 (by omega) (fun k hk => ((unhide Hl2).lt k hk).1)); clear ho4 hg4 ha4)
        have hx4 := (unhide Hx) _ (unhide HB4)
        have d3 := hx4.1.2.cell (i := 3) rfl
        obtain ⟨A2v, hA2v⟩ : ∃ A2v, s.A2 = A2v := ⟨_, rfl⟩
        rw [hA2v] at d3
        have HA2v := hide hA2v
        clear hx4 y0 d0 d1 d2 Hl2 HBW Hxm3 hA2v
        go_wp2_with fail
        go_loopg [6, 7, 52] s.x.dyn.syms.length (fun gk nv fv iv wr => ∃ (j : Nat) (An : Option Addr) (cn : Nat), gk = s.x.dyn.syms.length - j ∧ j ≤ s.x.dyn.syms.length ∧ iv = .int .i64 j ∧ nv = .slice An (2 + s.x.dyn.needed.length + j) cn ∧ fv = .bool (fits1 (s.x.dyn.syms.take j)) ∧ wr.ownsRow (w.heap.size + 2) 9 1 (.slice An (2 + s.x.dyn.needed.length + j) cn) (2 + s.x.dyn.needed.length + j) (([s.x.dyn.soname, s.x.dyn.run] ++ s.x.dyn.needed ++ Mk.names (s.x.dyn.syms.take j)).map Value.string) ∧ Below (w.heap.size + 2) W1 wr)
        case atStart => exact ⟨0, An, cn, by omega, by omega, rfl, rfl, rfl, by simpa [Mk.names] using unhide HN, unhide HB4⟩
        case round =>
        clear HN
        obtain ⟨j, An, cn, hgk, hj, rfl, rfl, rfl, hN, hB4⟩ := hrel
        have Hgk := hide hgk
        have HN := hide hN
        have HB5 := hide hB4
        have hws : w.heap.size + 2 ≤ wr.heap.size := Nat.le_trans hs1 hB4.size
        clear hgk hN hB4 HB4
        rcases Nat.lt_or_ge j s.x.dyn.syms.length with hlt | hge
        · obtain ⟨x, hx⟩ : ∃ x, s.x.dyn.syms[j]? = some x := ⟨_, List.getElem?_eq_getElem hlt⟩
          obtain ⟨b1, o1, hA1, hb1, st0, st1, st2, st3, st4⟩ := mksym_at ((unhide Hx) _ (unhide HB5)).2.dyn.syms hx
          have ilt : (j : Int) < (s.x.dyn.syms.length : Int) := by omega
          have htk : fits1 (s.x.dyn.syms.take (j + 1)) = (fits1 (s.x.dyn.syms.take j) && !decide (2 < x.bind)) := by unfold fits1; rw [List.take_add_one, hx, List.all_append]; simp
          have hnk : Mk.names (s.x.dyn.syms.take (j + 1)) = Mk.names (s.x.dyn.syms.take j) ++ [x.name] := by unfold Mk.names; rw [List.take_add_one, hx, List.map_append]; rfl
          have Htk := hide htk
          have Hnk := hide hnk
          have hA2' : A2v = some ⟨b1, o1, none⟩ := (unhide HA2v).symm.trans hA1
          subst hA2'
          have hbS : Below wr.heap.size wr (wr.alloc (.cells #[.string x.name, .int .u64 (x.value : Nat), .int .u64 (x.size : Nat), .int .u8 (x.bind : Nat), .bool x.isdef] 48)) := below_al _ _
          have hN2 := (own_below (unhide HN) hbS)
          have hSs : (wr.alloc (.cells #[.string x.name, .int .u64 (x.value : Nat), .int .u64 (x.size : Nat), .int .u8 (x.bind : Nat), .bool x.isdef] 48)).heap.size = wr.heap.size + 1 := by simp
          have HN2 := hide hN2
          have HbS := hide hbS
          have Hss := hide (show w.heap.size + 2 ≤ (wr.alloc (.cells #[.string x.name, .int .u64 (x.value : Nat), .int .u64 (x.size : Nat), .int .u8 (x.bind : Nat), .bool x.isdef] 48)).heap.size by simp; omega)
          have Hbx := hide (Blk.new wr 48 [.string x.name, .int .u64 (x.value : Nat), .int .u64 (x.size : Nat), .int .u8 (x.bind : Nat), .bool x.isdef])
          clear hx hA1 htk hnk hb1 hbS hN2 hSs
          obtain ⟨fv, hfv⟩ : ∃ fv, fits1 (s.x.dyn.syms.take j) = fv := ⟨_, rfl⟩
          rw [hfv]
          have Hfv := hide hfv
          clear hfv
          go_upto_region 13 with (at_builtin; go_loud (refine wpList_app1g strTy rfl _ _ rfl (w.heap.size + 2) (.slice An (2 + s.x.dyn.needed.length + j) cn) (2 + s.x.dyn.needed.length + j) _ rfl (unhide HN2) #[.string x.name] _ rfl (by simp) rfl (by intro u hu; simp at hu; subst hu; rfl) (by omega) (unhide Hss) ?_; intro A3 c3 w5 ho5 hg5 ha5; have HN3 := hide ho5; have hb5 := (unhide HB5).trans ((unhide HbS).mono hws) |>.grown hg5 (unhide Hss) (fun k hk => ((unhide HN2).lt k hk).1); have HB6 := hide hb5; have Hbx2 := hide (show Blk w5 wr.heap.size 48 [.string x.name, .int .u64 (x.value : Nat), .int .u64 (x.size : Nat), .int .u8 (x.bind : Nat), .bool x.isdef] from (hg5.block _ (unhide Hbx).lt (fun e => by have := ((unhide HN).lt _ e.symm).2; omega)).trans (unhide Hbx)); have z3 := (unhide Hbx2).cell (i := 3) rfl; clear ho5 hg5 ha5 hb5))
          cases fv
          case false =>
            go_wp2_with fail
            go_roundg (s.x.dyn.syms.length - (j + 1))
            case measure => have := unhide Hgk; omega
            case rel => exact ⟨j + 1, A3, c3, rfl, by omega, by go_num, by rw [← Nat.add_assoc], by rw [unhide Htk, unhide Hfv]; rfl, by rw [unhide Hnk, ← Nat.add_assoc, ← List.append_assoc, List.map_append]; exact unhide HN3, unhide HB6⟩
          case true =>
            go_wp2_with fail
            go_roundg (s.x.dyn.syms.length - (j + 1))
            case measure => have := unhide Hgk; omega
            case rel => exact ⟨j + 1, A3, c3, rfl, by omega, by go_num, by rw [← Nat.add_assoc], by rw [unhide Htk, unhide Hfv, le2]; rfl, by rw [unhide Hnk, ← Nat.add_assoc, ← List.append_assoc, List.map_append]; exact unhide HN3, unhide HB6⟩
        · obtain rfl : j = s.x.dyn.syms.length := by omega
          have ige : ¬ ((s.x.dyn.syms.length : Nat) : Int) < ((s.x.dyn.syms.length : Nat) : Int) := by omega
          rw [List.take_length] at *
          have hx6 := (unhide Hx) _ (unhide HB5)
          have d4 := hx6.1.2.cell (i := 4) rfl
          have d3b := hx6.1.2.cell (i := 3) rfl
          obtain ⟨A3v, hA3v⟩ : ∃ A3v, s.A3 = A3v := ⟨_, rfl⟩
          rw [hA3v] at d4
          have HA3v := hide hA3v
          have HB7 := hide (unhide HB5)
          obtain ⟨f1, hf1⟩ : ∃ f1, fits1 s.x.dyn.syms = f1 := ⟨_, rfl⟩
          have Hf1 := hide hf1
          clear hf1 hA3v hx6
          rw [unhide Hf1]
          have hws2 := hws
          clear d3b
          go_wp2_with fail
          go_loopg [7, 71] s.x.dyn.relas.length (fun gk fv iv wr => ∃ i : Nat, gk = s.x.dyn.relas.length - i ∧ i ≤ s.x.dyn.relas.length ∧ iv = .int .i64 i ∧ fv = .bool (f1 && fits2 s.x.dyn.syms.length (s.x.dyn.relas.take i)) ∧ wr.ownsRow (w.heap.size + 2) 9 1 (.slice An (2 + s.x.dyn.needed.length + s.x.dyn.syms.length) cn) (2 + s.x.dyn.needed.length + s.x.dyn.syms.length) ((namesOf s.x.dyn).map Value.string) ∧ Below (w.heap.size + 2) W1 wr)
          case atStart => exact ⟨0, by omega, by omega, rfl, by simp [fits2], unhide HN, unhide HB7⟩
          case round =>
          clear HN HB7 HB5 Hgk ige
          obtain ⟨i, hgk2, hi, rfl, rfl, hN, hB7⟩ := hrel
          have Hgk2 := hide hgk2
          have HN := hide hN
          have HB7 := hide hB7
          have hws3 : w.heap.size + 2 ≤ wr.heap.size := Nat.le_trans hs1 hB7.size
          clear hgk2 hN hB7 hws hws2
          rcases Nat.lt_or_ge i s.x.dyn.relas.length with hlt | hge
          · obtain ⟨x, hx⟩ : ∃ x, s.x.dyn.relas[i]? = some x := ⟨_, List.getElem?_eq_getElem hlt⟩
            obtain ⟨b1, o1, hA1, hb1, st0, st1, st2, st3⟩ := mkrel_at ((unhide Hx) _ (unhide HB7)).2.dyn.relas hx
            have hA2' : A3v = some ⟨b1, o1, none⟩ := (unhide HA3v).symm.trans hA1
            subst hA2'
            have ilt : (i : Int) < (s.x.dyn.relas.length : Int) := by omega
            have htk : fits2 s.x.dyn.syms.length (s.x.dyn.relas.take (i + 1)) = (fits2 s.x.dyn.syms.length (s.x.dyn.relas.take i) && !(decide (x.sym < 0) || decide ((s.x.dyn.syms.length : Int) < x.sym))) := by unfold fits2; rw [List.take_add_one, hx, List.all_append]; simp [Mk.badRel]
            have hbS : Below wr.heap.size wr (wr.alloc (.cells #[.int .u64 (x.off : Nat), .int .u32 (x.type : Nat), .int .i64 x.sym, .int .i64 x.add] 141)) := below_al _ _
            have hBa := (unhide HB7).trans (hbS.mono hws3)
            have HBa := hide hBa
            have HNa := hide (own_below (unhide HN) hbS)
            have d3c : (wr.alloc (.cells #[.int .u64 (x.off : Nat), .int .u32 (x.type : Nat), .int .i64 x.sym, .int .i64 x.add] 141)).cell? ⟨w.heap.size + 1, 3, none⟩ = some (.slice s.A2 s.x.dyn.syms.length s.c2) := ((unhide Hx) _ hBa).1.2.cell (i := 3) rfl
            have z2 : (wr.alloc (.cells #[.int .u64 (x.off : Nat), .int .u32 (x.type : Nat), .int .i64 x.sym, .int .i64 x.add] 141)).cell? ⟨wr.heap.size, 2, none⟩ = some (.int .i64 x.sym) := (Blk.new wr 141 [.int .u64 (x.off : Nat), .int .u32 (x.type : Nat), .int .i64 x.sym, .int .i64 x.add]).cell (i := 2) rfl
            generalize fits2 s.x.dyn.syms.length (s.x.dyn.relas.take i) = f2 at *
            have Htk2 := hide htk
            generalize x.sym = sm at *
            clear hx hA1 htk hb1 hbS hBa
            obtain ⟨ff, hff⟩ : ∃ ff, (f1 && f2) = ff := ⟨_, rfl⟩
            rw [hff]
            have Hff := hide hff
            clear hff
            cases ff
            case false =>
              go_wp2_with fail
              go_roundg (s.x.dyn.relas.length - (i + 1))
              case measure => have := unhide Hgk2; omega
              case rel => exact ⟨i + 1, rfl, by omega, by go_num, by rw [unhide Htk2]; rw [← Bool.and_assoc, unhide Hff]; rfl, unhide HNa, unhide HBa⟩
            case true =>
              by_cases c2 : 0 ≤ sm
              · have c2i : decide (0 ≤ sm) = true := decide_eq_true c2
                have C2 := hide (show decide (sm < 0) = false from decide_eq_false (by omega))
                clear c2
                go_wp2_with fail
                go_roundg (s.x.dyn.relas.length - (i + 1))
                case measure => have := unhide Hgk2; omega
                case rel => exact ⟨i + 1, rfl, by omega, by go_num, by rw [unhide Htk2]; rw [← Bool.and_assoc, unhide Hff, unhide C2, Bool.false_or, Bool.true_and, leN], unhide HNa, unhide HBa⟩
              · have c2i : decide (0 ≤ sm) = false := decide_eq_false c2
                have C2 := hide (show decide (sm < 0) = true from decide_eq_true (by omega))
                clear c2
                go_wp2_with fail
                go_roundg (s.x.dyn.relas.length - (i + 1))
                case measure => have := unhide Hgk2; omega
                case rel => exact ⟨i + 1, rfl, by omega, by go_num, by rw [unhide Htk2]; rw [← Bool.and_assoc, unhide Hff, unhide C2]; rfl, unhide HNa, unhide HBa⟩
          · obtain rfl : i = s.x.dyn.relas.length := by omega
            have ige : ¬ ((s.x.dyn.relas.length : Nat) : Int) < ((s.x.dyn.relas.length : Nat) : Int) := by omega
            rw [List.take_length] at *
            obtain ⟨fz, hfz⟩ : ∃ fz, (f1 && fits2 s.x.dyn.syms.length s.x.dyn.relas) = fz := ⟨_, rfl⟩
            rw [hfz]
            have Hfz := hide hfz
            have hx8 := (unhide Hx) _ (unhide HB7)
            obtain ⟨x0, x1, x2, x3, x4, x5, x6, x7, x8, x9, x10, x11, x12⟩ := spec_cellsP hx8.1.1
            clear hx8 hfz
            go_upto_region 20 with fail
            have Hmay := hide (show Mk.may s.x = (if Mk.bad1 s.x = true then 1 else if Mk.bad2 s.x = true then 1 else if Mk.bad s.x.dyn = true then 1 else if Mk.tooBig s.x = true then 12 else 0) from rfl)
            have Hb1d := hide (show Mk.bad1 s.x = ((!(decide (s.x.type = 2) || decide (s.x.type = 3))) || !Mk.enters s.x || (decide (s.x.interp.size ≠ 0) && decide (Pth.chk s.x.interp ≠ 0))) from rfl)
            have Hb2d := hide (show Mk.bad2 s.x = ((!s.x.dynamic && !Mk.empty s.x.dyn) || decide (s.x.apart < 0) || decide ((s.x.dyn.relas.length : Int) < s.x.apart)) from rfl)
            have Hbd := hide (bad_eq s.x.dyn)
            have Htb := hide (show Mk.tooBig s.x = (decide (8 < s.x.dyn.needed.length) || decide (64 < s.x.dyn.syms.length) || decide (64 < s.x.dyn.relas.length) || decide (65536 < s.x.text.length) || decide (1048576 < s.x.more)) from rfl)
            rw [unhide Hene] at Hb1d
            rw [unhide Hf1, unhide Hfz] at Hbd
            go_cut [90] (fun v wx => v = .bool (!(decide (s.x.type = 2) || decide (s.x.type = 3))) ∧ wx = wr)
            case first =>
              by_cases c2 : s.x.type = 2
              · have q1 : ((s.x.type : Int) != 2) = false := by rw [c2]; rfl
                have He := hide (show (!(decide (s.x.type = 2) || decide (s.x.type = 3))) = false by simp [c2])
                clear c2
                go_wp2_with fail
                go_meet
                case rel => exact ⟨by rw [unhide He], rfl⟩
              · have q1 : ((s.x.type : Int) != 2) = true := by rw [bne_iff_ne]; omega
                by_cases c3 : s.x.type = 3
                · have q2 : ((s.x.type : Int) != 3) = false := by rw [c3]; rfl
                  have He := hide (show (!(decide (s.x.type = 2) || decide (s.x.type = 3))) = false by simp [c3])
                  clear c2 c3
                  go_wp2_with fail
                  go_meet
                  case rel => exact ⟨by rw [unhide He], rfl⟩
                · have q2 : ((s.x.type : Int) != 3) = true := by rw [bne_iff_ne]; omega
                  have He := hide (show (!(decide (s.x.type = 2) || decide (s.x.type = 3))) = true by simp [c2, c3])
                  clear c2 c3
                  go_wp2_with fail
                  go_meet
                  case rel => exact ⟨by rw [unhide He], rfl⟩
            case rest =>
              obtain ⟨rfl, hwc⟩ := hcut
              obtain rfl : wr = wc := hwc.symm
              generalize (!(decide (s.x.type = 2) || decide (s.x.type = 3))) = tb at *
              cases tb
              case true =>
                have HM : Hid (Mk.may s.x = 1) := hide (by rw [unhide Hmay, unhide Hb1d]; rfl)
                go_wp2_with fail
                go_ret
                exact ⟨ret_int (unhide HM).symm, (unhide Hb1).trans ((unhide HB7).mono (by omega))⟩
              cases en
              case false =>
                have HM : Hid (Mk.may s.x = 1) := hide (by rw [unhide Hmay, unhide Hb1d]; rfl)
                go_wp2_with fail
                go_ret
                exact ⟨ret_int (unhide HM).symm, (unhide Hb1).trans ((unhide HB7).mono (by omega))⟩
              have KC := hide (check_any s.x.interp (by have := (unhide Hf).interp; unfold maxLen; omega) wr)
              go_upto_region 22 with fail
              go_cut [90] (fun v wx => v = .bool (decide (s.x.interp.size ≠ 0) && decide (Pth.chk s.x.interp ≠ 0)) ∧ Below wr.heap.size wr wx)
              case first =>
                by_cases ci : s.x.interp.size = 0
                · have q3 := toList_empty ci
                  have He := hide (show (decide (s.x.interp.size ≠ 0) && decide (Pth.chk s.x.interp ≠ 0)) = false by simp [ci])
                  clear ci
                  go_wp2_with fail
                  go_meet
                  case rel => exact ⟨by rw [unhide He], Below.refl _ _⟩
                · have q3 := toList_some ci
                  have He := hide (show (decide (s.x.interp.size ≠ 0) && decide (Pth.chk s.x.interp ≠ 0)) = decide (Pth.chk s.x.interp ≠ 0) by simp [ci])
                  clear ci
                  go_wp2_with (go_at_call 54; refine (unhide KC).mono ?_; rintro e w5 ⟨rfl, hb5⟩; have Hb5 := hide hb5; clear hb5)
                  go_meet
                  case rel => exact ⟨by rw [unhide He]; congr 1; by_cases hc : Pth.chk s.x.interp = 0 <;> simp [hc], unhide Hb5⟩
              case rest =>
                obtain ⟨rfl, hbw⟩ := hcut
                have HB8 := hide ((unhide HB7).trans (hbw.mono hws3))
                have HN8 := hide (own_below (unhide HN) hbw)
                have hws8 : w.heap.size + 2 ≤ wc.heap.size := Nat.le_trans hws3 hbw.size
                clear hbw KC x0 x1 x2 x3 x4 x5 x6 x7 x8 x9 x10 x11 x12
                generalize (decide (s.x.interp.size ≠ 0) && decide (Pth.chk s.x.interp ≠ 0)) = ib at *
                cases ib
                case true =>
                  have HM : Hid (Mk.may s.x = 1) := hide (by rw [unhide Hmay, unhide Hb1d]; rfl)
                  go_wp2_with fail
                  go_ret
                  exact ⟨ret_int (unhide HM).symm, (unhide Hb1).trans ((unhide HB8).mono (by omega))⟩
                have hx8 := (unhide Hx) _ (unhide HB8)
                obtain ⟨x0, x1, x2, x3, x4, x5, x6, x7, x8, x9, x10, x11, x12⟩ := spec_cellsP hx8.1.1
                have d0 := hx8.1.2.cell (i := 0) rfl
                have d1 := hx8.1.2.cell (i := 1) rfl
                have d2 := hx8.1.2.cell (i := 2) rfl
                have d3 := hx8.1.2.cell (i := 3) rfl
                have d4 := hx8.1.2.cell (i := 4) rfl
                have KE := hide (pempty_any s wc (unhide Hf).ok.dyn)
                clear hx8
                obtain ⟨dy, hdy⟩ : ∃ dy, s.x.dynamic = dy := ⟨_, rfl⟩
                rw [hdy] at x6
                rw [hdy] at Hb2d
                obtain ⟨em, hem⟩ : ∃ em, Mk.empty s.x.dyn = em := ⟨_, rfl⟩
                rw [hem] at KE
                rw [hem] at Hb2d
                clear hdy hem
                go_upto_region 24 with fail
                go_cut [110] (fun v wx => v = .bool (!dy && !em) ∧ Below wc.heap.size wc wx)
                case first =>
                  cases dy
                  case true =>
                    go_wp2_with fail
                    go_meet
                    case rel => exact ⟨rfl, Below.refl _ _⟩
                  case false =>
                    go_wp2_with (go_at_call 68; refine (unhide KE).mono ?_; rintro e w5 ⟨rfl, hb5⟩; have Hb5 := hide hb5; clear hb5)
                    go_meet
                    case rel => exact ⟨by cases em <;> rfl, unhide Hb5⟩
                case rest =>
                  obtain ⟨rfl, hbw⟩ := hcut
                  have HB9 := hide ((unhide HB8).trans (hbw.mono hws8))
                  have HN9 := hide (own_below (unhide HN8) hbw)
                  have hws9 := Nat.le_trans hws8 hbw.size
                  clear hbw KE x0 x1 x2 x3 x4 x5 x6 x7 x8 x9 x10 x11 x12 d0 d1 d2 d3 d4
                  generalize (!dy && !em) = de at *
                  cases de
                  case true =>
                    have HM : Hid (Mk.may s.x = 1) := hide (by rw [unhide Hmay, unhide Hb1d, unhide Hb2d]; rfl)
                    go_wp2_with fail
                    go_ret
                    exact ⟨ret_int (unhide HM).symm, (unhide Hb1).trans ((unhide HB9).mono (by omega))⟩
                  have hx9 := (unhide Hx) _ (unhide HB9)
                  obtain ⟨x0, x1, x2, x3, x4, x5, x6, x7, x8, x9, x10, x11, x12⟩ := spec_cellsP hx9.1.1
                  have d0 := hx9.1.2.cell (i := 0) rfl
                  have d3 := hx9.1.2.cell (i := 3) rfl
                  have d4 := hx9.1.2.cell (i := 4) rfl
                  clear hx9
                  by_cases ca : s.x.apart < 0
                  · have HM : Hid (Mk.may s.x = 1) := hide (by rw [unhide Hmay, unhide Hb1d, unhide Hb2d, decide_eq_true ca]; rfl)
                    go_wp2_with fail
                    go_ret
                    exact ⟨ret_int (unhide HM).symm, (unhide Hb1).trans ((unhide HB9).mono (by omega))⟩
                  by_cases cb : (s.x.dyn.relas.length : Int) < s.x.apart
                  · have HM : Hid (Mk.may s.x = 1) := hide (by rw [unhide Hmay, unhide Hb1d, unhide Hb2d, decide_eq_true cb, Bool.or_true]; rfl)
                    go_wp2_with fail
                    go_ret
                    exact ⟨ret_int (unhide HM).symm, (unhide Hb1).trans ((unhide HB9).mono (by omega))⟩
                  have Hb2f : Hid (Mk.bad2 s.x = false) := hide (by rw [unhide Hb2d, decide_eq_false ca, decide_eq_false cb]; rfl)
                  cases fz
                  case false =>
                    have HM : Hid (Mk.may s.x = 1) := hide (by rw [unhide Hmay, unhide Hb1d, unhide Hb2f, unhide Hbd]; rfl)
                    go_wp2_with fail
                    go_ret
                    exact ⟨ret_int (unhide HM).symm, (unhide Hb1).trans ((unhide HB9).mono (by omega))⟩
                  have hsum := namesOf_sum s.x.dyn
                  have htx := (unhide Hf).texts
                  have hnl : (namesOf s.x.dyn).length = 2 + s.x.dyn.needed.length + s.x.dyn.syms.length := by unfold namesOf Mk.names; simp; omega
                  have hcap : 2 + s.x.dyn.needed.length + s.x.dyn.syms.length ≤ cn := by
                    obtain ⟨g9, e9, -⟩ := own_some (unhide HN9) (by omega)
                    subst e9
                    exact (own_at (unhide HN9)).2.2
                  have KJ := hide (join_any' An (2 + s.x.dyn.needed.length + s.x.dyn.syms.length) cn (namesOf s.x.dyn) ⟨#[]⟩ wc (Rd.of_own (unhide HN9)) hcap (by omega) (by rw [show (⟨#[]⟩ : ByteArray).data.toList = [] from rfl, join_flat]; unfold sumB at hsum; omega))
                  clear hsum htx hnl hcap
                  go_wp2_with fail
                  refine (unhide KJ).mono ?_
                  rintro e w10 ⟨rfl, hbj⟩
                  have hct := Tryz.strings_Contains_one ⟨(Lib.join ((namesOf s.x.dyn).map (·.data.toList)) (⟨#[]⟩ : ByteArray).data.toList).toArray⟩ 0 w10
                  have hix : decide (0 ≤ Lib.indexByte (⟨(Lib.join ((namesOf s.x.dyn).map (·.data.toList)) (⟨#[]⟩ : ByteArray).data.toList).toArray⟩ : ByteArray).data.toList 0) = (namesOf s.x.dyn).any Mk.has := by
                    rw [index_has, ← names_has]
                  rw [hix] at hct
                  have KC2 := hide hct
                  have HB10 := hide ((unhide HB9).trans (hbj.mono hws9))
                  have hx10 := (unhide Hx) _ (unhide HB10)
                  have hws10 := Nat.le_trans hws9 hbj.size
                  obtain ⟨x0, x1, x2, x3, x4, x5, x6, x7, x8, x9, x10, x11, x12⟩ := spec_cellsP hx10.1.1
                  have d0 := hx10.1.2.cell (i := 0) rfl
                  have d3 := hx10.1.2.cell (i := 3) rfl
                  have d4 := hx10.1.2.cell (i := 4) rfl
                  generalize (namesOf s.x.dyn).any Mk.has = nh at *
                  generalize (⟨(Lib.join ((namesOf s.x.dyn).map (·.data.toList)) (⟨#[]⟩ : ByteArray).data.toList).toArray⟩ : ByteArray) = js at *
                  clear hx10 hbj hct hix KJ HN9 HB9
                  go_wp2_with fail
                  refine (unhide KC2).mono ?_
                  rintro e w11 ⟨rfl, rfl⟩
                  cases nh
                  case true =>
                    have HM : Hid (Mk.may s.x = 1) := hide (by rw [unhide Hmay, unhide Hb1d, unhide Hb2f, unhide Hbd]; rfl)
                    go_wp2_with fail
                    go_ret
                    exact ⟨ret_int (unhide HM).symm, (unhide Hb1).trans ((unhide HB10).mono (by omega))⟩
                  have HM0 : Hid (Mk.may s.x = if Mk.tooBig s.x = true then 12 else 0) := hide (by rw [unhide Hmay, unhide Hb1d, unhide Hb2f, unhide Hbd]; rfl)
                  clear KC2
                  by_cases e0 : 8 < s.x.dyn.needed.length
                  · have g0 : (8 : Int) < (s.x.dyn.needed.length : Int) := by omega
                    have HT : Hid (Mk.may s.x = 12) := hide (by rw [unhide HM0, unhide Htb]; simp [e0])
                    clear e0
                    go_wp2_with fail
                    go_ret
                    exact ⟨ret_int (unhide HT).symm, (unhide Hb1).trans ((unhide HB10).mono (by omega))⟩
                  have g0 : ¬ (8 : Int) < (s.x.dyn.needed.length : Int) := by omega
                  by_cases e1 : 64 < s.x.dyn.syms.length
                  · have g1 : (64 : Int) < (s.x.dyn.syms.length : Int) := by omega
                    have HT : Hid (Mk.may s.x = 12) := hide (by rw [unhide HM0, unhide Htb]; simp [e1])
                    clear e1
                    go_wp2_with fail
                    go_ret
                    exact ⟨ret_int (unhide HT).symm, (unhide Hb1).trans ((unhide HB10).mono (by omega))⟩
                  have g1 : ¬ (64 : Int) < (s.x.dyn.syms.length : Int) := by omega
                  by_cases e2 : 64 < s.x.dyn.relas.length
                  · have g2 : (64 : Int) < (s.x.dyn.relas.length : Int) := by omega
                    have HT : Hid (Mk.may s.x = 12) := hide (by rw [unhide HM0, unhide Htb]; simp [e2])
                    clear e2
                    go_wp2_with fail
                    go_ret
                    exact ⟨ret_int (unhide HT).symm, (unhide Hb1).trans ((unhide HB10).mono (by omega))⟩
                  have g2 : ¬ (64 : Int) < (s.x.dyn.relas.length : Int) := by omega
                  by_cases e3 : 65536 < s.x.text.length
                  · have g3 : (65536 : Int) < (s.x.text.length : Int) := by omega
                    have HT : Hid (Mk.may s.x = 12) := hide (by rw [unhide HM0, unhide Htb]; simp [e3])
                    clear e3
                    go_wp2_with fail
                    go_ret
                    exact ⟨ret_int (unhide HT).symm, (unhide Hb1).trans ((unhide HB10).mono (by omega))⟩
                  have g3 : ¬ (65536 : Int) < (s.x.text.length : Int) := by omega
                  by_cases e4 : 1048576 < s.x.more
                  · have g4 : (1048576 : Int) < (s.x.more : Int) := by omega
                    have HT : Hid (Mk.may s.x = 12) := hide (by rw [unhide HM0, unhide Htb]; simp [e4])
                    clear e4
                    go_wp2_with fail
                    go_ret
                    exact ⟨ret_int (unhide HT).symm, (unhide Hb1).trans ((unhide HB10).mono (by omega))⟩
                  have g4 : ¬ (1048576 : Int) < (s.x.more : Int) := by omega
                  have HT : Hid (Mk.may s.x = 0) := hide (by rw [unhide HM0, unhide Htb]; simp [e0, e1, e2, e3, e4])
                  clear e0 e1 e2 e3 e4
                  go_wp2_with fail
                  go_ret
                  exact ⟨ret_int (unhide HT).symm, (unhide Hb1).trans ((unhide HB10).mono (by omega))⟩
end Go.Proofs.YtnbecdahfgkffaaGreat
namespace Go.Proofs.YtnbecdahfgkffaaGreat
open Go.RowKit
theorem own_setRowG {w : World} {base n c size k : Nat} {A : Option Addr} {e : TypeId} {xs : List Value} (h : w.ownsRow base e size (.slice A n c) n xs) (hk : k < base) (cs : Array Value) : (w.setRow k cs).ownsRow base e size (.slice A n c) n xs := by
  refine ⟨h.1, h.2.imp id ?_⟩
  rintro ⟨g, cap, cur, e1, e2, e3, r'⟩
  exact ⟨g, cap, cur, e1, e2, (setRow_other w k g cs (by omega)).trans e3, r'⟩
theorem mkreInfo : (Tryz.prog.info? 141).map (·.size) = some 4 := by kernel_rfl
end Go.Proofs.YtnbecdahfgkffaaGreat
namespace Go.Proofs.YtnbecdahfgkffaaGreat
open Go.RowKit
theorem OldK.step {t : TypeId} {w w' : World} {g o base base2 n c n1 c1 n2 c2 : Nat} {l : List Value} {A A1 A2 : Option Addr} {xs ys zs : List UInt8} (h : OldK 5 1 w base A n c (bys xs) A1 n1 c1) (E : FiE t g o l base2 A1 w w' A2 n2 c2 zs) (k : OldK 5 1 w' base2 A1 n1 c1 (bys (xs ++ ys)) A2 n2 c2) (hb : base ≤ base2) (hb2 : base2 = base) (hg : bk A ≠ some g) (hn : xs.length = n) (hn1 : n1 = n + ys.length) : OldK 5 1 w' base A n c (bys xs) A2 n2 c2 := by
  subst hb2
  rcases h.at_ with ⟨rfl, rfl, h1⟩ | h1
  · have k1 := k.own
    rw [hn1, bys_app] at k1
    refine ⟨own_prefix k1 (by rw [bys_len]; exact hn), ?_⟩
    rcases k.at_ with ⟨h2, h3, h4⟩ | h2
    · exact .inl ⟨h2, h3, by omega⟩
    · exact .inr h2
  · obtain ⟨r1, r2⟩ := E.own h.own hg h1
    exact ⟨r1, .inr r2⟩
def tellF (k : Nat) : Nat := match k with
  | 0 => 75
  | 1 => 76
  | 2 => 78
  | 3 => 79
  | _ => 80
theorem lit4 (w : World) (a b c d : Int) : Rd (w.alloc (.cells #[.int .u64 a, .int .u64 b, .int .u64 c, .int .u64 d] 23)) (w.alloc (.cells #[.int .u64 a, .int .u64 b, .int .u64 c, .int .u64 d] 23)).heap.size 1 (some ⟨w.heap.size, 0, none⟩) 4 [.int .u64 a, .int .u64 b, .int .u64 c, .int .u64 d] := by
  rw [show (w.alloc (.cells #[.int .u64 a, .int .u64 b, .int .u64 c, .int .u64 d] 23)).heap.size = w.heap.size + 1 by simp]
  exact Rd.rowF (n := 4) (size := 1) rfl
def TellE (t : TypeId) (g o : Nat) (l : List Value) (base : Nat) (A : Option Addr) (n c : Nat) (xs : List UInt8) (es : List (Nat × Nat)) (w : World) (e : Ending) (w' : World) : Prop :=
  e = .returned (.tuple #[]) ∧ ∃ A' c', FiE t g o l base A w w' A' (n + 16 * es.length) c' (xs ++ Mk.entsB es) ∧ OldK 5 1 w' base A n c (bys xs) A' (n + 16 * es.length) c'
set_option maxRecDepth 100000 in
set_option maxHeartbeats 4000000 in
theorem tell0_any (t : TypeId) (g o : Nat) (l : List Value) (base : Nat) (A : Option Addr) (n c a m : Nat) (xs : List UInt8) (w : World) (h : FiM w t g o l base A n c xs) (hbase : base ≤ w.heap.size) (hn : n ≤ 17592186044416) (ha : a < 18446744073709551616) (hm : m ≤ 4294967296) :
    Calls Tryz.prog 75 #[.pointer (some ⟨g, o, none⟩), .int .u64 (a : Nat), .int .i64 (m : Nat)] w (TellE t g o l base A n c xs (Mk.tell 0 a m) w) := by
  have hb := below_al w (.cells #[.int .u64 4, .int .u64 (a : Nat)] 23)
  have hlt := h.lt
  have hgl := h.blk.lt
  have H1 := lit2 w 4 (a : Nat)
  have KN := hide (pnumber_any t g o l base A n c xs w.heap.size 0 2 2 8 [4, a] (w.alloc (.cells #[.int .u64 4, .int .u64 (a : Nat)] 23)) (h.below hb) (Nat.le_trans hbase hb.size) H1 (by omega) (fun e => by have := (hlt _ e).2; omega) (by intro v hv; simp at hv; omega) (by omega) hn (by omega))
  have Hb := hide hb
  clear hb hlt hgl H1 h
  go_enter Tryz.func75, Tryz.ntmps75
  go_wp2_with fail
  refine (unhide KN).mono ?_
  rintro e w1 ⟨rfl, A1, c1, hE, hK⟩
  have HE := hide (FiE.after (unhide Hb) hE)
  have HK := hide hK
  clear hE hK KN
  go_wp2_with fail
  go_end0
  exact ⟨rfl, A1, c1, by simpa [Mk.tell, Mk.entsB, Mk.pairB, Mk.lbs, List.append_assoc] using unhide HE, by simpa [Mk.tell] using unhide HK⟩
set_option maxRecDepth 100000 in
set_option maxHeartbeats 4000000 in
theorem tell1_any (t : TypeId) (g o : Nat) (l : List Value) (base : Nat) (A : Option Addr) (n c a m : Nat) (xs : List UInt8) (w : World) (h : FiM w t g o l base A n c xs) (hbase : base ≤ w.heap.size) (hn : n ≤ 17592186044416) (ha : a < 18446744073709551616) (hm : m ≤ 4294967296) :
    Calls Tryz.prog 76 #[.pointer (some ⟨g, o, none⟩), .int .u64 (a : Nat), .int .i64 (m : Nat)] w (TellE t g o l base A n c xs (Mk.tell 1 a m) w) := by
  have hb := below_al w (.cells #[.int .u64 6, .int .u64 (a : Nat), .int .u64 11, .int .u64 24] 23)
  have hlt := h.lt
  have hgl := h.blk.lt
  have H1 := lit4 w 6 (a : Nat) 11 24
  have KN := hide (pnumber_any t g o l base A n c xs w.heap.size 0 4 4 8 [6, a, 11, 24] (w.alloc (.cells #[.int .u64 6, .int .u64 (a : Nat), .int .u64 11, .int .u64 24] 23)) (h.below hb) (Nat.le_trans hbase hb.size) H1 (by omega) (fun e => by have := (hlt _ e).2; omega) (by intro v hv; simp at hv; omega) (by omega) hn (by omega))
  have Hb := hide hb
  clear hb hlt hgl H1 h
  go_enter Tryz.func76, Tryz.ntmps76
  go_wp2_with fail
  refine (unhide KN).mono ?_
  rintro e w1 ⟨rfl, A1, c1, hE, hK⟩
  have HE := hide (FiE.after (unhide Hb) hE)
  have HK := hide hK
  clear hE hK KN
  go_wp2_with fail
  go_end0
  exact ⟨rfl, A1, c1, by simpa [Mk.tell, Mk.entsB, Mk.pairB, Mk.lbs, List.append_assoc] using unhide HE, by simpa [Mk.tell] using unhide HK⟩
set_option maxRecDepth 100000 in
set_option maxHeartbeats 4000000 in
theorem tell2_any (t : TypeId) (g o : Nat) (l : List Value) (base : Nat) (A : Option Addr) (n c a m : Nat) (xs : List UInt8) (w : World) (h : FiM w t g o l base A n c xs) (hbase : base ≤ w.heap.size) (hn : n ≤ 17592186044416) (ha : a < 18446744073709551616) (hm : m ≤ 4294967296) :
    Calls Tryz.prog 78 #[.pointer (some ⟨g, o, none⟩), .int .u64 (a : Nat), .int .i64 (m : Nat)] w (TellE t g o l base A n c xs (Mk.tell 2 a m) w) := by
  have hb := below_al w (.cells #[.int .u64 7, .int .u64 (a : Nat), .int .u64 8, .int .u64 (m : Nat), .int .u64 9, .int .u64 24] 23)
  have hlt := h.lt
  have hgl := h.blk.lt
  have H1 := lit6 w 7 (a : Nat) 8 (m : Nat) 9 24
  have KN := hide (pnumber_any t g o l base A n c xs w.heap.size 0 6 6 8 [7, a, 8, m, 9, 24] (w.alloc (.cells #[.int .u64 7, .int .u64 (a : Nat), .int .u64 8, .int .u64 (m : Nat), .int .u64 9, .int .u64 24] 23)) (h.below hb) (Nat.le_trans hbase hb.size) H1 (by omega) (fun e => by have := (hlt _ e).2; omega) (by intro v hv; simp at hv; omega) (by omega) hn (by omega))
  have Hb := hide hb
  clear hb hlt hgl H1 h
  go_enter Tryz.func78, Tryz.ntmps78
  go_wp2_with fail
  refine (unhide KN).mono ?_
  rintro e w1 ⟨rfl, A1, c1, hE, hK⟩
  have HE := hide (FiE.after (unhide Hb) hE)
  have HK := hide hK
  clear hE hK KN
  go_wp2_with fail
  go_end0
  exact ⟨rfl, A1, c1, by simpa [Mk.tell, Mk.entsB, Mk.pairB, Mk.lbs, List.append_assoc] using unhide HE, by simpa [Mk.tell] using unhide HK⟩
set_option maxRecDepth 100000 in
set_option maxHeartbeats 4000000 in
theorem tell3_any (t : TypeId) (g o : Nat) (l : List Value) (base : Nat) (A : Option Addr) (n c a m : Nat) (xs : List UInt8) (w : World) (h : FiM w t g o l base A n c xs) (hbase : base ≤ w.heap.size) (hn : n ≤ 17592186044416) (ha : a < 18446744073709551616) (hm : m ≤ 4294967296) :
    Calls Tryz.prog 79 #[.pointer (some ⟨g, o, none⟩), .int .u64 (a : Nat), .int .i64 (m : Nat)] w (TellE t g o l base A n c xs (Mk.tell 3 a m) w) := by
  have hb := below_al w (.cells #[.int .u64 23, .int .u64 (a : Nat), .int .u64 2, .int .u64 (m : Nat), .int .u64 20, .int .u64 7] 23)
  have hlt := h.lt
  have hgl := h.blk.lt
  have H1 := lit6 w 23 (a : Nat) 2 (m : Nat) 20 7
  have KN := hide (pnumber_any t g o l base A n c xs w.heap.size 0 6 6 8 [23, a, 2, m, 20, 7] (w.alloc (.cells #[.int .u64 23, .int .u64 (a : Nat), .int .u64 2, .int .u64 (m : Nat), .int .u64 20, .int .u64 7] 23)) (h.below hb) (Nat.le_trans hbase hb.size) H1 (by omega) (fun e => by have := (hlt _ e).2; omega) (by intro v hv; simp at hv; omega) (by omega) hn (by omega))
  have Hb := hide hb
  clear hb hlt hgl H1 h
  go_enter Tryz.func79, Tryz.ntmps79
  go_wp2_with fail
  refine (unhide KN).mono ?_
  rintro e w1 ⟨rfl, A1, c1, hE, hK⟩
  have HE := hide (FiE.after (unhide Hb) hE)
  have HK := hide hK
  clear hE hK KN
  go_wp2_with fail
  go_end0
  exact ⟨rfl, A1, c1, by simpa [Mk.tell, Mk.entsB, Mk.pairB, Mk.lbs, List.append_assoc] using unhide HE, by simpa [Mk.tell] using unhide HK⟩
set_option maxRecDepth 100000 in
set_option maxHeartbeats 4000000 in
theorem tell4_any (t : TypeId) (g o : Nat) (l : List Value) (base : Nat) (A : Option Addr) (n c a m : Nat) (xs : List UInt8) (w : World) (h : FiM w t g o l base A n c xs) (hbase : base ≤ w.heap.size) (hn : n ≤ 17592186044416) (ha : a < 18446744073709551616) (hm : m ≤ 4294967296) :
    Calls Tryz.prog 80 #[.pointer (some ⟨g, o, none⟩), .int .u64 (a : Nat), .int .i64 (m : Nat)] w (TellE t g o l base A n c xs (Mk.tell 4 a m) w) := by
  have hb := below_al w (.cells #[.int .u64 5, .int .u64 (a : Nat), .int .u64 10, .int .u64 (m : Nat), .int .u64 0, .int .u64 0] 23)
  have hlt := h.lt
  have hgl := h.blk.lt
  have H1 := lit6 w 5 (a : Nat) 10 (m : Nat) 0 0
  have KN := hide (pnumber_any t g o l base A n c xs w.heap.size 0 6 6 8 [5, a, 10, m, 0, 0] (w.alloc (.cells #[.int .u64 5, .int .u64 (a : Nat), .int .u64 10, .int .u64 (m : Nat), .int .u64 0, .int .u64 0] 23)) (h.below hb) (Nat.le_trans hbase hb.size) H1 (by omega) (fun e => by have := (hlt _ e).2; omega) (by intro v hv; simp at hv; omega) (by omega) hn (by omega))
  have Hb := hide hb
  clear hb hlt hgl H1 h
  go_enter Tryz.func80, Tryz.ntmps80
  go_wp2_with fail
  refine (unhide KN).mono ?_
  rintro e w1 ⟨rfl, A1, c1, hE, hK⟩
  have HE := hide (FiE.after (unhide Hb) hE)
  have HK := hide hK
  clear hE hK KN
  go_wp2_with fail
  go_end0
  exact ⟨rfl, A1, c1, by simpa [Mk.tell, Mk.entsB, Mk.pairB, Mk.lbs, List.append_assoc] using unhide HE, by simpa [Mk.tell] using unhide HK⟩
theorem tell_any (k : Nat) (t : TypeId) (g o : Nat) (l : List Value) (base : Nat) (A : Option Addr) (n c a m : Nat) (xs : List UInt8) (w : World) (h : FiM w t g o l base A n c xs) (hbase : base ≤ w.heap.size) (hn : n ≤ 17592186044416) (ha : a < 18446744073709551616) (hm : m ≤ 4294967296) :
    Calls Tryz.prog (tellF k) #[.pointer (some ⟨g, o, none⟩), .int .u64 (a : Nat), .int .i64 (m : Nat)] w (TellE t g o l base A n c xs (Mk.tell k a m) w) := by
  match k with
  | 0 => exact tell0_any t g o l base A n c a m xs w h hbase hn ha hm
  | 1 => exact tell1_any t g o l base A n c a m xs w h hbase hn ha hm
  | 2 => exact tell2_any t g o l base A n c a m xs w h hbase hn ha hm
  | 3 => exact tell3_any t g o l base A n c a m xs w h hbase hn ha hm
  | k + 4 => exact tell4_any t g o l base A n c a m xs w h hbase hn ha hm
end Go.Proofs.YtnbecdahfgkffaaGreat
namespace Go.Proofs.YtnbecdahfgkffaaGreat
open Go.RowKit
structure PQ where
  k : Nat
  A : Option Addr
  n : Nat
  c : Nat
  b : List UInt8
def PQ.cells (q : PQ) : List Value := [.slice q.A q.n q.c, .func (.func (tellF q.k)) #[] #[]]
def partC (l : List PQ) : List Value := l.flatMap PQ.cells
def PQ.p (q : PQ) : Nat × List UInt8 := (q.k, q.b)
theorem partC_one (q : PQ) : partC [q] = q.cells := by simp [partC]
theorem partC_app (a b : List PQ) : partC (a ++ b) = partC a ++ partC b := by simp [partC]
theorem part_cell1 (l : List PQ) : ∀ u ∈ partC l, u.oneCell' = true := by
  intro u hu
  obtain ⟨q, -, hq⟩ := List.mem_flatMap.1 hu
  simp only [PQ.cells, List.mem_cons, List.not_mem_nil, or_false] at hq
  rcases hq with rfl | rfl <;> rfl
theorem part_at {w : World} {B n : Nat} {A : Option Addr} {l : List PQ} (h : Rd w B 2 A n (partC l)) {k : Nat} {x : PQ} (hk : l[k]? = some x) :
    ∃ b off, A = some ⟨b, off, none⟩ ∧ b < B ∧ w.cell? ⟨b, off + k * 2, none⟩ = some (.slice x.A x.n x.c) ∧ w.cell? ⟨b, off + k * 2 + 1, none⟩ = some (.func (.func (tellF x.k)) #[] #[]) := by
  have hc := flat_at PQ.cells 2 (fun _ => rfl) l k x hk
  obtain ⟨b, off, ea, hb, hx⟩ := h.open_ (by intro e0; have := hc 0 _ rfl; rw [show l.flatMap PQ.cells = partC l from rfl, e0] at this; simp at this)
  refine ⟨b, off, ea, hb, ?_, ?_⟩
  · exact hx _ _ (hc 0 _ rfl)
  · rw [Nat.add_assoc]; exact hx _ _ (hc 1 _ rfl)
theorem own_same {w w' : World} {base n c z : Nat} {A : Option Addr} {e : TypeId} {ys : List Value} (r : w.ownsRow base e z (.slice A n c) n ys) (hk : ∀ k, bk A = some k → w'.heap[k]? = w.heap[k]?) : w'.ownsRow base e z (.slice A n c) n ys := by
  refine ⟨r.1, r.2.imp id ?_⟩
  rintro ⟨k, cap, cur, e1, e2, e3, r'⟩
  have hk1 : bk A = some k := by injection e1 with e1; rw [e1]; rfl
  exact ⟨k, cap, cur, e1, e2, (hk k hk1).trans e3, r'⟩
structure PaS (h0 : Nat) (av : Nat → Prop) (w2 wr : World) (qs : List PQ) (Ap : Option Addr) (np cp : Nat) : Prop where
  below : Below w2.heap.size w2 wr
  row : wr.ownsRow w2.heap.size 158 2 (.slice Ap np cp) np (partC qs)
  len : np = qs.length
  own : ∀ q ∈ qs, wr.ownsRow h0 5 1 (.slice q.A q.n q.c) q.n (bys q.b) ∧ ∀ k, bk q.A = some k → bk Ap ≠ some k ∧ av k
section
variable {h0 np cp : Nat} {av : Nat → Prop} {w2 wr w' : World} {qs : List PQ} {Ap : Option Addr}
theorem PaS.nil : PaS h0 av w2 w2 [] none 0 0 := ⟨Below.refl _ _, World.ownsRow_nil _ _ _ _, rfl, fun q hq => by cases hq⟩
theorem PaS.size (h : PaS h0 av w2 wr qs Ap np cp) : w2.heap.size ≤ wr.heap.size := h.below.size
theorem PaS.calm (h : PaS h0 av w2 wr qs Ap np cp) (hb : Below wr.heap.size wr w') : PaS h0 av w2 w' qs Ap np cp :=
  ⟨h.below.trans (hb.mono h.size), own_below h.row hb, h.len, fun q hq => ⟨own_below (h.own q hq).1 hb, (h.own q hq).2⟩⟩
theorem PaS.add (h : PaS h0 av w2 wr qs Ap np cp) (new : List PQ) {A2 : Option Addr} {m c2 : Nat} (hm : m = new.length) (hnew : ∀ q ∈ new, wr.ownsRow h0 5 1 (.slice q.A q.n q.c) q.n (bys q.b) ∧ ∀ k, bk q.A = some k → bk Ap ≠ some k ∧ av k)
    (ho : w'.ownsRow w2.heap.size 158 2 (.slice A2 (np + m) c2) (np + m) (partC qs ++ partC new)) (hg : wr.grownBy w' (Value.slice Ap np cp).ownBlock) (ha : ∀ k, (Value.slice A2 (np + m) c2).ownBlock = some k → (Value.slice Ap np cp).ownBlock = some k ∨ wr.heap.size ≤ k) : PaS h0 av w2 w' (qs ++ new) A2 (np + m) c2 := by
  rw [own_bk] at hg
  simp only [own_bk] at ha
  refine ⟨h.below.grown hg h.size (fun k hk => (own_bklt h.row k hk).1), by rw [partC_app]; exact ho, by rw [h.len, hm, List.length_append], fun q hq => ?_⟩
  have hq' : wr.ownsRow h0 5 1 (.slice q.A q.n q.c) q.n (bys q.b) ∧ ∀ k, bk q.A = some k → bk Ap ≠ some k ∧ av k := by
    rcases List.mem_append.1 hq with hq | hq
    · exact h.own q hq
    · exact hnew q hq
  refine ⟨own_grownG hq'.1 hg (fun k hk => (hq'.2 k hk).1), fun k hk => ⟨fun e => ?_, (hq'.2 k hk).2⟩⟩
  rcases ha k e with h3 | h3
  · exact (hq'.2 k hk).1 h3
  · have := (own_bklt hq'.1 k hk).2; omega
end
structure PaF (h0 gs : Nat) (As : Option Addr) (w : World) (qs : List PQ) (Ap : Option Addr) (np cp : Nat) : Prop where
  row : w.ownsRow h0 158 2 (.slice Ap np cp) np (partC qs)
  rav : ∀ k, bk Ap = some k → k ≠ gs ∧ bk As ≠ some k
  len : np = qs.length
  own : ∀ q ∈ qs, w.ownsRow h0 5 1 (.slice q.A q.n q.c) q.n (bys q.b) ∧ ∀ k, bk q.A = some k → k ≠ gs ∧ bk As ≠ some k
section
variable {h0 gs np cp : Nat} {w2 wr w w' : World} {qs : List PQ} {Ap As : Option Addr}
theorem PaF.same (h : PaF h0 gs As w qs Ap np cp) (hs : ∀ k, h0 ≤ k → k < w.heap.size → k ≠ gs → bk As ≠ some k → w'.heap[k]? = w.heap[k]?) : PaF h0 gs As w' qs Ap np cp :=
  ⟨own_same h.row fun k hk => hs k (own_bklt h.row k hk).1 (own_bklt h.row k hk).2 (h.rav k hk).1 (h.rav k hk).2, h.rav, h.len, fun q hq => ⟨own_same (h.own q hq).1 fun k hk => hs k (own_bklt (h.own q hq).1 k hk).1 (own_bklt (h.own q hq).1 k hk).2 ((h.own q hq).2 k hk).1 ((h.own q hq).2 k hk).2, (h.own q hq).2⟩⟩
theorem PaF.calm (h : PaF h0 gs As w qs Ap np cp) (hb : Below w.heap.size w w') : PaF h0 gs As w' qs Ap np cp := h.same fun k _ h1 _ _ => hb.block k h1
theorem PaS.fix (h : PaS h0 (fun k => k ≠ gs ∧ bk As ≠ some k) w2 wr qs Ap np cp) (h1 : h0 ≤ w2.heap.size) (h2 : gs < w2.heap.size) (h3 : ∀ k, bk As = some k → k < w2.heap.size) : PaF h0 gs As wr qs Ap np cp :=
  ⟨own_base h.row h1, fun k hk => by
    have h4 := (own_bklt h.row k hk).1
    exact ⟨by omega, fun e => by have := h3 k e; omega⟩, h.len, fun q hq => ⟨(h.own q hq).1, fun k hk => ((h.own q hq).2 k hk).2⟩⟩
end
structure LoS (gf gs base : Nat) (l : List Value) (A As : Option Addr) (w w3 wr : World) (fs ss : List UInt8) (L : Option Nat) : Prop where
  st : ∃ Af nf cf A2 c2, FiE 71 gf 0 l base A w wr Af nf cf fs ∧ FiM wr 71 gs 0 [.slice A2 ss.length c2] w.heap.size A2 ss.length c2 ss ∧ (∀ k, bk A2 = some k → bk Af ≠ some k) ∧ bk Af ≠ some gs ∧ (∀ k, bk Af = some k → bk A = some k ∨ w3.heap.size ≤ k) ∧ (∀ k, bk A2 = some k → bk As = some k ∨ w3.heap.size ≤ k) ∧ (∀ k, L = some k → w.heap.size ≤ k ∧ k < wr.heap.size ∧ k ≠ gs ∧ bk Af ≠ some k ∧ bk A2 ≠ some k)
  keep : ∀ k, w.heap.size ≤ k → k < w3.heap.size → k ≠ gs → bk As ≠ some k → wr.heap[k]? = w3.heap[k]?
  hgs : w.heap.size ≤ gs
  hgf : gf < w.heap.size
  hA : ∀ k, bk A = some k → base ≤ k ∧ k < w.heap.size
  hb : base ≤ w.heap.size
  size : w3.heap.size ≤ wr.heap.size
  h3 : w.heap.size ≤ w3.heap.size
section
variable {gf gs base np cp : Nat} {l : List Value} {A As Ap : Option Addr} {w w3 wr w' : World} {fs ss ps : List UInt8} {qs : List PQ} {L : Option Nat}
theorem LoS.calm (h : LoS gf gs base l A As w w3 wr fs ss L) (hb : Below wr.heap.size wr w') : LoS gf gs base l A As w w3 w' fs ss L := by
  obtain ⟨Af, nf, cf, A2, c2, h1, h2, h3, h4, h5, h6, h7⟩ := h.st
  exact ⟨⟨Af, nf, cf, A2, c2, h1.then_ hb, h2.below hb, h3, h4, h5, h6, fun k hk => ⟨(h7 k hk).1, Nat.lt_of_lt_of_le (h7 k hk).2.1 hb.size, (h7 k hk).2.2⟩⟩, fun k k1 k2 k3 k4 => (hb.block k (Nat.lt_of_lt_of_le k2 h.size)).trans (h.keep k k1 k2 k3 k4), h.hgs, h.hgf, h.hA, h.hb, Nat.le_trans h.size hb.size, h.h3⟩
theorem LoS.drop (h : LoS gf gs base l A As w w3 wr fs ss L) : LoS gf gs base l A As w w3 wr fs ss none := by
  obtain ⟨Af, nf, cf, A2, c2, h1, h2, h3, h4, h5, h6, h7⟩ := h.st
  exact ⟨⟨Af, nf, cf, A2, c2, h1, h2, h3, h4, h5, h6, fun k hk => by cases hk⟩, h.keep, h.hgs, h.hgf, h.hA, h.hb, h.size, h.h3⟩
theorem LoS.lay (h : LoS gf gs base l A As w w3 wr fs ss L) (c : Obj) : LoS gf gs base l A As w w3 (wr.alloc c) fs ss (some wr.heap.size) := by
  obtain ⟨Af, nf, cf, A2, c2, h1, h2, h3, h4, h5, h6, h7⟩ := (h.calm (below_al wr c)).st
  obtain ⟨Af', nf', cf', A2', c2', g1, g2, -⟩ := h.st
  have h0 := h.calm (below_al wr c)
  obtain ⟨Ag, ng, cg, A3, c3, k1, k2, k3, k4, k5, k6, k7⟩ := h.st
  have hb := below_al wr c
  refine ⟨⟨Ag, ng, cg, A3, c3, k1.then_ hb, k2.below hb, k3, k4, k5, k6, fun k hk => ?_⟩, h0.keep, h.hgs, h.hgf, h.hA, h.hb, h0.size, h.h3⟩
  injection hk with hk
  subst hk
  refine ⟨k1.size, by simp, fun e => ?_, fun e => ?_, fun e => ?_⟩
  · have := k2.blk.lt; omega
  · have := (k1.m.lt _ e).2; omega
  · have := (k2.lt _ e).2; omega
theorem LoS.parts (h : LoS gf gs base l A As w w3 wr fs ss L) (p : PaF w.heap.size gs As w3 qs Ap np cp) : PaF w.heap.size gs As wr qs Ap np cp := p.same h.keep
theorem LoS.blk (h : LoS gf gs base l A As w w3 wr fs ss L) {k : Nat} {t : TypeId} {l2 : List Value} (b : Blk w3 k t l2) (h1 : w.heap.size ≤ k) (h2 : k ≠ gs) (h3 : bk As ≠ some k) : Blk wr k t l2 := (h.keep k h1 b.lt h2 h3).trans b
theorem LoS.bind (h : LoS gf gs base l A As w w3 wr fs ss L) {fs' ss' : List UInt8} (h1 : fs = fs') (h2 : ss = ss') : LoS gf gs base l A As w w3 wr fs' ss' L := by subst h1 h2; exact h
theorem LoS.callPut (h : LoS gf gs base l A As w w3 wr fs ss L) (hfs : fs.length ≤ 4294967296) (r : w3.ownsRow w.heap.size 5 1 (.slice Ap np cp) np (bys ps)) (hav : ∀ k, bk Ap = some k → k ≠ gs ∧ bk As ≠ some k) (hnp : np ≤ 4294967296) :
    Calls Tryz.prog 28 #[.pointer (some ⟨gf, 0, none⟩), .slice Ap np cp] wr fun e w' => e = .returned (.int .u64 ((Mk.pad 8 fs).length : Nat)) ∧ LoS gf gs base l A As w w3 w' (Mk.pad 8 fs ++ ps) ss L ∧ ∀ k, L = some k → w'.heap[k]? = wr.heap[k]? := by
  obtain ⟨Af, nf, cf, A2, c2, h1, h2, h3, h4, h5, h6, h7⟩ := h.st
  have hlt := own_bklt r
  have r1 := own_same r fun k hk => h.keep k (hlt k hk).1 (hlt k hk).2 (hav k hk).1 (hav k hk).2
  have hl := h1.m.len
  have hgf := h.hgf
  have hh3 := h.h3
  have hwr := h1.size
  refine (pput_any _ gf 0 _ base Af nf cf fs Ap np cp ps wr h1.m (Nat.le_trans h.hb h1.size) (by omega) hnp (Rd.of_own r1) (fun e => by have := (hlt _ e).1; omega) (fun k hk e => ?_)).mono ?_
  · rcases h5 k e with h9 | h9
    · have := (h.hA k h9).2; have := (hlt k hk).1; omega
    · have := (hlt k hk).2; omega
  rintro e w' ⟨A9, n9, c9, rfl, E⟩
  have hgs := h.hgs
  have hgsw := h2.blk.lt
  have hEs := E.size
  obtain ⟨m1, m2⟩ := h2.aside E (by omega) h4 (fun e => by have := (h2.lt _ e).1; omega) h3
  refine ⟨rfl, ⟨⟨A9, n9, c9, A2, c2, h1.trans E, m1, m2, fun e => ?_, fun k hk => ?_, h6, fun k hk => ?_⟩, fun k k1 k2 k3 k4 => (E.block k (Nat.lt_of_lt_of_le k2 h.size) (by omega) (fun e => ?_)).trans (h.keep k k1 k2 k3 k4), h.hgs, h.hgf, h.hA, h.hb, Nat.le_trans h.size E.size, h.h3⟩, fun k hk => ?_⟩
  · rcases E.at_ _ e with h9 | h9
    · exact h4 h9
    · omega
  · rcases E.at_ _ hk with h9 | h9
    · exact h5 k h9
    · exact .inr (Nat.le_trans h.size h9)
  · obtain ⟨q1, q2, q3, q4, q5⟩ := h7 k hk
    refine ⟨q1, by omega, q3, fun e => ?_, q5⟩
    rcases E.at_ _ e with h9 | h9
    · exact q4 h9
    · omega
  · rcases h5 k e with h9 | h9
    · have := (h.hA k h9).2; omega
    · omega
  · obtain ⟨q1, q2, q3, q4, q5⟩ := h7 k hk
    exact E.block k q2 (by omega) q4
theorem LoS.callTell (h : LoS gf gs base l A As w w3 wr fs ss L) (k a m : Nat) (ai mi : Int) (hai : ai = (a : Nat)) (hmi : mi = (m : Nat)) (hss : ss.length ≤ 17592186044416) (ha : a < 18446744073709551616) (hm : m ≤ 4294967296) :
    Calls Tryz.prog (tellF k) #[.pointer (some ⟨gs, 0, none⟩), .int .u64 ai, .int .i64 mi] wr fun e w' => e = .returned (.tuple #[]) ∧ LoS gf gs base l A As w w3 w' fs (ss ++ Mk.entsB (Mk.tell k a m)) L ∧ ∀ k, L = some k → w'.heap[k]? = wr.heap[k]? := by
  subst hai hmi
  obtain ⟨Af, nf, cf, A2, c2, h1, h2, h3, h4, h5, h6, h7⟩ := h.st
  have hgs := h.hgs
  have hgf := h.hgf
  have hlt := h2.lt
  refine (tell_any k _ gs 0 _ w.heap.size A2 ss.length c2 a m ss wr h2 h1.size hss ha hm).mono ?_
  rintro e w' ⟨rfl, A9, c9, E, -⟩
  have hn : ss.length + 16 * (Mk.tell k a m).length = (ss ++ Mk.entsB (Mk.tell k a m)).length := by rw [List.length_append, entsB_len]
  rw [hn] at E
  have hEs := E.size
  obtain ⟨m1, m2⟩ := h1.aside E hgs (fun k hk => (hlt k hk).1) (by omega) (fun e => by have := (hlt _ e).1; omega) h4 (fun k k1 k2 => h3 k k2 k1)
  refine ⟨rfl, ⟨⟨Af, nf, cf, A9, c9, m1, E.m, fun k k1 k2 => m2 k k2 k1, h4, h5, fun k hk => ?_, fun k hk => ?_⟩, fun k k1 k2 k3 k4 => (E.block k (Nat.lt_of_lt_of_le k2 h.size) k3 (fun e => ?_)).trans (h.keep k k1 k2 k3 k4), h.hgs, h.hgf, h.hA, h.hb, Nat.le_trans h.size E.size, h.h3⟩, fun k hk => ?_⟩
  · rcases E.at_ _ hk with h9 | h9
    · exact h6 k h9
    · exact .inr (Nat.le_trans h.size h9)
  · obtain ⟨q1, q2, q3, q4, q5⟩ := h7 k hk
    refine ⟨q1, by omega, q3, q4, fun e => ?_⟩
    rcases E.at_ _ e with h9 | h9
    · exact q5 h9
    · omega
  · rcases h6 k e with h9 | h9
    · exact k4 h9
    · omega
  · obtain ⟨q1, q2, q3, q4, q5⟩ := h7 k hk
    exact E.block k q2 q3 q5
end
end Go.Proofs.YtnbecdahfgkffaaGreat
namespace Go.Proofs.YtnbecdahfgkffaaGreat
open Go.RowKit
theorem textInfo : (Tryz.prog.info? 9).map (fun i => (i.zero, i.size, i.bytes)) = some (some (.string ⟨#[]⟩), 1, 16) := by kernel_rfl
theorem strs_at {b : List ByteArray} {i : Nat} {x : ByteArray} (h : b[i]? = some x) : (b.map Value.string)[i]? = some (.string x) := by simp [h]
def backToT (b : List ByteArray) (k : Nat) : List Value := List.replicate k (.string ⟨#[]⟩) ++ (b.drop k).map Value.string
theorem backToT_set {b : List ByteArray} {k : Nat} {x : ByteArray} (h : b[k]? = some x) : (backToT b (k + 1)).set k (.string x) = backToT b k := by
  unfold backToT
  rw [List.drop_eq_getElem_cons (i := k) (by have := (List.getElem?_eq_some_iff.1 h).1; exact this)]
  have hx : b[k]'((List.getElem?_eq_some_iff.1 h).1) = x := (List.getElem?_eq_some_iff.1 h).2
  rw [hx, List.replicate_succ', List.append_assoc]
  rw [List.set_append]
  simp
set_option maxRecDepth 20000 in
set_option maxHeartbeats 1000000 in
theorem copyTexts_any (A : Option Addr) (m c B : Nat) (b : List ByteArray) (w : World) (hB : B ≤ w.heap.size) (hb : Rd w B 1 A m (b.map Value.string)) (hm : m ≤ 4294967296) :
    Calls Tryz.prog 67 #[.slice A m c] w fun e w' => ∃ A' c', e = .returned (.slice A' m c') ∧ w'.ownsRow w.heap.size 9 1 (.slice A' m c') m (b.map Value.string) ∧ Below w.heap.size w w' := by
  have hbl : b.length = m := by simpa using hb.len1
  rcases Nat.eq_zero_or_pos m with rfl | hpos
  · have hb0 : b = [] := List.eq_nil_of_length_eq_zero hbl
    subst hb0
    clear hb hbl
    go_enter Tryz.func67, Tryz.ntmps67
    go_wp2
    go_ret
    exact ⟨none, 0, rfl, World.ownsRow_nil _ _ _ _, Below.refl _ _⟩
  have hne : decide (m = 0) = false := by simp; omega
  obtain ⟨i, hi, hz0, hz1, hz2⟩ := info_parts textInfo
  have Hb := hide hb
  have Hbl := hide hbl
  have Hi := hide hi
  have Hz0 := hide hz0
  have Hz1 := hide hz1
  have Hz2 := hide hz2
  clear hb hbl hi hz0 hz1 hz2
  go_enter Tryz.func67, Tryz.ntmps67
  go_wp2_with (at_make; refine wpList_make_full _ rfl _ _ 25 rfl w.heap.size 9 i (.string ⟨#[]⟩) 1 Tryz.underlying25 (unhide Hi) (unhide Hz0) (unhide Hz1) _ _ _ _ m rfl rfl rfl rfl (by rw [unhide Hz2]; omega) (by unfold maxLen; omega) (Nat.le_refl _) ?_; intro w1 hown hgrow; have hb1 := (Below.refl w.heap.size w).grown hgrow (Nat.le_refl _) (fun k hk => by cases hk); have Hown := hide hown; have Hb1 := hide hb1; clear hown hgrow hb1)
  go_loopw [4] (fun at_ wr => ∃ k : Nat, k ≤ m ∧ at_ = .int .i64 ((k : Int) - 1) ∧ wr.ownsRow w.heap.size 9 1 (.slice (some ⟨w.heap.size, 0, none⟩) m m) m (backToT b k) ∧ Below w.heap.size w wr) (fun at_ _ => (intOf at_ + 1).toNat)
  case atStart =>
    refine ⟨m, Nat.le_refl _, rfl, ?_, unhide Hb1⟩
    have := unhide Hown
    have e : (madeCells (Value.string ⟨#[]⟩).cells (m * 1)).toList = backToT b m := by
      unfold backToT
      rw [List.drop_eq_nil_of_le (by rw [unhide Hbl]; exact Nat.le_refl _)]
      simp [Value.cells, toList_madeCells_one]
    rwa [e] at this
  case round =>
  clear Hown Hb1
  obtain ⟨k, hk, rfl, hown, hb2⟩ := hrel
  have Hown := hide hown
  have Hb2 := hide hb2
  clear hown hb2
  by_cases hk0 : k = 0
  · subst hk0
    go_wp2
    go_ret
    refine ⟨_, _, rfl, ?_, unhide Hb2⟩
    have := unhide Hown
    simpa [backToT] using this
  · obtain ⟨j, rfl⟩ : ∃ j, k = j + 1 := ⟨k - 1, by omega⟩
    obtain ⟨x, hx⟩ : ∃ x, b[j]? = some x := ⟨_, List.getElem?_eq_getElem (by rw [unhide Hbl]; omega)⟩
    obtain ⟨ab, ao, rfl, hlt, hc⟩ := ((unhide Hb).below ((unhide Hb2).mono hB)).at_ (strs_at hx)
    have hset := own_set (i := j) (unhide Hown) (.string x)
    rw [backToT_set hx] at hset
    have hcl : (backToT b (j + 1))[j]? = some (.string ⟨#[]⟩) := by simp [backToT, List.getElem?_append]
    have hc2 := own_cell (unhide Hown) hcl
    have hf2 := own_free (unhide Hown) j
    have hge := own_at (unhide Hown)
    have e1 : ((j + 1 : Nat) : Int) - 1 = (j : Int) := by omega
    rw [e1]
    have Hset := hide hset
    clear hset hcl hx
    go_wp2
    go_roundw
    case rel => exact ⟨j, by omega, rfl, unhide Hset, (unhide Hb2).setCell (Nat.le_refl _) _⟩
    case measure => simp [intOf]
end Go.Proofs.YtnbecdahfgkffaaGreat
namespace Go.Proofs.YtnbecdahfgkffaaGreat
open Go.RowKit
theorem symC_one (l : List Dy.Sym) : ∀ u ∈ symC l, u.oneCell' = true := by
  intro u hu
  obtain ⟨r, -, hr⟩ := List.mem_flatMap.1 hu
  simp only [symV, List.mem_cons, List.not_mem_nil, or_false] at hr
  rcases hr with rfl | rfl | rfl | rfl | rfl <;> rfl
theorem mrC_one (l : List Mk.Rel) : ∀ u ∈ mrC l, u.oneCell' = true := by
  intro u hu
  obtain ⟨r, -, hr⟩ := List.mem_flatMap.1 hu
  simp only [mrV, List.mem_cons, List.not_mem_nil, or_false] at hr
  rcases hr with rfl | rfl | rfl | rfl <;> rfl
theorem dynInfo : (Tryz.prog.info? 29).map (·.size) = some 5 := by kernel_rfl
theorem apiInfo : (Tryz.prog.info? 31).map (·.size) = some 13 := by kernel_rfl
theorem dq_one (q : Dq) : q.l.toArray.all (·.oneCell') = true := by simp [Dq.l, Value.oneCell']
theorem xq_one (s : Xq) : s.l.toArray.all (·.oneCell') = true := by simp [Xq.l, Value.oneCell']
theorem below_set {B : Nat} {a w : World} (h : Below B a w) {p : Addr} (hp : B ≤ p.block) (u : Value) : Below B a (w.setCell p u) :=
  ⟨h.os, h.tape, h.output, by simpa using h.size, fun k hk => (heap_setCell_other _ _ _ _ (by omega)).trans (h.block k hk)⟩
theorem Rd.setC {w : World} {B size n : Nat} {A : Option Addr} {xs : List Value} (h : Rd w B size A n xs) {p : Addr} (hp : bk A ≠ some p.block) (u : Value) : Rd (w.setCell p u) B size A n xs := by
  refine ⟨h.1, h.2.imp id ?_⟩
  rintro ⟨b, off, e, hb, hc⟩
  refine ⟨b, off, e, hb, fun j v hv => ?_⟩
  rw [cell_blk (heap_setCell_other w p b u (fun e2 => hp (by rw [e, ← e2]; rfl)))]
  exact hc j v hv
theorem own_setCells {base n c z b : Nat} {A : Option Addr} {e : TypeId} {xs : List Value} (hp : bk A ≠ some b) : ∀ (vs : List Value) (o : Nat) (w : World), w.ownsRow base e z (.slice A n c) n xs → (w.setCells b o vs).ownsRow base e z (.slice A n c) n xs
  | [], _, _, h => h
  | v :: r, o, w, h => own_setCells hp r (o + 1) _ (own_setG h (p := ⟨b, o, none⟩) hp v)
theorem below_setCells {B b : Nat} {a : World} (hp : B ≤ b) : ∀ (vs : List Value) (o : Nat) (w : World), Below B a w → Below B a (w.setCells b o vs)
  | [], _, _, h => h
  | v :: r, o, w, h => below_setCells hp r (o + 1) _ (below_set h (p := ⟨b, o, none⟩) hp v)
theorem Rd.setCells {B n z b : Nat} {A : Option Addr} {xs : List Value} (hp : bk A ≠ some b) : ∀ (vs : List Value) (o : Nat) (w : World), Rd w B z A n xs → Rd (w.setCells b o vs) B z A n xs
  | [], _, _, h => h
  | v :: r, o, w, h => Rd.setCells hp r (o + 1) _ (Rd.setC h (p := ⟨b, o, none⟩) hp v)
theorem size_setCells {b : Nat} : ∀ (vs : List Value) (o : Nat) (w : World), (w.setCells b o vs).heap.size = w.heap.size
  | [], _, _ => rfl
  | v :: r, o, w => by rw [World.setCells, size_setCells r (o + 1)]; simp
theorem Rd.setRowN {w : World} {B size n k : Nat} {A : Option Addr} {xs : List Value} (h : Rd w B size A n xs) (hp : bk A ≠ some k) (cs : Array Value) : Rd (w.setRow k cs) B size A n xs := by
  refine ⟨h.1, h.2.imp id ?_⟩
  rintro ⟨b, off, e, hb, hc⟩
  refine ⟨b, off, e, hb, fun j v hv => ?_⟩
  rw [cell_blk (setRow_other w k b cs (fun e2 => hp (by rw [e, ← e2]; rfl)))]
  exact hc j v hv
theorem own_setRowN {w : World} {base n c z k : Nat} {A : Option Addr} {e : TypeId} {xs : List Value} (h : w.ownsRow base e z (.slice A n c) n xs) (hp : bk A ≠ some k) (cs : Array Value) : (w.setRow k cs).ownsRow base e z (.slice A n c) n xs :=
  own_same h fun j hj => setRow_other w k j cs (fun e => hp (by rw [← e]; exact hj))
theorem own_capG {w : World} {base n c size : Nat} {e : TypeId} {A : Option Addr} {xs : List Value} (h : w.ownsRow base e size (.slice A n c) n xs) : n ≤ c := by
  rcases h.2 with ⟨e1, h0⟩ | ⟨g, cap, cur, e1, e2, e3, h4, -⟩
  · injection e1 with _ _ e3; omega
  · injection e1 with _ _ e3; omega
def Copy13E (q : Dq) (w : World) (e : Ending) (w' : World) : Prop := ∃ q' : Dq, q'.d = q.d ∧ e = .returned (.agg q'.l.toArray) ∧ DqM w' w'.heap.size q' ∧ (q.d.needed.length ≤ q'.c1 ∧ q.d.syms.length ≤ q'.c2 ∧ q.d.relas.length ≤ q'.c3) ∧ Below w.heap.size w w' ∧ (∀ k, bk q'.A1 = some k → w.heap.size ≤ k) ∧ (∀ k, bk q'.A2 = some k → w.heap.size ≤ k) ∧ ∀ k, bk q'.A3 = some k → w.heap.size ≤ k
set_option maxRecDepth 100000 in
set_option maxHeartbeats 60000000 in
theorem rcopy13_any (q : Dq) (B : Nat) (w : World) (hB : B ≤ w.heap.size) (h : DqM w B q) (h1 : q.d.needed.length ≤ 1048576) (h2 : q.d.syms.length ≤ 1048576) (h3 : q.d.relas.length ≤ 1048576) :
    Calls Tryz.prog 24 #[.agg q.l.toArray] w (Copy13E q w) := by
  have e1 : (w.alloc (.cells #[.slice q.A1 q.d.needed.length q.c1, .string q.d.soname, .string q.d.run, .slice q.A2 q.d.syms.length q.c2, .slice q.A3 q.d.relas.length q.c3] 29)).heap.size = w.heap.size + 1 := by simp
  have e2 : ((w.alloc (.cells #[.slice q.A1 q.d.needed.length q.c1, .string q.d.soname, .string q.d.run, .slice q.A2 q.d.syms.length q.c2, .slice q.A3 q.d.relas.length q.c3] 29)).alloc (.cells #[.slice none 0 0, .string ⟨#[]⟩, .string ⟨#[]⟩, .slice none 0 0, .slice none 0 0] 29)).heap.size = w.heap.size + 1 + 1 := by simp
  have hb1 : Below w.heap.size w ((w.alloc (.cells #[.slice q.A1 q.d.needed.length q.c1, .string q.d.soname, .string q.d.run, .slice q.A2 q.d.syms.length q.c2, .slice q.A3 q.d.relas.length q.c3] 29)).alloc (.cells #[.slice none 0 0, .string ⟨#[]⟩, .string ⟨#[]⟩, .slice none 0 0, .slice none 0 0] 29)) := ((Below.refl _ _).alloc (Nat.le_refl _) _).alloc (by simp) _
  have hd : Blk ((w.alloc (.cells #[.slice q.A1 q.d.needed.length q.c1, .string q.d.soname, .string q.d.run, .slice q.A2 q.d.syms.length q.c2, .slice q.A3 q.d.relas.length q.c3] 29)).alloc (.cells #[.slice none 0 0, .string ⟨#[]⟩, .string ⟨#[]⟩, .slice none 0 0, .slice none 0 0] 29)) w.heap.size 29 q.l := (Blk.new w 29 q.l).alloc (.cells #[.slice none 0 0, .string ⟨#[]⟩, .string ⟨#[]⟩, .slice none 0 0, .slice none 0 0] 29)
  have hz := Blk.new (w.alloc (.cells #[.slice q.A1 q.d.needed.length q.c1, .string q.d.soname, .string q.d.run, .slice q.A2 q.d.syms.length q.c2, .slice q.A3 q.d.relas.length q.c3] 29)) 29 [.slice none 0 0, .string ⟨#[]⟩, .string ⟨#[]⟩, .slice none 0 0, .slice none 0 0]
  rw [e1] at hz
  have hq := h.below (hb1.mono hB)
  have y3 := hd.cell (i := 3) (u := .slice q.A2 q.d.syms.length q.c2) rfl
  have y4 := hd.cell (i := 4) (u := .slice q.A3 q.d.relas.length q.c3) rfl
  have y0 := hd.cell (i := 0) (u := .slice q.A1 q.d.needed.length q.c1) rfl
  have Hb1 := hide hb1
  have Hd := hide hd
  have Hz := hide hz
  have Hq := hide hq
  have Hn0 := hide (World.ownsRow_nil ((w.alloc (.cells #[.slice q.A1 q.d.needed.length q.c1, .string q.d.soname, .string q.d.run, .slice q.A2 q.d.syms.length q.c2, .slice q.A3 q.d.relas.length q.c3] 29)).alloc (.cells #[.slice none 0 0, .string ⟨#[]⟩, .string ⟨#[]⟩, .slice none 0 0, .slice none 0 0] 29)) (w.heap.size + 1 + 1) 48 5)
  have hs2 : w.heap.size + 1 + 1 ≤ ((w.alloc (.cells #[.slice q.A1 q.d.needed.length q.c1, .string q.d.soname, .string q.d.run, .slice q.A2 q.d.syms.length q.c2, .slice q.A3 q.d.relas.length q.c3] 29)).alloc (.cells #[.slice none 0 0, .string ⟨#[]⟩, .string ⟨#[]⟩, .slice none 0 0, .slice none 0 0] 29)).heap.size := by rw [e2]; exact Nat.le_refl _
  show Calls _ _ #[.agg #[.slice q.A1 q.d.needed.length q.c1, .string q.d.soname, .string q.d.run, .slice q.A2 q.d.syms.length q.c2, .slice q.A3 q.d.relas.length q.c3]] w _
  clear hb1 hd hz hq h e1 e2 y0 y4
  go_enter Tryz.func24, Tryz.ntmps24
  go_upto_region 3 with fail
  generalize ((w.alloc (.cells #[.slice q.A1 q.d.needed.length q.c1, .string q.d.soname, .string q.d.run, .slice q.A2 q.d.syms.length q.c2, .slice q.A3 q.d.relas.length q.c3] 29)).alloc (.cells #[.slice none 0 0, .string ⟨#[]⟩, .string ⟨#[]⟩, .slice none 0 0, .slice none 0 0] 29)) = W at *
  go_cut [3] (fun sv wx => ∃ (A : Option Addr) (c : Nat), sv = .slice A q.d.syms.length c ∧ wx.ownsRow (w.heap.size + 1 + 1) 48 5 (.slice A q.d.syms.length c) q.d.syms.length (symC q.d.syms) ∧ Below W.heap.size W wx)
  case first =>
    go_wp2_with (at_builtin; refine wpList_app syTy rfl _ _ rfl (w.heap.size + 1 + 1) (.slice none 0 0) 0 _ rfl (unhide Hn0) B q.A2 q.d.syms.length q.c2 (symC q.d.syms) rfl (unhide Hq).syms (symC_one _) (by omega) hs2 ?_; intro A5 c5 w5 ho5 hg5 ha5; have HO5 := hide ho5; have HB5 := hide ((Below.refl W.heap.size W).grown hg5 (Nat.le_refl _) (fun k hk => by cases hk)); clear ho5 hg5 ha5)
    go_meet
    case rel =>
      refine ⟨A5, c5, by first | rfl | simp, ?_, unhide HB5⟩
      have h9 := unhide HO5
      simp only [Nat.zero_add, List.nil_append] at h9
      exact h9
  case rest =>
    obtain ⟨As, cs, rfl, hoS, hbS⟩ := hcut
    have y4 := ((unhide Hd).belowSz hbS).cell (i := 4) (u := .slice q.A3 q.d.relas.length q.c3) rfl
    have Hn0' := hide (World.ownsRow_nil wc (w.heap.size + 1 + 1) 141 4)
    have HqS := hide ((unhide Hq).below (hbS.mono (by omega)))
    have hs3 : w.heap.size + 1 + 1 ≤ wc.heap.size := by have := hbS.size; omega
    have HoS := hide hoS
    have HbS := hide hbS
    obtain ⟨w3, hw3⟩ : ∃ w3, w3 = wc := ⟨_, rfl⟩
    rw [← hw3] at y4 Hn0' HqS hs3 HoS HbS ⊢
    clear hoS hbS y3 hw3
    go_upto_region 4 with fail
    go_cut [4] (fun sv wx => ∃ (A : Option Addr) (c : Nat), sv = .slice A q.d.relas.length c ∧ wx.ownsRow (w.heap.size + 1 + 1) 141 4 (.slice A q.d.relas.length c) q.d.relas.length (mrC q.d.relas) ∧ Below w3.heap.size w3 wx)
    case first =>
      go_wp2_with (at_builtin; refine wpList_app reTy rfl _ _ rfl (w.heap.size + 1 + 1) (.slice none 0 0) 0 _ rfl (unhide Hn0') B q.A3 q.d.relas.length q.c3 (mrC q.d.relas) rfl (unhide HqS).relas (mrC_one _) (by omega) hs3 ?_; intro A5 c5 w5 ho5 hg5 ha5; have HO5 := hide ho5; have HB5 := hide ((Below.refl w3.heap.size w3).grown hg5 (Nat.le_refl _) (fun k hk => by cases hk)); clear ho5 hg5 ha5)
      go_meet
      case rel =>
        refine ⟨A5, c5, by first | rfl | simp, ?_, unhide HB5⟩
        have h9 := unhide HO5
        simp only [Nat.zero_add, List.nil_append] at h9
        exact h9
    case rest =>
      obtain ⟨Ar, cr, rfl, hoR, hbR⟩ := hcut
      have hb4 := (unhide HbS).trans (hbR.mono (unhide HbS).size)
      have hd4 := (unhide Hd).belowSz hb4
      have hz4 := (unhide Hz).belowSz hb4
      have y0 := hd4.cell (i := 0) (u := .slice q.A1 q.d.needed.length q.c1) rfl
      have hs4 : w.heap.size + 1 + 1 ≤ wc.heap.size := by have := hb4.size; omega
      have KT := hide (copyTexts_any q.A1 q.d.needed.length q.c1 B q.d.needed wc (by omega) ((unhide Hq).below (hb4.mono (by omega))).needed (by omega))
      have HoS4 := hide (own_below (unhide HoS) hbR)
      have HoR := hide hoR
      have Hb4 := hide ((unhide Hb1).trans (hb4.mono (by omega)))
      have Hd4 := hide hd4
      have Hz4 := hide hz4
      clear hoR hbR hb4 hd4 hz4 y4 HoS HbS Hn0' Hn0 HqS Hq Hb1 Hd Hz
      go_wp2_with fail
      refine (unhide KT).mono ?_
      rintro e w5 ⟨A5, c5, rfl, hoT, hb5⟩
      have hd5 := (unhide Hd4).belowSz hb5
      have hz5 := (unhide Hz4).belowSz hb5
      have hoS5 := own_below (unhide HoS4) hb5
      have hoR5 := own_below (unhide HoR) hb5
      have hbT := (unhide Hb4).trans (hb5.mono (by omega))
      have hltS := own_bklt hoS5
      have hltR := own_bklt hoR5
      have hltT := own_bklt hoT
      have z0 := hd5.free 0
      have hd6 := hd5.set 0 (.slice A5 q.d.needed.length c5)
      have z3 := hd6.free 3
      have hd7 := hd6.set 3 (.slice As q.d.syms.length cs)
      have z4 := hd7.free 4
      have hd8 := hd7.set 4 (.slice Ar q.d.relas.length cr)
      have x0 := hd5.cell (i := 0) (u := .slice q.A1 q.d.needed.length q.c1) rfl
      have x3 := hd6.cell (i := 3) (u := .slice q.A2 q.d.syms.length q.c2) rfl
      have x4 := hd7.cell (i := 4) (u := .slice q.A3 q.d.relas.length q.c3) rfl
      obtain ⟨q', hq'⟩ : ∃ q' : Dq, q' = ⟨q.d, A5, c5, As, cs, Ar, cr⟩ := ⟨_, rfl⟩
      have hc := And.intro (hd8.cell (i := 0) (u := .slice A5 q.d.needed.length c5) rfl) (And.intro (hd8.cell (i := 1) (u := .string q.d.soname) rfl) (And.intro (hd8.cell (i := 2) (u := .string q.d.run) rfl) (And.intro (hd8.cell (i := 3) (u := .slice As q.d.syms.length cs) rfl) (hd8.cell (i := 4) (u := .slice Ar q.d.relas.length cr) rfl))))
      obtain ⟨c0, c1, c2, c3, c4⟩ := hc
      have hz8 := ((hz5.other (by show w.heap.size ≠ w.heap.size + 1; omega) (.slice A5 q.d.needed.length c5) (p := ⟨w.heap.size, 0, none⟩)).other (by show w.heap.size ≠ w.heap.size + 1; omega) (.slice As q.d.syms.length cs) (p := ⟨w.heap.size, 3, none⟩)).other (by show w.heap.size ≠ w.heap.size + 1; omega) (.slice Ar q.d.relas.length cr) (p := ⟨w.heap.size, 4, none⟩)
      have hn5 : bk A5 ≠ some w.heap.size := fun e => by have := (hltT _ e).1; omega
      have hnS : bk As ≠ some w.heap.size := fun e => by have := (hltS _ e).1; omega
      have hnR : bk Ar ≠ some w.heap.size := fun e => by have := (hltR _ e).1; omega
      have oT := own_setG (own_setG (own_setG hoT (p := ⟨w.heap.size, 0, none⟩) hn5 (.slice A5 q.d.needed.length c5)) (p := ⟨w.heap.size, 3, none⟩) hn5 (.slice As q.d.syms.length cs)) (p := ⟨w.heap.size, 4, none⟩) hn5 (.slice Ar q.d.relas.length cr)
      have oS := own_setG (own_setG (own_setG hoS5 (p := ⟨w.heap.size, 0, none⟩) hnS (.slice A5 q.d.needed.length c5)) (p := ⟨w.heap.size, 3, none⟩) hnS (.slice As q.d.syms.length cs)) (p := ⟨w.heap.size, 4, none⟩) hnS (.slice Ar q.d.relas.length cr)
      have oR := own_setG (own_setG (own_setG hoR5 (p := ⟨w.heap.size, 0, none⟩) hnR (.slice A5 q.d.needed.length c5)) (p := ⟨w.heap.size, 3, none⟩) hnR (.slice As q.d.syms.length cs)) (p := ⟨w.heap.size, 4, none⟩) hnR (.slice Ar q.d.relas.length cr)
      have hbF := below_set (below_set (below_set hbT (p := ⟨w.heap.size, 0, none⟩) (Nat.le_refl _) (.slice A5 q.d.needed.length c5)) (p := ⟨w.heap.size, 3, none⟩) (Nat.le_refl _) (.slice As q.d.syms.length cs)) (p := ⟨w.heap.size, 4, none⟩) (Nat.le_refl _) (.slice Ar q.d.relas.length cr)
      have HoT := hide oT
      have HoSf := hide oS
      have HoRf := hide oR
      have HbF := hide hbF
      have Hz8 := hide hz8
      have Hfr := hide (And.intro (fun k hk => show w.heap.size ≤ k by have := (hltT k hk).1; omega) (And.intro (fun k hk => show w.heap.size ≤ k by have := (hltS k hk).1; omega) (fun k hk => show w.heap.size ≤ k by have := (hltR k hk).1; omega)))
      have Hcaps := hide (And.intro (own_capG hoT) (And.intro (own_capG hoS5) (own_capG hoR5)))
      have hs5 := hb5.size
      clear hd5 hz5 hoS5 hoR5 hbT hltS hltR hltT hd6 hd7 hd8 hz8 oT oS oR hbF hoT hb5 KT Hd4 Hz4 HoS4 HoR Hb4 y0
      go_wp2_with ((with_reducible refine (@id (wpList _ _ _ (Oper.mk none (Op.store 29 (.tmp 2) (.tmp 21)) _ _ _ none :: _) _ _) ?_)); refine wpList_store_row rfl 29 (.tmp 2) (.tmp 21) rfl (w.heap.size + 1) (Dq.l ⟨q.d, A5, c5, As, cs, Ar, cr⟩).toArray rfl rfl 29 _ (unhide Hz8) dynInfo rfl (dq_one _) ?_)
      refine bodyPost_ret (results_cell_row (P := Tryz.prog) rfl _ _ (w.heap.size + 1) 29 (Dq.l ⟨q.d, A5, c5, As, cs, Ar, cr⟩).toArray (0, 0) _ rfl (setRow_heap _ _ _ _ _ _ (unhide Hz8)) Tryz.underlying29 rfl dynInfo) rfl ?_
      exact ⟨⟨q.d, A5, c5, As, cs, Ar, cr⟩, rfl, rfl, ⟨Rd.of_own (own_setRowG (unhide HoT) (by omega) _), Rd.of_own (own_setRowG (unhide HoSf) (by omega) _), Rd.of_own (own_setRowG (unhide HoRf) (by omega) _)⟩, unhide Hcaps, below_setRow (unhide HbF) (by omega) _, (unhide Hfr).1, (unhide Hfr).2.1, (unhide Hfr).2.2⟩
def CopiedE (s : Xq) (w : World) (e : Ending) (w' : World) : Prop := ∃ s' : Xq, s'.x = s.x ∧ e = .returned (.agg s'.l.toArray) ∧ XqM w' w'.heap.size s' ∧ (s.x.dyn.needed.length ≤ s'.c1 ∧ s.x.dyn.syms.length ≤ s'.c2 ∧ s.x.dyn.relas.length ≤ s'.c3) ∧ Below w.heap.size w w' ∧ ∃ b2, w.heap.size ≤ b2 ∧ b2 ≤ w'.heap.size ∧ w'.ownsRow w.heap.size 5 1 (.slice s'.At s.x.text.length s'.ct) s.x.text.length (bys s.x.text) ∧ (∀ k, bk s'.At = some k → k < b2) ∧ w'.ownsRow b2 5 1 (.slice s'.Ad s.x.data.length s'.cd) s.x.data.length (bys s.x.data)
set_option maxRecDepth 100000 in
set_option maxHeartbeats 60000000 in
theorem copied14_any (s : Xq) (B : Nat) (w : World) (hB : B ≤ w.heap.size) (h : XqM w B s) (h0 : s.x.text.length ≤ 1048576) (h00 : s.x.data.length ≤ 1048576) (h1 : s.x.dyn.needed.length ≤ 1048576) (h2 : s.x.dyn.syms.length ≤ 1048576) (h3 : s.x.dyn.relas.length ≤ 1048576) :
    Calls Tryz.prog 8 #[.agg s.l.toArray] w (CopiedE s w) := by
  have e1 : (w.alloc (.cells #[.int .u16 (s.x.type : Nat), .int .u64 (s.x.entry : Nat), .string s.x.interp, .slice s.At s.x.text.length s.ct, .slice s.Ad s.x.data.length s.cd, .int .u64 (s.x.more : Nat), .bool s.x.dynamic, .slice s.A1 s.x.dyn.needed.length s.c1, .string s.x.dyn.soname, .string s.x.dyn.run, .slice s.A2 s.x.dyn.syms.length s.c2, .slice s.A3 s.x.dyn.relas.length s.c3, .int .i64 s.x.apart] 31)).heap.size = w.heap.size + 1 := by simp
  have e2 : ((w.alloc (.cells #[.int .u16 (s.x.type : Nat), .int .u64 (s.x.entry : Nat), .string s.x.interp, .slice s.At s.x.text.length s.ct, .slice s.Ad s.x.data.length s.cd, .int .u64 (s.x.more : Nat), .bool s.x.dynamic, .slice s.A1 s.x.dyn.needed.length s.c1, .string s.x.dyn.soname, .string s.x.dyn.run, .slice s.A2 s.x.dyn.syms.length s.c2, .slice s.A3 s.x.dyn.relas.length s.c3, .int .i64 s.x.apart] 31)).alloc (.cells #[.int .u16 0, .int .u64 0, .string ⟨#[]⟩, .slice none 0 0, .slice none 0 0, .int .u64 0, .bool false, .slice none 0 0, .string ⟨#[]⟩, .string ⟨#[]⟩, .slice none 0 0, .slice none 0 0, .int .i64 0] 31)).heap.size = w.heap.size + 1 + 1 := by simp
  have hb1 : Below w.heap.size w ((w.alloc (.cells #[.int .u16 (s.x.type : Nat), .int .u64 (s.x.entry : Nat), .string s.x.interp, .slice s.At s.x.text.length s.ct, .slice s.Ad s.x.data.length s.cd, .int .u64 (s.x.more : Nat), .bool s.x.dynamic, .slice s.A1 s.x.dyn.needed.length s.c1, .string s.x.dyn.soname, .string s.x.dyn.run, .slice s.A2 s.x.dyn.syms.length s.c2, .slice s.A3 s.x.dyn.relas.length s.c3, .int .i64 s.x.apart] 31)).alloc (.cells #[.int .u16 0, .int .u64 0, .string ⟨#[]⟩, .slice none 0 0, .slice none 0 0, .int .u64 0, .bool false, .slice none 0 0, .string ⟨#[]⟩, .string ⟨#[]⟩, .slice none 0 0, .slice none 0 0, .int .i64 0] 31)) := ((Below.refl _ _).alloc (Nat.le_refl _) _).alloc (by simp) _
  have hd : Blk ((w.alloc (.cells #[.int .u16 (s.x.type : Nat), .int .u64 (s.x.entry : Nat), .string s.x.interp, .slice s.At s.x.text.length s.ct, .slice s.Ad s.x.data.length s.cd, .int .u64 (s.x.more : Nat), .bool s.x.dynamic, .slice s.A1 s.x.dyn.needed.length s.c1, .string s.x.dyn.soname, .string s.x.dyn.run, .slice s.A2 s.x.dyn.syms.length s.c2, .slice s.A3 s.x.dyn.relas.length s.c3, .int .i64 s.x.apart] 31)).alloc (.cells #[.int .u16 0, .int .u64 0, .string ⟨#[]⟩, .slice none 0 0, .slice none 0 0, .int .u64 0, .bool false, .slice none 0 0, .string ⟨#[]⟩, .string ⟨#[]⟩, .slice none 0 0, .slice none 0 0, .int .i64 0] 31)) w.heap.size 31 s.l := (Blk.new w 31 s.l).alloc (.cells #[.int .u16 0, .int .u64 0, .string ⟨#[]⟩, .slice none 0 0, .slice none 0 0, .int .u64 0, .bool false, .slice none 0 0, .string ⟨#[]⟩, .string ⟨#[]⟩, .slice none 0 0, .slice none 0 0, .int .i64 0] 31)
  have hz := Blk.new (w.alloc (.cells #[.int .u16 (s.x.type : Nat), .int .u64 (s.x.entry : Nat), .string s.x.interp, .slice s.At s.x.text.length s.ct, .slice s.Ad s.x.data.length s.cd, .int .u64 (s.x.more : Nat), .bool s.x.dynamic, .slice s.A1 s.x.dyn.needed.length s.c1, .string s.x.dyn.soname, .string s.x.dyn.run, .slice s.A2 s.x.dyn.syms.length s.c2, .slice s.A3 s.x.dyn.relas.length s.c3, .int .i64 s.x.apart] 31)) 31 [.int .u16 0, .int .u64 0, .string ⟨#[]⟩, .slice none 0 0, .slice none 0 0, .int .u64 0, .bool false, .slice none 0 0, .string ⟨#[]⟩, .string ⟨#[]⟩, .slice none 0 0, .slice none 0 0, .int .i64 0]
  rw [e1] at hz
  have hx := h.below (hb1.mono hB)
  have Hx0 := hide h
  have y3 := hd.cell (i := 3) (u := .slice s.At s.x.text.length s.ct) rfl
  have hs2 : w.heap.size + 1 + 1 ≤ ((w.alloc (.cells #[.int .u16 (s.x.type : Nat), .int .u64 (s.x.entry : Nat), .string s.x.interp, .slice s.At s.x.text.length s.ct, .slice s.Ad s.x.data.length s.cd, .int .u64 (s.x.more : Nat), .bool s.x.dynamic, .slice s.A1 s.x.dyn.needed.length s.c1, .string s.x.dyn.soname, .string s.x.dyn.run, .slice s.A2 s.x.dyn.syms.length s.c2, .slice s.A3 s.x.dyn.relas.length s.c3, .int .i64 s.x.apart] 31)).alloc (.cells #[.int .u16 0, .int .u64 0, .string ⟨#[]⟩, .slice none 0 0, .slice none 0 0, .int .u64 0, .bool false, .slice none 0 0, .string ⟨#[]⟩, .string ⟨#[]⟩, .slice none 0 0, .slice none 0 0, .int .i64 0] 31)).heap.size := by rw [e2]; exact Nat.le_refl _
  have Hb1 := hide hb1
  have Hd := hide hd
  have Hz := hide hz
  have Hx := hide hx
  show Calls _ _ #[.agg #[.int .u16 (s.x.type : Nat), .int .u64 (s.x.entry : Nat), .string s.x.interp, .slice s.At s.x.text.length s.ct, .slice s.Ad s.x.data.length s.cd, .int .u64 (s.x.more : Nat), .bool s.x.dynamic, .slice s.A1 s.x.dyn.needed.length s.c1, .string s.x.dyn.soname, .string s.x.dyn.run, .slice s.A2 s.x.dyn.syms.length s.c2, .slice s.A3 s.x.dyn.relas.length s.c3, .int .i64 s.x.apart]] w _
  have K0 := hide (copyBytes_any s.At s.x.text.length s.ct B s.x.text _ (Nat.le_trans hB (unhide Hb1).size) (unhide Hx).text (by omega))
  clear hb1 hd hz hx h e1 e2
  go_enter Tryz.func8, Tryz.ntmps8
  go_wp2_with fail
  refine (unhide K0).mono ?_
  rintro e w3 ⟨A3, c3, rfl, ho3, hb3⟩
  generalize ((w.alloc (.cells #[.int .u16 (s.x.type : Nat), .int .u64 (s.x.entry : Nat), .string s.x.interp, .slice s.At s.x.text.length s.ct, .slice s.Ad s.x.data.length s.cd, .int .u64 (s.x.more : Nat), .bool s.x.dynamic, .slice s.A1 s.x.dyn.needed.length s.c1, .string s.x.dyn.soname, .string s.x.dyn.run, .slice s.A2 s.x.dyn.syms.length s.c2, .slice s.A3 s.x.dyn.relas.length s.c3, .int .i64 s.x.apart] 31)).alloc (.cells #[.int .u16 0, .int .u64 0, .string ⟨#[]⟩, .slice none 0 0, .slice none 0 0, .int .u64 0, .bool false, .slice none 0 0, .string ⟨#[]⟩, .string ⟨#[]⟩, .slice none 0 0, .slice none 0 0, .int .i64 0] 31)) = W at *
  have hd3 := (unhide Hd).belowSz hb3
  have hz3 := (unhide Hz).belowSz hb3
  have hbw3 := (unhide Hb1).trans (hb3.mono (unhide Hb1).size)
  have hs3 := hb3.size
  have x3 := hd3.cell (i := 3) (u := .slice s.At s.x.text.length s.ct) rfl
  have z3 := hd3.free 3
  have hd4 := hd3.set 3 (.slice A3 s.x.text.length c3)
  have y4 := hd4.cell (i := 4) (u := .slice s.Ad s.x.data.length s.cd) rfl
  have hz4 := hz3.other (by show w.heap.size ≠ w.heap.size + 1; omega) (.slice A3 s.x.text.length c3) (p := ⟨w.heap.size, 3, none⟩)
  have hbw4 := below_set hbw3 (p := ⟨w.heap.size, 3, none⟩) (Nat.le_refl _) (.slice A3 s.x.text.length c3)
  have ho4 := own_setG ho3 (p := ⟨w.heap.size, 3, none⟩) (fun e => by have h9 : bk A3 = some w.heap.size := e; have := (own_bklt ho3 _ h9).1; omega) (.slice A3 s.x.text.length c3)
  have hlt4 := own_bklt ho4
  have K1 := hide (copyBytes_any s.Ad s.x.data.length s.cd B s.x.data _ (by have := hbw4.size; omega) ((unhide Hx0).below (hbw4.mono hB)).data (by omega))
  have hs4 : (w3.setCell ⟨w.heap.size, 3, none⟩ (.slice A3 s.x.text.length c3)).heap.size = w3.heap.size := by simp
  have Hd4 := hide hd4
  have Hz4 := hide hz4
  have Hbw4 := hide hbw4
  have Ho4 := hide ho4
  have Hlt4 := hide hlt4
  clear hd3 hz3 hbw3 ho3 hb3 hd4 hz4 hbw4 ho4 hlt4 K0 y3 Hb1 Hd Hz Hx
  go_wp2_with fail
  refine (unhide K1).mono ?_
  rintro e w5 ⟨A5, c5, rfl, ho5, hb5⟩
  rw [hs4] at ho5
  have hd5 := (unhide Hd4).belowSz hb5
  have hz5 := (unhide Hz4).belowSz hb5
  have hbw5 := (unhide Hbw4).trans (hb5.mono (unhide Hbw4).size)
  have ho45 := own_below (unhide Ho4) hb5
  have hs5 : w3.heap.size ≤ w5.heap.size := by have := hb5.size; omega
  generalize (w3.setCell ⟨w.heap.size, 3, none⟩ (.slice A3 s.x.text.length c3)) = W4 at *
  have x4 := hd5.cell (i := 4) (u := .slice s.Ad s.x.data.length s.cd) rfl
  have z4 := hd5.free 4
  have hd6 := hd5.set 4 (.slice A5 s.x.data.length c5)
  have hz6 := hz5.other (by show w.heap.size ≠ w.heap.size + 1; omega) (.slice A5 s.x.data.length c5) (p := ⟨w.heap.size, 4, none⟩)
  have hbw6 := below_set hbw5 (p := ⟨w.heap.size, 4, none⟩) (Nat.le_refl _) (.slice A5 s.x.data.length c5)
  have ho46 := own_setG ho45 (p := ⟨w.heap.size, 4, none⟩) (fun e => by have h9 : bk A3 = some w.heap.size := e; have := ((unhide Hlt4) _ h9).1; omega) (.slice A5 s.x.data.length c5)
  have ho56 := own_setG ho5 (p := ⟨w.heap.size, 4, none⟩) (fun e => by have h9 : bk A5 = some w.heap.size := e; have := (own_bklt ho5 _ h9).1; omega) (.slice A5 s.x.data.length c5)
  obtain ⟨y7, y8, y9, y10, y11⟩ := And.intro (hd6.cell (i := 7) (u := .slice s.A1 s.x.dyn.needed.length s.c1) rfl) (And.intro (hd6.cell (i := 8) (u := .string s.x.dyn.soname) rfl) (And.intro (hd6.cell (i := 9) (u := .string s.x.dyn.run) rfl) (And.intro (hd6.cell (i := 10) (u := .slice s.A2 s.x.dyn.syms.length s.c2) rfl) (hd6.cell (i := 11) (u := .slice s.A3 s.x.dyn.relas.length s.c3) rfl))))
  have hs6 : (w5.setCell ⟨w.heap.size, 4, none⟩ (.slice A5 s.x.data.length c5)).heap.size = w5.heap.size := by simp
  have K2 : Hid (Calls Tryz.prog 24 #[.agg #[.slice s.A1 s.x.dyn.needed.length s.c1, .string s.x.dyn.soname, .string s.x.dyn.run, .slice s.A2 s.x.dyn.syms.length s.c2, .slice s.A3 s.x.dyn.relas.length s.c3]] (w5.setCell ⟨w.heap.size, 4, none⟩ (.slice A5 s.x.data.length c5)) (Copy13E s.q (w5.setCell ⟨w.heap.size, 4, none⟩ (.slice A5 s.x.data.length c5)))) := hide (rcopy13_any s.q B _ (by have := hbw6.size; omega) ((unhide Hx0).below (hbw6.mono hB)).dyn h1 h2 h3)
  have Hd6 := hide hd6
  have Hz6 := hide hz6
  have Hbw6 := hide hbw6
  have Ho46 := hide ho46
  have Ho56 := hide ho56
  clear hd5 hz5 hbw5 ho45 ho5 hb5 hd6 hz6 hbw6 ho46 ho56 K1 Hd4 Hz4 Hbw4 Ho4 y4
  go_wp2_with fail
  refine (unhide K2).mono ?_
  rintro e w7 ⟨q', hq1, rfl, hq7, hcap, hb7, hf1, hf2, hf3⟩
  have hbs7 : w3.heap.size ≤ w7.heap.size := by have := hb7.size; rw [hs6] at this; omega
  have hd7 := (unhide Hd6).belowSz hb7
  have hz7 := (unhide Hz6).belowSz hb7
  have hbw7 := (unhide Hbw6).trans (hb7.mono (unhide Hbw6).size)
  have ho47 := own_below (unhide Ho46) hb7
  have ho57 := own_below (unhide Ho56) hb7
  generalize (w5.setCell ⟨w.heap.size, 4, none⟩ (.slice A5 s.x.data.length c5)) = W6 at *
  obtain ⟨x7, x8, x9, x10, x11⟩ := And.intro (hd7.cell (i := 7) (u := .slice s.A1 s.x.dyn.needed.length s.c1) rfl) (And.intro (hd7.cell (i := 8) (u := .string s.x.dyn.soname) rfl) (And.intro (hd7.cell (i := 9) (u := .string s.x.dyn.run) rfl) (And.intro (hd7.cell (i := 10) (u := .slice s.A2 s.x.dyn.syms.length s.c2) rfl) (hd7.cell (i := 11) (u := .slice s.A3 s.x.dyn.relas.length s.c3) rfl))))
  obtain ⟨z7, z8, z9, z10, z11⟩ := And.intro (hd7.free 7) (And.intro (hd7.free 8) (And.intro (hd7.free 9) (And.intro (hd7.free 10) (hd7.free 11))))
  obtain ⟨qd, B1, g1, B2, g2, B3, g3⟩ := q'
  obtain rfl : qd = s.q.d := hq1
  have hl : (Dq.l ⟨s.q.d, B1, g1, B2, g2, B3, g3⟩).toArray = #[.slice B1 s.x.dyn.needed.length g1, .string s.x.dyn.soname, .string s.x.dyn.run, .slice B2 s.x.dyn.syms.length g2, .slice B3 s.x.dyn.relas.length g3] := rfl
  rw [hl]
  have Hd7 := hide hd7
  have Hz7 := hide hz7
  have Hbw7 := hide hbw7
  have Ho47 := hide ho47
  have Ho57 := hide ho57
  have Hq7 := hide hq7
  have Hcap := hide hcap
  clear hl hd7 hz7 hbw7 ho47 ho57 hq7 hcap hb7 K2 Hd6 Hz6 Hbw6 Ho46 Ho56
  have hth : w7.there w.heap.size 7 5 := by
    intro j hj
    have e9 : j = 0 ∨ j = 1 ∨ j = 2 ∨ j = 3 ∨ j = 4 := by omega
    rcases e9 with rfl | rfl | rfl | rfl | rfl
    · exact ⟨by rw [x7]; rfl, z7⟩
    · exact ⟨by rw [x8]; rfl, z8⟩
    · exact ⟨by rw [x9]; rfl, z9⟩
    · exact ⟨by rw [x10]; rfl, z10⟩
    · exact ⟨by rw [x11]; rfl, z11⟩
  have Hth := hide hth
  obtain ⟨WF, hWF⟩ : ∃ WF, w7.setCells w.heap.size 7 [.slice B1 s.x.dyn.needed.length g1, .string s.x.dyn.soname, .string s.x.dyn.run, .slice B2 s.x.dyn.syms.length g2, .slice B3 s.x.dyn.relas.length g3] = WF := ⟨_, rfl⟩
  have hdF : Blk WF w.heap.size 31 (Xq.l ⟨s.x, A3, c3, A5, c5, B1, g1, B2, g2, B3, g3⟩) := by
    rw [← hWF]
    exact (((((unhide Hd7).set 7 (.slice B1 s.x.dyn.needed.length g1)).set 8 (.string s.x.dyn.soname)).set 9 (.string s.x.dyn.run)).set 10 (.slice B2 s.x.dyn.syms.length g2)).set 11 (.slice B3 s.x.dyn.relas.length g3)
  have hne : w.heap.size ≠ w.heap.size + 1 := by omega
  have hzF : Blk WF (w.heap.size + 1) 31 [.int .u16 0, .int .u64 0, .string ⟨#[]⟩, .slice none 0 0, .slice none 0 0, .int .u64 0, .bool false, .slice none 0 0, .string ⟨#[]⟩, .string ⟨#[]⟩, .slice none 0 0, .slice none 0 0, .int .i64 0] := by
    rw [← hWF]
    exact ((((((unhide Hz7).other hne (.slice B1 s.x.dyn.needed.length g1) (p := ⟨w.heap.size, 7, none⟩)).other hne (.string s.x.dyn.soname) (p := ⟨w.heap.size, 8, none⟩)).other hne (.string s.x.dyn.run) (p := ⟨w.heap.size, 9, none⟩)).other hne (.slice B2 s.x.dyn.syms.length g2) (p := ⟨w.heap.size, 10, none⟩)).other hne (.slice B3 s.x.dyn.relas.length g3) (p := ⟨w.heap.size, 11, none⟩))
  have hk3 : ∀ k, bk A3 = some k → w.heap.size + 1 < k := fun k hk => by have := ((unhide Hlt4) k hk).1; omega
  have hk5 : ∀ k, bk A5 = some k → w.heap.size + 1 < k := fun k hk => by have := (own_bklt (unhide Ho57) k hk).1; omega
  have hbF : Below w.heap.size w WF := by rw [← hWF]; exact below_setCells (Nat.le_refl _) _ _ _ (unhide Hbw7)
  have ho4F := own_setCells (b := w.heap.size) (fun e => by have := hk3 _ e; omega) [.slice B1 s.x.dyn.needed.length g1, .string s.x.dyn.soname, .string s.x.dyn.run, .slice B2 s.x.dyn.syms.length g2, .slice B3 s.x.dyn.relas.length g3] 7 w7 (unhide Ho47)
  have ho5F := own_setCells (b := w.heap.size) (fun e => by have := hk5 _ e; omega) [.slice B1 s.x.dyn.needed.length g1, .string s.x.dyn.soname, .string s.x.dyn.run, .slice B2 s.x.dyn.syms.length g2, .slice B3 s.x.dyn.relas.length g3] 7 w7 (unhide Ho57)
  have hszF : WF.heap.size = w7.heap.size := by rw [← hWF]; exact size_setCells _ _ _
  have hq1F := Rd.setCells (b := w.heap.size) (fun e => by have := hf1 _ e; omega) [.slice B1 s.x.dyn.needed.length g1, .string s.x.dyn.soname, .string s.x.dyn.run, .slice B2 s.x.dyn.syms.length g2, .slice B3 s.x.dyn.relas.length g3] 7 w7 (unhide Hq7).needed
  have hq2F := Rd.setCells (b := w.heap.size) (fun e => by have := hf2 _ e; omega) [.slice B1 s.x.dyn.needed.length g1, .string s.x.dyn.soname, .string s.x.dyn.run, .slice B2 s.x.dyn.syms.length g2, .slice B3 s.x.dyn.relas.length g3] 7 w7 (unhide Hq7).syms
  have hq3F := Rd.setCells (b := w.heap.size) (fun e => by have := hf3 _ e; omega) [.slice B1 s.x.dyn.needed.length g1, .string s.x.dyn.soname, .string s.x.dyn.run, .slice B2 s.x.dyn.syms.length g2, .slice B3 s.x.dyn.relas.length g3] 7 w7 (unhide Hq7).relas
  rw [hWF] at ho4F ho5F hq1F hq2F hq3F
  have HWF := hide hWF
  have HzF := hide hzF
  have HbF := hide hbF
  have Ho4F := hide ho4F
  have Ho5F := hide ho5F
  have Hq1F := hide hq1F
  have Hq2F := hide hq2F
  have Hq3F := hide hq3F
  obtain ⟨a0, a1, a2, a3, a4, a5, a6, a7, a8, a9, a10, a11, a12⟩ := spec_cells hdF
  have Hk3 := hide hk3
  have Hk5 := hide hk5
  clear hth hdF hzF hbF ho4F ho5F hq1F hq2F hq3F x7 x8 x9 x10 x11 z7 z8 z9 z10 z11 hk3 hk5
  go_wp2_with (first
    | ((with_reducible refine (@id (wpList _ _ _ (Oper.mk none (Op.store 29 (.tmp 14) (.tmp 13)) _ _ _ none :: _) _ _) ?_)); refine wpList_store_mid rfl 29 (.tmp 14) (.tmp 13) rfl w.heap.size 7 (Dq.l ⟨s.q.d, B1, g1, B2, g2, B3, g3⟩).toArray rfl rfl (unhide Hth) dynInfo (dq_one _) ?_; change wpList _ _ _ _ _ (w7.setCells w.heap.size 7 [.slice B1 s.x.dyn.needed.length g1, .string s.x.dyn.soname, .string s.x.dyn.run, .slice B2 s.x.dyn.syms.length g2, .slice B3 s.x.dyn.relas.length g3]); rw [unhide HWF])
    | ((with_reducible refine (@id (wpList _ _ _ (Oper.mk none (Op.store 31 (.tmp 2) (.tmp 15)) _ _ _ none :: _) _ _) ?_)); refine wpList_store_row rfl 31 (.tmp 2) (.tmp 15) rfl (w.heap.size + 1) (Xq.l ⟨s.x, A3, c3, A5, c5, B1, g1, B2, g2, B3, g3⟩).toArray rfl rfl 31 _ (unhide HzF) apiInfo rfl (xq_one _) ?_))
  refine bodyPost_ret (results_cell_row (P := Tryz.prog) rfl _ _ (w.heap.size + 1) 31 (Xq.l ⟨s.x, A3, c3, A5, c5, B1, g1, B2, g2, B3, g3⟩).toArray (0, 0) _ rfl (setRow_heap _ _ _ _ _ _ (unhide HzF)) Tryz.underlying31 rfl apiInfo) rfl ?_
  have oT := own_setRowN (k := w.heap.size + 1) (unhide Ho4F) (fun e => by have := (unhide Hk3) _ e; omega) (Xq.l ⟨s.x, A3, c3, A5, c5, B1, g1, B2, g2, B3, g3⟩).toArray
  have oD := own_setRowN (k := w.heap.size + 1) (unhide Ho5F) (fun e => by have := (unhide Hk5) _ e; omega) (Xq.l ⟨s.x, A3, c3, A5, c5, B1, g1, B2, g2, B3, g3⟩).toArray
  have hsr : (WF.setRow (w.heap.size + 1) (Xq.l ⟨s.x, A3, c3, A5, c5, B1, g1, B2, g2, B3, g3⟩).toArray).heap.size = w7.heap.size := by rw [← hszF]; simp [World.setRow]
  have hlow : ∀ k, w3.heap.size ≤ k → w.heap.size + 1 ≠ k := fun k hk => by omega
  refine ⟨⟨s.x, A3, c3, A5, c5, B1, g1, B2, g2, B3, g3⟩, rfl, rfl, ⟨Rd.of_own oT, Rd.of_own oD, ⟨?_, ?_, ?_⟩⟩, unhide Hcap, below_setRow (unhide HbF) (by omega) _, w3.heap.size, by omega, by rw [hsr]; exact hbs7, own_base oT (by omega), fun k hk => ?_, oD⟩
  · rw [hsr]; exact Rd.setRowN (unhide Hq1F) (fun e => by have := hf1 _ e; omega) _
  · rw [hsr]; exact Rd.setRowN (unhide Hq2F) (fun e => by have := hf2 _ e; omega) _
  · rw [hsr]; exact Rd.setRowN (unhide Hq3F) (fun e => by have := hf3 _ e; omega) _
  · have := ((unhide Hlt4) k hk).2; omega
end Go.Proofs.YtnbecdahfgkffaaGreat
namespace Go.Proofs.YtnbecdahfgkffaaGreat
open Go.RowKit
end Go.Proofs.YtnbecdahfgkffaaGreat
namespace Go.Proofs.YtnbecdahfgkffaaGreat
open Go.RowKit
theorem mSegInfo : (Tryz.prog.info? 74).map (·.size) = some 7 := by kernel_rfl
set_option maxRecDepth 100000 in
set_option maxHeartbeats 4000000 in
theorem pin_any (s : Xq) (gx k off sz al : Nat) (w : World) (hx : Blk w gx 66 s.l) (ho : off ≤ 4294967296) :
    Calls Tryz.prog 26 #[.int .u64 (k : Nat), .int .u64 (off : Nat), .int .u64 (sz : Nat), .int .u64 (al : Nat), .pointer (some ⟨gx, 0, none⟩)] w fun e w' => e = .returned (.agg (rowV (Mk.inRow s.x k off sz al)).toArray) ∧ Below w.heap.size w w' := by
  have hb1 := below_al w (.cells #[.int .u64 0, .int .u64 0, .int .u64 0, .int .u64 0, .int .u64 0, .int .u64 0, .int .u64 0] 74)
  have hbz := Blk.new w 74 [.int .u64 0, .int .u64 0, .int .u64 0, .int .u64 0, .int .u64 0, .int .u64 0, .int .u64 0]
  have hx1 := hx.belowSz hb1
  have hlt := hx.lt
  have hbs : Mk.base s.x ≤ 4194304 := by unfold Mk.base; split <;> omega
  obtain ⟨a0, a1, a2, a3, a4, a5, a6, a7, a8, a9, a10, a11, a12⟩ := spec_cellsP hx1
  have KB : Hid (Calls Tryz.prog 27 #[.agg #[.int .u16 (s.x.type : Nat), .int .u64 (s.x.entry : Nat), .string s.x.interp, .slice s.At s.x.text.length s.ct, .slice s.Ad s.x.data.length s.cd, .int .u64 (s.x.more : Nat), .bool s.x.dynamic, .slice s.A1 s.x.dyn.needed.length s.c1, .string s.x.dyn.soname, .string s.x.dyn.run, .slice s.A2 s.x.dyn.syms.length s.c2, .slice s.A3 s.x.dyn.relas.length s.c3, .int .i64 s.x.apart]] (w.alloc (.cells #[.int .u64 0, .int .u64 0, .int .u64 0, .int .u64 0, .int .u64 0, .int .u64 0, .int .u64 0] 74)) fun e w' => e = .returned (.int .u64 (Mk.base s.x : Nat)) ∧ Below (w.alloc (.cells #[.int .u64 0, .int .u64 0, .int .u64 0, .int .u64 0, .int .u64 0, .int .u64 0, .int .u64 0] 74)).heap.size (w.alloc (.cells #[.int .u64 0, .int .u64 0, .int .u64 0, .int .u64 0, .int .u64 0, .int .u64 0, .int .u64 0] 74)) w') := hide (pbase_any s (w.alloc (.cells #[.int .u64 0, .int .u64 0, .int .u64 0, .int .u64 0, .int .u64 0, .int .u64 0, .int .u64 0] 74)))
  have Hb1 := hide hb1
  have Hbz : Hid (Blk (w.alloc (.cells #[.int .u64 0, .int .u64 0, .int .u64 0, .int .u64 0, .int .u64 0, .int .u64 0, .int .u64 0] 74)) w.heap.size 74 [.int .u64 0, .int .u64 0, .int .u64 0, .int .u64 0, .int .u64 0, .int .u64 0, .int .u64 0]) := hide hbz
  clear hb1 hbz hx1 hx
  go_enter Tryz.func26, Tryz.ntmps26
  go_wp2_with fail
  generalize (w.alloc (.cells #[.int .u64 0, .int .u64 0, .int .u64 0, .int .u64 0, .int .u64 0, .int .u64 0, .int .u64 0] 74)) = W1 at *
  refine (unhide KB).mono ?_
  rintro e w1 ⟨rfl, hb⟩
  have Hb2 := hide ((unhide Hb1).trans (hb.mono (unhide Hb1).size))
  have Hbz1 := hide ((unhide Hbz).belowSz hb)
  clear hb KB a0 a1 a2 a3 a4 a5 a6 a7 a8 a9 a10 a11 a12
  generalize hbe : Mk.base s.x = bs at *
  have Hbe := hide hbe
  clear hbe
  go_wp2_with ((with_reducible refine (@id (wpList _ _ _ (Oper.mk none (Op.store 74 (.tmp 9) (.tmp 19)) _ _ _ none :: _) _ _) ?_)); refine wpList_store_row rfl 74 (.tmp 9) (.tmp 19) rfl w.heap.size (rowV ⟨k, 4, off, bs + off, sz, sz, al⟩).toArray rfl rfl 74 _ (unhide Hbz1) mSegInfo rfl (rowV_all _) ?_)
  refine bodyPost_ret (results_cell_row (P := Tryz.prog) rfl _ _ w.heap.size 74 (rowV ⟨k, 4, off, bs + off, sz, sz, al⟩).toArray (0, 0) _ rfl (setRow_heap _ _ _ _ _ _ (unhide Hbz1)) Tryz.underlying74 rfl mSegInfo) rfl ?_
  exact ⟨by unfold Mk.inRow; rw [unhide Hbe], below_setRow (unhide Hb2) (Nat.le_refl _) _⟩
end Go.Proofs.YtnbecdahfgkffaaGreat
