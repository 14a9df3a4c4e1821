/- The walk of elf.Parse where the header stands. Conditions: there are fewer than 2^32 bytes. -/
import Derived.Test.YtkonolmakpeocaaElf6
import Derived.Test.YtkonolmakpeocaaElf6p
namespace Go.Proofs.Ytkonolmakpeocaa
set_option linter.unusedVariables false
set_option linter.unusedSimpArgs false
open Go.RowKit

theorem PW.later2 {w0 w w' : World} {a b c d e : Value} (h : PW w0 a b c d e w) (hb : Below (w0.heap.size + 2) w w') : PW w0 a b c d e w' :=
  ⟨h.below.trans (hb.mono (by omega)), (hb.block _ (by omega)).trans h.head, (hb.block _ (by omega)).trans h.err⟩
theorem PW.sz {w0 w : World} {a b c d e : Value} (h : PW w0 a b c d e w) : w0.heap.size + 2 ≤ w.heap.size := by have := lt_of_block h.err; omega

theorem PW.own {w0 w : World} {a b c d e : Value} (h : PW w0 a b c d e w) : World.ownsRow w (w0.heap.size + 2) 37 6 (.slice none 0 0) 0 [] := World.ownsRow_nil _ _ _ _
theorem PW.setSegs {w0 w : World} {a b c d e d' : Value} (h : PW w0 a b c d e w) : PW w0 a b c d' e (w.setCell ⟨w0.heap.size, 3, none⟩ d') :=
  ⟨h.below.setCell (by simp) _, by simpa using (heap_setCell_same _ _ 3 _ _ d' h.head), (Below.heap_setCell _ _ _ _ (by simp)).trans h.err⟩
/-- What Parse answers where the header stands. -/
def ParseEnd (b : List UInt8) (w : World) (e : Ending) (w' : World) : Prop :=
  ∃ A' c', e = .returned (.tuple #[.agg #[.int .u16 (El.parse b).2.type, .int .u64 (El.parse b).2.entry, .int .u64 (El.parse b).2.phoff, .slice A' (El.parse b).2.segs.length c'], .int .i64 (El.parse b).1]) ∧
    w'.ownsRow w.heap.size 37 6 (.slice A' (El.parse b).2.segs.length c') (El.parse b).2.segs.length (segCells (El.parse b).2.segs) ∧ Below w.heap.size w w'
theorem end_bad {b : List UInt8} {w w' : World} (h : El.parse b = (25, ⟨0, 0, 0, []⟩)) (hb : Below w.heap.size w w') : ParseEnd b w (.returned (.tuple #[noHead, .int .i64 25])) w' := by
  unfold ParseEnd
  rw [h]
  exact ⟨none, 0, rfl, World.ownsRow_nil _ _ _ _, hb⟩

theorem own_same {w w' : World} {base : Nat} {e : TypeId} {size n : Nat} {v : Value} {xs : List Value} (h : w.ownsRow base e size v n xs) (hk : ∀ g, base ≤ g → g < w.heap.size → w'.heap[g]? = w.heap[g]?) : w'.ownsRow base e size v n xs := by
  refine ⟨h.1, ?_⟩
  rcases h.2 with hn | ⟨g, cap, cur, hv, hb, hg, rest⟩
  · exact .inl hn
  · exact .inr ⟨g, cap, cur, hv, hb, (hk g hb (lt_of_block hg)).trans hg, rest⟩
theorem end_good {b : List UInt8} {w w' : World} {ty en ph n c' : Nat} {A' : Option Addr} {l : List El.Sg} (h : El.parse b = (0, El.headOf b)) (hd : El.headOf b = ⟨ty, en, ph, l⟩) (hl : l.length = n) (hown : w'.ownsRow (w.heap.size + 2) 37 6 (.slice A' n c') n (segCells l)) (hb : Below w.heap.size w w') :
    ParseEnd b w (.returned (.tuple #[.agg #[.int .u16 ty, .int .u64 en, .int .u64 ph, .slice A' n c'], .int .i64 0])) w' := by
  unfold ParseEnd
  rw [h, hd]
  subst hl
  exact ⟨A', c', rfl, own_base hown (by omega), hb⟩

set_option maxHeartbeats 4000000 in
set_option maxRecDepth 100000 in
theorem parse_notin (A : Option Addr) (m c : Nat) (b : List UInt8) (w : World) (hb : Rd w w.heap.size 1 A m (u8s b)) (hm : m ≤ 4294967296) (hmc : m ≤ c) (hh : El.hdrOk b = true) (hin : ¬ Wd.num b 32 8 + Wd.num b 56 2 * 56 ≤ m) :
    Calls Try.prog 8 #[.slice A m c] w (ParseEnd b w) := by
  have hmf : ∀ (fn : Fn) (first cap : Array Value) (w : World), (Instr.makeFunc fn first cap).run Try.prog w = .ok (.func fn first cap) w := fun _ _ _ _ => rfl
  have hpw : PW w (.int .u16 0) (.int .u64 0) (.int .u64 0) (.slice none 0 0) (.int .i64 0) ((w.alloc (.cells #[.int .u16 0, .int .u64 0, .int .u64 0, .slice none 0 0] 28)).alloc (.cells #[.int .i64 0] 29)) := PW.start w
  have hbl : b.length = m := by simpa using hb.len1
  have hpar := El.parse_notin hh (by rw [hbl]; exact hin)
  have h64 : 64 ≤ m := by
    have hh2 := hh
    unfold El.hdrOk at hh2
    simp only [Bool.and_eq_true, decide_eq_true_eq] at hh2
    omega
  have h8 : Wd.num b 56 2 ≤ 8 := by
    have hh2 := hh
    unfold El.hdrOk at hh2
    simp only [Bool.and_eq_true, decide_eq_true_eq] at hh2
    exact hh2.2.2
  have GH := hide (fun (w' : World) (h : Below w.heap.size w w') => header_ok A m c w.heap.size b w' h.size (hb.below h) (by unfold maxLen; omega) hmc hh)
  have G1 := hide (fun (w' : World) (h : Below w.heap.size w w') => at_lit A m c w.heap.size b 16 2 2 rfl w' h.size (hb.below h) (by unfold maxLen; omega) (by omega) (by omega))
  have G2 := hide (fun (w' : World) (h : Below w.heap.size w w') => at_lit A m c w.heap.size b 24 8 8 rfl w' h.size (hb.below h) (by unfold maxLen; omega) (by omega) (by omega))
  have G3 := hide (fun (w' : World) (h : Below w.heap.size w w') => at_lit A m c w.heap.size b 32 8 8 rfl w' h.size (hb.below h) (by unfold maxLen; omega) (by omega) (by omega))
  have l0 : Wd.num b 16 2 < 65536 := Wd.num_lt _ _ _
  have l1 : Wd.num b 24 8 < 18446744073709551616 := Wd.num_lt _ _ _
  have l2 : Wd.num b 32 8 < 18446744073709551616 := Wd.num_lt _ _ _
  have Hpar := hide hpar
  have Hpw := hide hpw
  clear hpw hpar hh hb hbl
  generalize Wd.num b 16 2 = ty at *
  generalize Wd.num b 24 8 = en at *
  generalize Wd.num b 32 8 = ph at *
  generalize Wd.num b 56 2 = n at *
  have i1 : decide (((ph : Nat) : Int) + ((n : Nat) : Int) * 56 ≤ ((m : Nat) : Int)) = false := by simp; omega
  go_enter_defers Try.func8, Try.ntmps8
  go_wp2_with (first
    | (go_at_call 26; refine ((unhide GH) _ (unhide Hpw).below).mono ?_; rintro e w1 ⟨rfl, hx⟩; replace Hpw := hide ((unhide Hpw).later hx); clear hx)
    | (go_at_call_of 27 (Value.int IntKind.u64 16); refine ((unhide G1) _ (unhide Hpw).below).mono ?_; rintro e w1 ⟨rfl, hx⟩; replace Hpw := hide ((unhide Hpw).later hx); clear hx)
    | (go_at_call_of 27 (Value.int IntKind.u64 24); refine ((unhide G2) _ (unhide Hpw).below).mono ?_; rintro e w1 ⟨rfl, hx⟩; replace Hpw := hide ((unhide Hpw).later hx); clear hx)
    | (go_at_call_of 27 (Value.int IntKind.u64 32); refine ((unhide G3) _ (unhide Hpw).below).mono ?_; rintro e w1 ⟨rfl, hx⟩; replace Hpw := hide ((unhide Hpw).later hx); clear hx)
    | (go_at_call_of 28 (Value.bool true); refine (must_yes _ _).mono ?_; rintro e w1 ⟨rfl, rfl⟩)
    | (go_at_call_of 28 (Value.bool false); refine (must_no _ _).mono ?_; rintro e w1 ⟨rfl, rfl⟩)
    | (go_at_call 29; refine (inside_any _ _ _ _ (by omega) (by omega) (by omega) (by omega) (by omega)).mono ?_; rintro e w1 ⟨rfl, rfl⟩)
    | ((with_reducible refine (@id (wpList _ _ _ (Oper.mk none (Op.store 28 (.tmp 2) (.tmp 20)) _ _ _ none :: _) _ _) ?_)); refine wpList_store_row rfl 28 (.tmp 2) (.tmp 20) rfl w.heap.size #[.int .u16 ty, .int .u64 en, .int .u64 ph, .slice none 0 0] rfl rfl 28 _ (unhide Hpw).head headInfo rfl (headOne _ _ _ _ _ _) ?_; replace Hpw := hide ((unhide Hpw).setHead (a' := .int .u16 ty) (b' := .int .u64 en) (c' := .int .u64 ph) (d' := .slice none 0 0)); obtain ⟨q0, q1, q2, q3⟩ := box_facts (unhide Hpw).head))
  all_goals exact door_bad (unhide Hpw) rfl rfl fun w' hb => end_bad (unhide Hpar) hb

set_option maxHeartbeats 8000000 in
set_option maxRecDepth 100000 in
theorem parse_in (A : Option Addr) (m c : Nat) (b : List UInt8) (w : World) (hb : Rd w w.heap.size 1 A m (u8s b)) (hm : m ≤ 4294967296) (hmc : m ≤ c) (hh : El.hdrOk b = true) (hin : Wd.num b 32 8 + Wd.num b 56 2 * 56 ≤ m) :
    Calls Try.prog 8 #[.slice A m c] w (ParseEnd b w) := by
  have hmf : ∀ (fn : Fn) (first cap : Array Value) (w : World), (Instr.makeFunc fn first cap).run Try.prog w = .ok (.func fn first cap) w := fun _ _ _ _ => rfl
  have hpw : PW w (.int .u16 0) (.int .u64 0) (.int .u64 0) (.slice none 0 0) (.int .i64 0) ((w.alloc (.cells #[.int .u16 0, .int .u64 0, .int .u64 0, .slice none 0 0] 28)).alloc (.cells #[.int .i64 0] 29)) := PW.start w
  have hbl : b.length = m := by simpa using hb.len1
  have h64 : 64 ≤ m := by
    have hh2 := hh
    unfold El.hdrOk at hh2
    simp only [Bool.and_eq_true, decide_eq_true_eq] at hh2
    omega
  have h8 : Wd.num b 56 2 ≤ 8 := by
    have hh2 := hh
    unfold El.hdrOk at hh2
    simp only [Bool.and_eq_true, decide_eq_true_eq] at hh2
    exact hh2.2.2
  have l0 : Wd.num b 16 2 < 65536 := Wd.num_lt _ _ _
  have l1 : Wd.num b 24 8 < 18446744073709551616 := Wd.num_lt _ _ _
  have l2 : Wd.num b 32 8 < 18446744073709551616 := Wd.num_lt _ _ _
  have GH := hide (fun (w' : World) (h : Below w.heap.size w w') => header_ok A m c w.heap.size b w' h.size (hb.below h) (by unfold maxLen; omega) hmc hh)
  have G1 := hide (fun (w' : World) (h : Below w.heap.size w w') => at_lit A m c w.heap.size b 16 2 2 rfl w' h.size (hb.below h) (by unfold maxLen; omega) (by omega) (by omega))
  have G2 := hide (fun (w' : World) (h : Below w.heap.size w w') => at_lit A m c w.heap.size b 24 8 8 rfl w' h.size (hb.below h) (by unfold maxLen; omega) (by omega) (by omega))
  have G3 := hide (fun (w' : World) (h : Below w.heap.size w w') => at_lit A m c w.heap.size b 32 8 8 rfl w' h.size (hb.below h) (by unfold maxLen; omega) (by omega) (by omega))
  have GS := hide (fun (k : Nat) (hk : k < Wd.num b 56 2) (w' : World) (h : Below w.heap.size w w') => segment_any A m c w.heap.size b (Wd.num b 32 8 + k * 56) (Wd.num b 16 2) w' h.size (hb.below h) (by unfold maxLen; omega) (by omega) (by omega) l0)
  have GW : Hid (∀ (A' : Option Addr) (c' B : Nat) (hr : El.readOk b (Wd.num b 56 2) = true) (w' : World) (hB : B ≤ w'.heap.size) (hl : Rd w' B 6 A' (Wd.num b 56 2) (segCells (El.segsOf b (Wd.num b 56 2)))),
      Calls Try.prog 32 #[.agg #[.int .u16 (Wd.num b 16 2), .int .u64 (Wd.num b 24 8), .int .u64 (Wd.num b 32 8), .slice A' (Wd.num b 56 2) c']] w' fun e w'' => e = Or3 (El.wholeOk (El.headOf b)) (.returned (.tuple #[])) (wrongs 25) ∧ Below w'.heap.size w' w'') :=
    hide fun A' c' B hr w' hB hl => whole_any A' (Wd.num b 56 2) c' B (El.headOf b) w' hB hl (by omega) (El.readOk_fit hr) l0 l1
  have P1 := hide (fun (k : Nat) (hk : k < Wd.num b 56 2) (h : El.segOk b (Wd.num b 32 8 + k * 56) (Wd.num b 16 2) = false) => El.parse_badseg hh hk h)
  have P2 := hide (fun (k : Nat) (hk : k < Wd.num b 56 2) (h1 : (El.segAt b (Wd.num b 32 8 + k * 56)).kind = 1) (ht : ¬ El.topAt b k ≤ (El.segAt b (Wd.num b 32 8 + k * 56)).addr) => El.parse_norise hh hk h1 ht)
  have P3 := hide (El.parse_unwhole hh)
  have P4 := hide (El.parse_good hh (by rw [hbl]; exact hin))
  have SS := hide (fun k => El.segsOf_succ b k)
  have RL := hide (fun (k : Nat) => El.readOk_load (b := b) (k := k))
  have RO := hide (fun (k : Nat) => El.readOk_other (b := b) (k := k))
  have LE := hide (fun (k : Nat) => El.load_end (b := b) (p := Wd.num b 32 8 + k * 56) (ty := Wd.num b 16 2))
  have FT := hide (fun (k : Nat) => El.segAt_fit (b := b) (p := Wd.num b 32 8 + k * 56) (ty := Wd.num b 16 2))
  have SL := hide (El.segsOf_len b (Wd.num b 56 2))
  have HD : Hid (El.headOf b = ⟨Wd.num b 16 2, Wd.num b 24 8, Wd.num b 32 8, El.segsOf b (Wd.num b 56 2)⟩) := hide rfl
  have Hpw := hide hpw
  clear hpw hh hb hbl
  generalize Wd.num b 16 2 = ty at *
  generalize Wd.num b 24 8 = en at *
  generalize Wd.num b 32 8 = ph at *
  generalize Wd.num b 56 2 = n at *
  have i1 : decide (((ph : Nat) : Int) + ((n : Nat) : Int) * 56 ≤ ((m : Nat) : Int)) = true := by simp; omega
  go_enter_defers Try.func8, Try.ntmps8
  go_wp2_with (first
    | (go_at_call 26; refine ((unhide GH) _ (unhide Hpw).below).mono ?_; rintro e w1 ⟨rfl, hx⟩; replace Hpw := hide ((unhide Hpw).later hx); clear hx)
    | (go_at_call_of 27 (Value.int IntKind.u64 16); refine ((unhide G1) _ (unhide Hpw).below).mono ?_; rintro e w1 ⟨rfl, hx⟩; replace Hpw := hide ((unhide Hpw).later hx); clear hx)
    | (go_at_call_of 27 (Value.int IntKind.u64 24); refine ((unhide G2) _ (unhide Hpw).below).mono ?_; rintro e w1 ⟨rfl, hx⟩; replace Hpw := hide ((unhide Hpw).later hx); clear hx)
    | (go_at_call_of 27 (Value.int IntKind.u64 32); refine ((unhide G3) _ (unhide Hpw).below).mono ?_; rintro e w1 ⟨rfl, hx⟩; replace Hpw := hide ((unhide Hpw).later hx); clear hx)
    | (go_at_call_of 28 (Value.bool true); refine (must_yes _ _).mono ?_; rintro e w1 ⟨rfl, rfl⟩)
    | (go_at_call 29; refine (inside_any _ _ _ _ (by omega) (by omega) (by omega) (by omega) (by omega)).mono ?_; rintro e w1 ⟨rfl, rfl⟩)
    | ((with_reducible refine (@id (wpList _ _ _ (Oper.mk none (Op.store 28 (.tmp 2) (.tmp 20)) _ _ _ none :: _) _ _) ?_)); refine wpList_store_row rfl 28 (.tmp 2) (.tmp 20) rfl w.heap.size #[.int .u16 ty, .int .u64 en, .int .u64 ph, .slice none 0 0] rfl rfl 28 _ (unhide Hpw).head headInfo rfl (headOne _ _ _ _ _ _) ?_; replace Hpw := hide ((unhide Hpw).setHead (a' := .int .u16 ty) (b' := .int .u64 en) (c' := .int .u64 ph) (d' := .slice none 0 0)); obtain ⟨q0, q1, q2, q3⟩ := box_facts (unhide Hpw).head))
  clear q0 q1 q2 q3 i1 GH G1 G2 G3
  go_loopw [6, 31] (fun top i wr => ∃ (k T : Nat) (A' : Option Addr) (c' : Nat), k ≤ n ∧ i = .int .u64 k ∧ top = .int .u64 T ∧ T = El.topAt b k ∧ T < 18446744073709551616 ∧ El.readOk b k = true ∧
    wr.ownsRow (w.heap.size + 2) 37 6 (.slice A' k c') k (segCells (El.segsOf b k)) ∧ PW w (.int .u16 ty) (.int .u64 en) (.int .u64 ph) (.slice A' k c') (.int .i64 0) wr) (fun _ i _ => n - (intOf i).toNat)
  case atStart => exact ⟨0, 0, none, 0, Nat.zero_le _, rfl, rfl, rfl, by omega, rfl, World.ownsRow_nil _ _ _ _, unhide Hpw⟩
  case round =>
  clear Hpw
  obtain ⟨k, T, A', c', hk, rfl, rfl, hT, hT2, hro, hown, hpw⟩ := hrel
  have HT := hide hT
  have Hro := hide hro
  have Hown := hide hown
  have Hpw := hide hpw
  have hsz := hpw.sz
  obtain ⟨q0, q1, q2, q3⟩ := box_facts hpw.head
  clear hT hro hown hpw
  rcases Nat.lt_or_ge k n with hlt | hge
  case inr =>
    obtain rfl : k = n := by omega
    have gw := (unhide GW) A' c' wr.heap.size (unhide Hro) wr (Nat.le_refl _) (Rd.of_own (unhide Hown))
    cases hwo : El.wholeOk (El.headOf b)
    case false =>
      have hpar := (unhide P3) hwo
      rw [hwo] at gw
      have Gw := hide gw
      have Hpar := hide hpar
      clear gw hpar hwo
      go_wp2_with (go_at_call 32; refine (unhide Gw).mono ?_; rintro e w1 ⟨he, hx⟩; obtain rfl : e = wrongs 25 := he; replace Hpw := hide ((unhide Hpw).later hx); clear hx)
      exact door_bad (unhide Hpw) rfl rfl fun w' hb => end_bad (unhide Hpar) hb
    case true =>
      have hpar := (unhide P4) (unhide Hro) hwo
      rw [hwo] at gw
      have Gw := hide gw
      have Hpar := hide hpar
      clear gw hpar hwo
      go_wp2_with (first
        | (go_at_call 32; refine (unhide Gw).mono ?_; rintro e w1 ⟨he, hx⟩; obtain rfl : e = .returned (.tuple #[]) := he; replace Hpw := hide ((unhide Hpw).later hx); replace Hown := hide (own_below (unhide Hown) hx); clear q0 q1 q2 q3)
        | ((with_reducible refine (@id (wpList _ _ _ (Oper.mk (some 69) (Op.load 28 (.tmp 2)) _ _ _ none :: _) _ _) ?_)); refine wpList_load_row rfl 28 (.tmp 2) rfl w.heap.size rfl 28 #[.int .u16 ty, .int .u64 en, .int .u64 ph, .slice A' k c'] (0, 0) _ (unhide Hpw).head Try.underlying28 rfl headInfo ?_)
        | ((with_reducible refine (@id (wpList _ _ _ (Oper.mk none (Op.store 28 (.tmp 2) (.tmp 69)) _ _ _ none :: _) _ _) ?_)); refine wpList_store_row rfl 28 (.tmp 2) (.tmp 69) rfl w.heap.size #[.int .u16 ty, .int .u64 en, .int .u64 ph, .slice A' k c'] rfl rfl 28 _ (unhide Hpw).head headInfo rfl (headOne _ _ _ _ _ _) ?_; replace Hpw := hide ((unhide Hpw).setHead (a' := .int .u16 ty) (b' := .int .u64 en) (c' := .int .u64 ph) (d' := .slice A' k c')); replace Hown := hide (own_same (unhide Hown) (fun g hg _ => setRow_other _ w.heap.size g #[.int .u16 ty, .int .u64 en, .int .u64 ph, .slice A' k c'] (by omega))); have q4 := cell_of_one (unhide Hpw).err; have q5 := free_of_one (unhide Hpw).err))
      have hf := (unhide Hpw).setErr (e' := .int .i64 0)
      exact door_ok hf rfl rfl (end_good (unhide Hpar) (unhide HD) (unhide SL) (own_same (unhide Hown) (fun g hg _ => Below.heap_setCell _ _ _ _ (by simp; omega))) hf.below)
  have gs := (unhide GS) k hlt
  rw [show ((ph + k * 56 : Nat) : Int) = (ph : Int) + (k : Int) * 56 from by omega] at gs
  cases hs : El.segOk b (ph + k * 56) ty
  case false =>
    have hpar := (unhide P1) k hlt hs
    simp only [hs, Bool.false_eq_true, if_false] at gs
    have Gs := hide gs
    have Hpar := hide hpar
    clear gs hpar hs
    go_wp2_with (go_at_call 30; refine ((unhide Gs) _ (unhide Hpw).below).mono ?_; rintro e ws ⟨rfl, hx⟩; replace Hpw := hide ((unhide Hpw).later hx); clear hx)
    exact door_bad (unhide Hpw) rfl rfl fun w' hb => end_bad (unhide Hpar) hb
  case true =>
    simp only [hs, if_true, segVal] at gs
    have p2 := (unhide P2) k hlt
    have rl := (unhide RL) k (unhide Hro) hs
    have ro := (unhide RO) k (unhide Hro) hs
    have le := (unhide LE) k hs
    have ft := (unhide FT) k hs
    have ss := (unhide SS) k
    rw [← unhide HT] at p2 rl
    generalize El.segAt b (ph + k * 56) = s at *
    obtain ⟨sk, sfl, so, sa, sf, sm⟩ := s
    obtain ⟨f1, f2, f3, f4, f5, f6⟩ := ft
    simp only at f1 f2 f3 f4 f5 f6 le rl ro p2 gs
    have Gs := hide gs
    have P2' := hide p2
    have Rl := hide rl
    have Ro := hide ro
    have Ss := hide ss
    clear gs p2 rl ro ss hs
    by_cases h1 : sk = 1
    · have le' := le h1
      have b1 : (((sk : Nat) : Int) == 1) = true := by simp; omega
      by_cases ht : T ≤ sa
      · have b2 : decide (((T : Nat) : Int) ≤ ((sa : Nat) : Int)) = true := by simp; omega
        obtain ⟨hro2, hT3⟩ := (unhide Rl) h1 ht
        have Hro2 := hide hro2
        have HT3 := hide hT3
        clear hro2 hT3 le h1
        go_wp2_with (first
          | (go_at_call 30; refine ((unhide Gs) _ (unhide Hpw).below).mono ?_; rintro e ws ⟨rfl, hx⟩; replace Hown := hide (own_below (unhide Hown) hx); replace Hpw := hide ((unhide Hpw).later hx); clear hx; have hszs := (unhide Hpw).sz; clear q0 q1 q2 q3; obtain ⟨q0, q1, q2, q3⟩ := box_facts (unhide Hpw).head; have r3 := (World.cell?_alloc_lt ws (.cells #[.int .u32 sk, .int .u8 sfl, .int .u64 so, .int .u64 sa, .int .u64 sf, .int .u64 sm] 37) ⟨w.heap.size, 3, none⟩ (by show w.heap.size < _; omega)).trans q3)
          | (go_at_call_of 28 (Value.bool true); refine (must_yes _ _).mono ?_; rintro e w2 ⟨rfl, rfl⟩)
          | (go_at_call_of 28 (Value.bool false); refine (must_no _ _).mono ?_; rintro e w2 ⟨rfl, rfl⟩)
          | (go_at_call 31; refine (up_yes _ _ (by omega) (by omega)).mono ?_; rintro e w2 ⟨rfl, rfl⟩)
          | (at_builtin; refine wpList_app1g segTy rfl _ _ rfl (w.heap.size + 2) (.slice A' k c') k (segCells (El.segsOf b k)) rfl ((unhide Hown).alloc _) #[.int .u32 sk, .int .u8 sfl, .int .u64 so, .int .u64 sa, .int .u64 sf, .int .u64 sm] _ rfl (by simp) rfl (sgVals_one ⟨sk, sfl, so, sa, sf, sm⟩) (by omega) (by simp; omega) ?_; intro A2 c2 wa hown' hgrow hat; replace Hpw := hide ((unhide Hpw).later2 (((Below.refl _ _).alloc hszs _).grown hgrow (by simp; omega) (fun k hk => ((unhide Hown).lt k hk).1))); replace Hown := hide hown'; clear hgrow hat hown' q0 q1 q2 q3 r3; obtain ⟨q0, q1, q2, q3⟩ := box_facts (unhide Hpw).head; have q4 := frozen_of_row _ _ 3 _ _ (unhide Hpw).head))
        go_roundw
        case rel =>
          refine ⟨k + 1, El.up (sa + sm), A2, c2, by omega, by go_num, ?_, (unhide HT3).symm, ?_, unhide Hro2, ?_, (unhide Hpw).setSegs⟩
          · unfold El.up; congr 1; omega
          · unfold El.up; omega
          · rw [unhide Ss, segCells_snoc]
            exact own_same (unhide Hown) (fun g hg _ => Below.heap_setCell _ _ _ _ (by simp; omega))
        case measure => simp [intOf]; omega
      · have b2 : decide (((T : Nat) : Int) ≤ ((sa : Nat) : Int)) = false := by simp; omega
        have hpar := (unhide P2') h1 ht
        have Hpar := hide hpar
        clear hpar le h1
        go_wp2_with (first
          | (go_at_call 30; refine ((unhide Gs) _ (unhide Hpw).below).mono ?_; rintro e ws ⟨rfl, hx⟩; replace Hpw := hide ((unhide Hpw).later hx); clear hx; have hszs := (unhide Hpw).sz)
          | (go_at_call_of 28 (Value.bool false); refine (must_no _ _).mono ?_; rintro e w2 ⟨rfl, rfl⟩))
        exact door_bad ((unhide Hpw).later2 ((Below.refl _ _).alloc hszs _)) rfl rfl fun w' hb => end_bad (unhide Hpar) hb
    · have b1 : (((sk : Nat) : Int) == 1) = false := by simp; omega
      obtain ⟨hro2, hT3⟩ := (unhide Ro) h1
      have Hro2 := hide hro2
      have HT3 := hide (hT3.trans (unhide HT).symm)
      clear hro2 hT3 le h1
      go_wp2_with (first
        | (go_at_call 30; refine ((unhide Gs) _ (unhide Hpw).below).mono ?_; rintro e ws ⟨rfl, hx⟩; replace Hown := hide (own_below (unhide Hown) hx); replace Hpw := hide ((unhide Hpw).later hx); clear hx; have hszs := (unhide Hpw).sz; clear q0 q1 q2 q3; obtain ⟨q0, q1, q2, q3⟩ := box_facts (unhide Hpw).head; have r3 := (World.cell?_alloc_lt ws (.cells #[.int .u32 sk, .int .u8 sfl, .int .u64 so, .int .u64 sa, .int .u64 sf, .int .u64 sm] 37) ⟨w.heap.size, 3, none⟩ (by show w.heap.size < _; omega)).trans q3)
        | (go_at_call_of 28 (Value.bool true); refine (must_yes _ _).mono ?_; rintro e w2 ⟨rfl, rfl⟩)
        | (go_at_call_of 28 (Value.bool false); refine (must_no _ _).mono ?_; rintro e w2 ⟨rfl, rfl⟩)
        | (go_at_call 31; refine (up_yes _ _ (by omega) (by omega)).mono ?_; rintro e w2 ⟨rfl, rfl⟩)
        | (at_builtin; refine wpList_app1g segTy rfl _ _ rfl (w.heap.size + 2) (.slice A' k c') k (segCells (El.segsOf b k)) rfl ((unhide Hown).alloc _) #[.int .u32 sk, .int .u8 sfl, .int .u64 so, .int .u64 sa, .int .u64 sf, .int .u64 sm] _ rfl (by simp) rfl (sgVals_one ⟨sk, sfl, so, sa, sf, sm⟩) (by omega) (by simp; omega) ?_; intro A2 c2 wa hown' hgrow hat; replace Hpw := hide ((unhide Hpw).later2 (((Below.refl _ _).alloc hszs _).grown hgrow (by simp; omega) (fun k hk => ((unhide Hown).lt k hk).1))); replace Hown := hide hown'; clear hgrow hat hown' q0 q1 q2 q3 r3; obtain ⟨q0, q1, q2, q3⟩ := box_facts (unhide Hpw).head; have q4 := frozen_of_row _ _ 3 _ _ (unhide Hpw).head))
      go_roundw
      case rel =>
        refine ⟨k + 1, T, A2, c2, by omega, by go_num, rfl, (unhide HT3).symm, hT2, unhide Hro2, ?_, (unhide Hpw).setSegs⟩
        rw [unhide Ss, segCells_snoc]
        exact own_same (unhide Hown) (fun g hg _ => Below.heap_setCell _ _ _ _ (by simp; omega))
      case measure => simp [intOf]; omega

/-- What Parse answers of any bytes. -/
theorem parse_any (A : Option Addr) (m c : Nat) (b : List UInt8) (w : World) (hb : Rd w w.heap.size 1 A m (u8s b)) (hm : m ≤ 4294967296) (hmc : m ≤ c) :
    Calls Try.prog 8 #[.slice A m c] w (ParseEnd b w) := by
  cases hh : El.hdrOk b
  · refine (parse_nohdr A m c b w hb hm hmc hh).mono ?_
    rintro e w' ⟨rfl, hbl⟩
    unfold ParseEnd
    rw [show El.parse b = (13, ⟨0, 0, 0, []⟩) from by simp [El.parse, hh]]
    exact ⟨none, 0, rfl, World.ownsRow_nil _ _ _ _, hbl⟩
  · by_cases hin : Wd.num b 32 8 + Wd.num b 56 2 * 56 ≤ m
    · exact parse_in A m c b w hb hm hmc hh hin
    · exact parse_notin A m c b w hb hm hmc hh hin

end Go.Proofs.Ytkonolmakpeocaa
