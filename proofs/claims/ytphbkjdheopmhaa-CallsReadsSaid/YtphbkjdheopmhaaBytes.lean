/- The walks of the references that hold bytes: EqBytes, Roomy, Kept. Conditions: there are fewer than 2^32 bytes. -/
import Derived.Test.YtphbkjdheopmhaaOwn
import Derived.Test.YtphbkjdheopmhaaMore
import Derived.Test.YtphbkjdheopmhaaProg
import Derived.WalkSpells
import Derived.WalkLawsBesides
import Derived.BigQuiet
import Derived.Deep.QuietTactic
import Derived.Deep.LoopGhost
namespace Go.Proofs.Ytphbkjdheopmhaa
set_option linter.unusedVariables false
set_option linter.unusedSimpArgs false
open Go.RowKit

def bys (b : List UInt8) : List Value := b.map fun c => .int .u8 c.toNat
theorem bys_len (b : List UInt8) : (bys b).length = b.length := by simp [bys]
theorem bys_at {b : List UInt8} {i : Nat} {x : UInt8} (h : b[i]? = some x) : (bys b)[i]? = some (.int .u8 x.toNat) := by simp [bys, h]
theorem bys_set (b : List UInt8) (i : Nat) (x : UInt8) : (bys b).set i (.int .u8 x.toNat) = bys (b.set i x) := by simp [bys, List.map_set]
theorem bys_take (b : List UInt8) (k : Nat) : (bys b).take k = bys (b.take k) := by simp [bys]
theorem bys_app (a b : List UInt8) : bys (a ++ b) = bys a ++ bys b := by simp [bys]
theorem bInfo : (Try.prog.info? 5).map (fun i => (i.zero, i.size, i.bytes)) = some (some (.int .u8 0), 1, 1) := by kernel_rfl
theorem take_ext' {α : Type} {xs ys : List α} {k : Nat} {x : α} (h : xs.take k = ys.take k) (hx : xs[k]? = some x) (hy : ys[k]? = some x) : xs.take (k + 1) = ys.take (k + 1) := by
  rw [List.take_add_one, List.take_add_one, h, hx, hy]

theorem Rd.cutN {w : World} {B n k : Nat} {A : Option Addr} {xs : List Value} (h : Rd w B 1 A n xs) (hk : k ≤ n) : Rd w B 1 A k (xs.take k) := by
  have hl := h.len1
  refine ⟨by simp; omega, ?_⟩
  rcases h.2 with h0 | ⟨b, off, e, hb, hc⟩
  · exact .inl (by simp [h0])
  · refine .inr ⟨b, off, e, hb, fun j u hu => hc j u ?_⟩
    by_cases hj : j < k
    · rwa [List.getElem?_take_of_lt hj] at hu
    · rw [List.getElem?_take_eq_none (by omega)] at hu
      cases hu

set_option maxRecDepth 100000 in
set_option maxHeartbeats 2000000 in
theorem eqBytes_any (A B : Option Addr) (n m c d K : Nat) (xs ys : List UInt8) (w : World) (ha : Rd w K 1 A n (bys xs)) (hb : Rd w K 1 B m (bys ys)) (hn : n ≤ maxLen) (hm : m ≤ maxLen) :
    Calls Try.prog 18 #[.slice A n c, .slice B m d] w fun e w' => e = .returned (.bool (decide (xs = ys))) ∧ ∃ j, w' = w.drewN j := by
  have hxl : xs.length = n := by simpa [bys] using ha.len1
  have hyl : ys.length = m := by simpa [bys] using hb.len1
  unfold maxLen at hn hm
  have Hxl := hide hxl
  have Hyl := hide hyl
  have Ha := hide ha
  have Hb := hide hb
  clear hxl hyl ha hb
  go_enter Try.func18, Try.ntmps18
  go_wp2
  go_loopw [5] (fun at_ wr => ∃ k j : Nat, at_ = .int .i64 k ∧ k ≤ n ∧ k ≤ m ∧ xs.take k = ys.take k ∧ wr = w.drewN j) (fun at_ _ => n - (intOf at_).toNat)
  case atStart => exact ⟨0, 0, rfl, Nat.zero_le _, Nat.zero_le _, rfl, rfl⟩
  case round =>
    obtain ⟨k, j, rfl, hkn, hkm, htk, rfl⟩ := hrel
    have Htk := hide htk
    clear htk
    by_cases h1 : k < n
    · have d1 : decide (k < n) = true := by simpa using h1
      have i1 : (k : Int) < (n : Int) := by omega
      by_cases h2 : k < m
      · have d2 : decide (k < m) = true := by simpa using h2
        have i2 : (k : Int) < (m : Int) := by omega
        obtain ⟨x, hx⟩ : ∃ x, xs[k]? = some x := ⟨_, List.getElem?_eq_getElem (by rw [unhide Hxl]; exact h1)⟩
        obtain ⟨y, hy⟩ : ∃ y, ys[k]? = some y := ⟨_, List.getElem?_eq_getElem (by rw [unhide Hyl]; exact h2)⟩
        obtain ⟨b1, o1, rfl, _, c1⟩ := (unhide Ha).at_ (k := k) (u := .int .u8 x.toNat) (bys_at hx)
        obtain ⟨b2, o2, rfl, _, c2⟩ := (unhide Hb).at_ (k := k) (u := .int .u8 y.toNat) (bys_at hy)
        have Hx := hide hx
        have Hy := hide hy
        have hbq := byte_eq x y
        clear hx hy
        by_cases he : x = y
        · have q : (((x.toNat : Nat) : Int) == ((y.toNat : Nat) : Int)) = true := by rw [hbq]; simpa using he
          subst he
          clear hbq
          go_wp2
          go_quiet (fail)
          go_wp2
          go_round
          case rel => exact ⟨k + 1, j + nq, by go_num, by omega, by omega, take_ext' (unhide Htk) (unhide Hx) (unhide Hy), rfl⟩
          case measure => simp [intOf]; omega
        · have q : (((x.toNat : Nat) : Int) == ((y.toNat : Nat) : Int)) = false := by rw [hbq]; simpa using he
          have He := hide he
          clear hbq he
          generalize hxn : ((x.toNat : Nat) : Int) = xn at *
          generalize hyn : ((y.toNat : Nat) : Int) = yn at *
          clear hxn hyn
          go_wp2
          go_quiet (fail)
          go_wp2
          go_ret
          refine ⟨ret_bool ?_, _, rfl⟩
          symm
          simp only [decide_eq_false_iff_not]
          rintro rfl
          exact unhide He (Option.some.inj ((unhide Hx).symm.trans (unhide Hy)))
      · have d2 : decide (k < m) = false := by simpa using h2
        go_wp2
        go_quiet (fail)
        go_wp2
        go_ret
        refine ⟨ret_bool ?_, _, rfl⟩
        symm
        simp only [decide_eq_false_iff_not]
        rintro rfl
        have := unhide Hxl
        have := unhide Hyl
        omega
    · have d1 : decide (k < n) = false := by simpa using h1
      go_wp2
      go_quiet (fail)
      go_wp2
      go_ret
      refine ⟨ret_bool ?_, _, rfl⟩
      have hl1 := unhide Hxl
      have hl2 := unhide Hyl
      rw [Bool.eq_iff_iff, beq_iff_eq, decide_eq_true_eq]
      constructor
      · intro e
        have e' := unhide Htk
        rwa [List.take_of_length_le (by omega), List.take_of_length_le (by omega)] at e'
      · rintro rfl
        omega

/-- What stands behind what Roomy gives. -/
def spare : List UInt8 := [99, 98, 97, 96, 95, 94, 93]
theorem spare_at {j : Nat} (h : j < 7) : spare[j]? = some (UInt8.ofNat (99 - j)) := by
  match j, h with
  | 0, _ => rfl
  | 1, _ => rfl
  | 2, _ => rfl
  | 3, _ => rfl
  | 4, _ => rfl
  | 5, _ => rfl
  | 6, _ => rfl
/-- What has been laid after k rounds. -/
def laidTo (F : List UInt8) (k : Nat) : List UInt8 := F.take k ++ List.replicate (F.length - k) 0
theorem laidTo_len {F : List UInt8} {k : Nat} (h : k ≤ F.length) : (laidTo F k).length = F.length := by simp [laidTo]; omega
theorem laidTo_set {F : List UInt8} {k : Nat} {x : UInt8} (h : F[k]? = some x) : (laidTo F k).set k x = laidTo F (k + 1) := by
  have hk : k < F.length := (List.getElem?_eq_some_iff.1 h).1
  unfold laidTo
  rw [List.take_add_one, h, show F.length - k = (F.length - (k + 1)) + 1 from by omega, List.replicate_succ]
  rw [List.set_append]
  simp [Nat.min_eq_left (Nat.le_of_lt hk)]
theorem laidTo_end (F : List UInt8) : laidTo F F.length = F := by simp [laidTo]
theorem laidTo_zero (F : List UInt8) : laidTo F 0 = List.replicate F.length 0 := by simp [laidTo]

set_option maxRecDepth 100000 in
set_option maxHeartbeats 2000000 in
theorem roomy_any (A : Option Addr) (m c B : Nat) (b : List UInt8) (w : World) (hB : B ≤ w.heap.size) (hb : Rd w B 1 A m (bys b)) (hm : m ≤ 4294967296) :
    Calls Try.prog 20 #[.slice A m c] w fun e w' => ∃ g, e = .returned (.slice (some ⟨g, 0, none⟩) m (m + 7)) ∧
      w'.ownsRow w.heap.size 5 1 (.slice (some ⟨g, 0, none⟩) (m + 7) (m + 7)) (m + 7) (bys (b ++ spare)) ∧ Below w.heap.size w w' := by
  have hbl : b.length = m := by simpa [bys] using hb.len1
  obtain ⟨i, hi, hz0, hz1, hz2⟩ := info_parts bInfo
  have hF : (b ++ spare).length = m + 7 := by simp [hbl, spare]
  have HF := hide hF
  have Hb := hide hb
  have Hbl := hide hbl
  have Hi := hide hi
  have Hz0 := hide hz0
  have Hz1 := hide hz1
  have Hz2 := hide hz2
  clear hb hbl hi hz0 hz1 hz2 hF
  go_enter Try.func20, Try.ntmps20
  go_wp2_with (at_make; refine wpList_make_full _ rfl _ _ 24 rfl w.heap.size 5 i (.int .u8 0) 1 Try.underlying24 (unhide Hi) (unhide Hz0) (unhide Hz1) _ _ _ _ (m + 7) rfl rfl (by omega) (by omega) (by rw [unhide Hz2]; omega) (by unfold maxLen; omega) (Nat.le_refl _) ?_; intro w1 hown hgrow; have hb1 := (Below.refl w.heap.size w).grown hgrow (Nat.le_refl _) (fun k hk => by cases hk); have Hown := hide hown; have Hb1 := hide hb1; clear hown hgrow hb1)
  go_loopg [5] (m + 7) (fun gk at_ wr => ∃ k : Nat, gk = m + 7 - k ∧ k ≤ m + 7 ∧ at_ = .int .i64 k ∧ wr.ownsRow w.heap.size 5 1 (.slice (some ⟨w.heap.size, 0, none⟩) (m + 7) (m + 7)) (m + 7) (bys (laidTo (b ++ spare) k)) ∧ Below w.heap.size w wr)
  case atStart =>
    refine ⟨0, by omega, by omega, rfl, ?_, unhide Hb1⟩
    have := unhide Hown
    have e : (madeCells (Value.int .u8 0).cells ((m + 7) * 1)).toList = bys (laidTo (b ++ spare) 0) := by
      rw [laidTo_zero, unhide HF]
      simp [bys, Value.cells, toList_madeCells_one]
    rwa [e] at this
  case round =>
  obtain ⟨k, hgk, hk, rfl, hown, hb2⟩ := hrel
  have Hgk := hide hgk
  have Hown := hide hown
  have Hb2 := hide hb2
  clear hown hb2 hgk
  rcases Nat.lt_or_ge k (m + 7) with hlt | hge
  case inr =>
    obtain rfl : k = m + 7 := by omega
    have hown := unhide Hown
    have e : laidTo (b ++ spare) (m + 7) = b ++ spare := by rw [← unhide HF]; exact laidTo_end _
    rw [e] at hown
    have Hown2 := hide hown
    clear hown e hge
    go_wp2
    go_ret
    exact ⟨w.heap.size, rfl, unhide Hown2, unhide Hb2⟩
  obtain ⟨x, hx⟩ : ∃ x, (b ++ spare)[k]? = some x := ⟨_, List.getElem?_eq_getElem (by rw [unhide HF]; exact hlt)⟩
  obtain ⟨z, hz⟩ : ∃ z, (laidTo (b ++ spare) k)[k]? = some z := ⟨_, List.getElem?_eq_getElem (by rw [laidTo_len (by rw [unhide HF]; omega), unhide HF]; omega)⟩
  have hset := own_set (i := k) (unhide Hown) (.int .u8 x.toNat)
  rw [bys_set, laidTo_set hx] at hset
  have hc2 := own_cell (unhide Hown) (bys_at hz)
  have hf2 := own_free (unhide Hown) k
  obtain ⟨hg3, hg4, hg5⟩ := own_at (unhide Hown)
  have Hset := hide hset
  clear hset hz
  by_cases hkm : k < m
  · obtain ⟨b1, o1, rfl, hbb, c1⟩ := ((unhide Hb).below ((unhide Hb2).mono hB)).at_ (k := k) (u := .int .u8 x.toNat) (by rw [List.getElem?_append_left (by rw [unhide Hbl]; exact hkm)] at hx; exact bys_at hx)
    clear hx
    go_wp2
    go_roundg (m + 7 - (k + 1))
    case measure => have := unhide Hgk; omega
    case rel => exact ⟨k + 1, rfl, by omega, by go_num, unhide Hset, (unhide Hb2).setCell hg3 _⟩
  · have hxv : ((x.toNat : Nat) : Int) = 99 - ((k : Int) - (m : Int)) := by
      rw [List.getElem?_append_right (by rw [unhide Hbl]; omega), unhide Hbl, spare_at (by omega)] at hx
      injection hx with hx
      rw [← hx]
      simp
      omega
    rw [hxv] at Hset
    clear hx hxv
    go_wp2
    go_roundg (m + 7 - (k + 1))
    case measure => have := unhide Hgk; omega
    case rel => exact ⟨k + 1, rfl, by omega, by go_num, unhide Hset, (unhide Hb2).setCell hg3 _⟩

set_option maxRecDepth 100000 in
set_option maxHeartbeats 2000000 in
theorem kept_yes (g : Nat) (A : Option Addr) (m c B : Nat) (b : List UInt8) (w : World) (hi : Rd w B 1 (some ⟨g, 0, none⟩) (m + 7) (bys (b ++ spare))) (hb : Rd w B 1 A m (bys b)) (hm : m ≤ 4294967296) :
    Calls Try.prog 23 #[.slice (some ⟨g, 0, none⟩) m (m + 7), .slice A m c] w fun e w' => e = .returned (.bool true) ∧ ∃ j, w' = w.drewN j := by
  have hbl : b.length = m := by simpa [bys] using hb.len1
  have hcut := hi.cutN (k := m) (by omega)
  rw [bys_take, List.take_append_of_le_length (by omega), List.take_of_length_le (by omega)] at hcut
  have heq := fun (w' : World) (hw : ∀ p : Addr, p.block < B → w'.cell? p = w.cell? p) => eqBytes_any (some ⟨g, 0, none⟩) A m m (m + 7) c B b b w' (hcut.keep hw) (hb.keep hw) (by unfold maxLen; omega) (by unfold maxLen; omega)
  rw [decide_eq_true rfl] at heq
  have Heq := hide heq
  have Hi := hide hi
  have Hbl := hide hbl
  clear heq hi hb hbl hcut
  go_enter Try.func23, Try.ntmps23
  go_wp2
  go_loopg [7, 8] 7 (fun gk left at_ wr => ∃ k : Nat, gk = 7 - k ∧ k ≤ 7 ∧ at_ = .int .i64 ((m : Int) + (k : Int)) ∧ left = .int .i64 (7 - (k : Int)) ∧ wr = w)
  case atStart => exact ⟨0, by omega, by omega, by go_num, rfl, rfl⟩
  case round =>
  obtain ⟨k, hgk, hk, rfl, rfl, rfl⟩ := hrel
  have Hgk := hide hgk
  clear hgk
  rcases Nat.lt_or_ge k 7 with hlt | hge
  case inr =>
    obtain rfl : k = 7 := by omega
    go_wp2_with (go_at_call 18; refine ((unhide Heq) _ (fun _ _ => rfl)).mono ?_; rintro e w5 ⟨rfl, j, rfl⟩)
    go_ret
    exact ⟨rfl, j, rfl⟩
  obtain ⟨b1, o1, he, hbb, c1⟩ := (unhide Hi).at_ (k := m + k) (u := .int .u8 ((UInt8.ofNat (99 - k)).toNat)) (bys_at (by rw [List.getElem?_append_right (by rw [unhide Hbl]; omega), unhide Hbl, show m + k - m = k from by omega, spare_at hlt]))
  obtain ⟨rfl, rfl⟩ : g = b1 ∧ 0 = o1 := by injection he with he; injection he with h1 h2 h3; exact ⟨h1, h2⟩
  have hxv : (((UInt8.ofNat (99 - k)).toNat : Nat) : Int) = 99 - (k : Int) := by simp; omega
  rw [hxv, Nat.zero_add] at c1
  have h1 : (m : Int) + (k : Int) - (m : Int) = (k : Int) := by omega
  have h2 : ((99 - (k : Int)) == 99 - ((m : Int) + (k : Int) - (m : Int))) = true := by rw [h1]; simp
  clear he h1 hxv
  go_wp2
  go_roundg (7 - (k + 1))
  case measure => have := unhide Hgk; omega
  case rel => exact ⟨k + 1, rfl, by omega, by go_num, by go_num, rfl⟩

end Go.Proofs.Ytphbkjdheopmhaa
