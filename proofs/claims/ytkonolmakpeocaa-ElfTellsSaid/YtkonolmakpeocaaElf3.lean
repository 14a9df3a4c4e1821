/- The walks of elf.Loads, Span and first over any list of program headers. Conditions: the numbers fit their kinds; there are fewer than 2^32 headers. -/
import Derived.Test.YtkonolmakpeocaaElf2
import Derived.Test.YtkonolmakpeocaaApp2
namespace Go.Proofs.Ytkonolmakpeocaa
set_option linter.unusedVariables false
set_option linter.unusedSimpArgs false
open Go.RowKit

def sgVals (s : El.Sg) : List Value := [.int .u32 s.kind, .int .u8 s.flags, .int .u64 s.off, .int .u64 s.addr, .int .u64 s.fsz, .int .u64 s.msz]
def segCells (l : List El.Sg) : List Value := l.flatMap sgVals
/-- The fields fit their kinds. -/
def SgFit (s : El.Sg) : Prop := s.kind < 4294967296 ∧ s.flags < 256 ∧ s.off < 18446744073709551616 ∧ s.addr < 18446744073709551616 ∧ s.fsz < 18446744073709551616 ∧ s.msz < 18446744073709551616

theorem segCells_len (l : List El.Sg) : (segCells l).length = l.length * 6 := by
  induction l with
  | nil => rfl
  | cons s r ih =>
    have : segCells (s :: r) = sgVals s ++ segCells r := rfl
    rw [this, List.length_append, ih, List.length_cons]
    simp [sgVals]
    omega
theorem segCells_at (l : List El.Sg) : ∀ (k : Nat) (s : El.Sg), l[k]? = some s → ∀ j, j < 6 → (segCells l)[k * 6 + j]? = (sgVals s)[j]? := by
  induction l with
  | nil => intro k s h; simp at h
  | cons a r ih =>
    intro k s h j hj
    have e : segCells (a :: r) = sgVals a ++ segCells r := rfl
    have hl : (sgVals a).length = 6 := rfl
    cases k with
    | zero =>
      simp at h
      subst h
      rw [e, List.getElem?_append_left (by omega)]
      congr 1
      omega
    | succ k =>
      simp at h
      rw [e, List.getElem?_append_right (by omega), hl, show (k + 1) * 6 + j - 6 = k * 6 + j from by omega]
      exact ih k s h j hj
theorem seg_at {w : World} {B n : Nat} {A : Option Addr} {l : List El.Sg} (h : Rd w B 6 A n (segCells l)) {k : Nat} {s : El.Sg} (hk : l[k]? = some s) :
    ∃ b off, A = some ⟨b, off, none⟩ ∧ b < B ∧ w.cell? ⟨b, off + k * 6, none⟩ = some (.int .u32 s.kind) ∧ w.cell? ⟨b, off + k * 6 + 1, none⟩ = some (.int .u8 s.flags) ∧ w.cell? ⟨b, off + k * 6 + 2, none⟩ = some (.int .u64 s.off) ∧
      w.cell? ⟨b, off + k * 6 + 3, none⟩ = some (.int .u64 s.addr) ∧ w.cell? ⟨b, off + k * 6 + 4, none⟩ = some (.int .u64 s.fsz) ∧ w.cell? ⟨b, off + k * 6 + 5, none⟩ = some (.int .u64 s.msz) := by
  have hc := segCells_at l k s hk
  obtain ⟨b, off, e, hb, hx⟩ := h.open_ (by
    intro e0
    have := hc 0 (by omega)
    rw [e0] at this
    simp [sgVals] at this)
  have key : ∀ j u, j < 6 → (sgVals s)[j]? = some u → w.cell? ⟨b, off + k * 6 + j, none⟩ = some u := fun j u hj hu => by
    have := hx (k * 6 + j) u ((hc j hj).trans hu)
    rwa [← Nat.add_assoc] at this
  exact ⟨b, off, e, hb, key 0 _ (by omega) rfl, key 1 _ (by omega) rfl, key 2 _ (by omega) rfl, key 3 _ (by omega) rfl, key 4 _ (by omega) rfl, key 5 _ (by omega) rfl⟩
theorem segCells_app (a b : List El.Sg) : segCells (a ++ b) = segCells a ++ segCells b := by simp [segCells]
theorem segCells_snoc (o : List El.Sg) (s : El.Sg) : segCells (o ++ [s]) = segCells o ++ [.int .u32 s.kind, .int .u8 s.flags, .int .u64 s.off, .int .u64 s.addr, .int .u64 s.fsz, .int .u64 s.msz] := by simp [segCells, sgVals]
theorem sgVals_one (s : El.Sg) : ∀ u ∈ sgVals s, u.oneCell' = true := by
  intro u hu
  simp [sgVals] at hu
  rcases hu with rfl | rfl | rfl | rfl | rfl | rfl <;> rfl

theorem segTy : SlTy Try.prog 26 37 6 40 := slTy_mk (z := .agg #[.int .u32 0, .int .u8 0, .int .u64 0, .int .u64 0, .int .u64 0, .int .u64 0]) Try.underlying26 (by kernel_rfl) rfl (by omega) (by omega)

set_option maxHeartbeats 1000000 in
theorem loads_any (A : Option Addr) (n c B : Nat) (l : List El.Sg) (ty en ph : Int) (w : World) (hB : B ≤ w.heap.size) (hl : Rd w B 6 A n (segCells l)) (hn : n ≤ 4294967296) :
    Calls Try.prog 9 #[.agg #[.int .u16 ty, .int .u64 en, .int .u64 ph, .slice A n c]] w fun e w' => ∃ A' c', e = .returned (.slice A' (El.loads l).length c') ∧
      w'.ownsRow w.heap.size 37 6 (.slice A' (El.loads l).length c') (El.loads l).length (segCells (El.loads l)) ∧ Below w.heap.size w w' := by
  have hln : l.length = n := by have := hl.1; rw [segCells_len] at this; omega
  have Hl := hide hl
  have Hln := hide hln
  clear hl hln
  go_enter Try.func9, Try.ntmps9
  go_wp2
  go_loopw [2, 8] (fun out i wr => ∃ (k : Nat) (A' : Option Addr) (c' : Nat) (o : List El.Sg), k ≤ n ∧ i = .int .i64 k ∧ out = .slice A' o.length c' ∧ o = El.loads (l.take k) ∧ o.length ≤ k ∧
    wr.ownsRow w.heap.size 37 6 (.slice A' o.length c') o.length (segCells o) ∧ Below w.heap.size w wr) (fun _ i _ => n - (intOf i).toNat)
  case atStart => exact ⟨0, none, 0, [], Nat.zero_le _, rfl, rfl, rfl, Nat.le_refl _, World.ownsRow_nil _ _ _ _, (Below.refl _ _).alloc (Nat.le_refl _) _⟩
  case round =>
    obtain ⟨k, A', c', o, hk, rfl, rfl, ho, hok, hown, hb⟩ := hrel
    have Ho := hide ho
    have hsz := hb.size
    clear ho
    by_cases hlt : k < n
    · obtain ⟨s, hs⟩ : ∃ s, l[k]? = some s := ⟨_, List.getElem?_eq_getElem (by rw [unhide Hln]; exact hlt)⟩
      obtain ⟨b1, o1, rfl, hbb, c0, c1, c2, c3, c4, c5⟩ := seg_at ((unhide Hl).below (hb.mono hB)) hs
      by_cases hc : s.kind = 1
      · have hbq : (((s.kind : Nat) : Int) == 1) = true := by rw [hc]; rfl
        have ho2 : o ++ [s] = El.loads (l.take (k + 1)) := by
          rw [List.take_add_one, hs, unhide Ho]
          simp [El.loads, El.isLoad, hc]
        have Ho2 := hide ho2
        clear ho2 hs hc
        go_wp2_with (at_builtin; refine wpList_app1g segTy rfl _ _ rfl w.heap.size (.slice A' o.length c') o.length (segCells o) rfl (hown.alloc _) #[.int .u32 s.kind, .int .u8 s.flags, .int .u64 s.off, .int .u64 s.addr, .int .u64 s.fsz, .int .u64 s.msz] _ rfl (by simp) rfl (sgVals_one s) (by omega) (by simp; omega) ?_; intro A2 c2 w1 hown' hgrow hat; have hb1 := hide ((hb.alloc hsz _).grown hgrow (by simp; omega) (fun k hk => (hown.lt k hk).1)); have Hown' := hide hown'; clear hgrow hat hown')
        go_roundw
        case rel =>
          refine ⟨k + 1, A2, c2, o ++ [s], by omega, by go_num, by simp, unhide Ho2, by simp; omega, ?_, unhide hb1⟩
          rw [segCells_snoc]
          simpa using unhide Hown'
        case measure => simp [intOf]; omega
      · have hbq : (((s.kind : Nat) : Int) == 1) = false := by simp; omega
        have ho2 : o = El.loads (l.take (k + 1)) := by
          rw [List.take_add_one, hs, unhide Ho]
          simp [El.loads, El.isLoad, hc]
        have Ho2 := hide ho2
        clear ho2 hs hc
        go_wp2
        go_roundw
        case rel => exact ⟨k + 1, A', c', o, by omega, by go_num, rfl, unhide Ho2, by omega, hown.alloc _, hb.alloc hsz _⟩
        case measure => simp [intOf]; omega
    · have ho2 : o = El.loads l := by
        have := unhide Ho
        rwa [List.take_of_length_le (by have := unhide Hln; omega)] at this
      have Ho2 := hide ho2
      clear ho2
      go_wp2
      go_ret
      rw [← unhide Ho2]
      exact ⟨A', c', rfl, hown, hb⟩

end Go.Proofs.Ytkonolmakpeocaa
