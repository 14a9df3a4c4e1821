/- Texts of the claim LawMakerMakes (MkR7): what the functions that the statement reaches compute, and plain laws of it. Conditions: those that each theorem states. -/
import Derived.Test.YtnbecdahfgkffaaGreatMmK3
set_option linter.unusedVariables false
set_option linter.unusedSimpArgs false
namespace Go.Proofs.YtnbecdahfgkffaaGreat
open Go.RowKit
set_option maxRecDepth 100000 in
set_option maxHeartbeats 2000000 in
theorem same0m_any (A1 A2 A3 : Option Addr) (c1 c2 c3 : Nat) (w : World) : Calls Tryz.prog 21 #[.agg #[.slice A1 0 c1, .string ⟨#[]⟩, .string ⟨#[]⟩, .slice A2 0 c2, .slice A3 0 c3], .agg #[.slice none 0 0, .string ⟨#[]⟩, .string ⟨#[]⟩, .slice none 0 0, .slice none 0 0]] w fun e w' => e = .returned (.bool true) ∧ Below w.heap.size w w' := by
  have e1 : (w.alloc (.cells #[.slice A1 0 c1, .string ⟨#[]⟩, .string ⟨#[]⟩, .slice A2 0 c2, .slice A3 0 c3] 29)).heap.size = w.heap.size + 1 := by simp
  have hB : Below w.heap.size w ((w.alloc (.cells #[.slice A1 0 c1, .string ⟨#[]⟩, .string ⟨#[]⟩, .slice A2 0 c2, .slice A3 0 c3] 29)).alloc (.cells #[.slice none 0 0, .string ⟨#[]⟩, .string ⟨#[]⟩, .slice none 0 0, .slice none 0 0] 29)) := ((Below.refl _ _).alloc (Nat.le_refl _) _).alloc (by rw [e1]; omega) _
  have hx := (Blk.new w 29 [.slice A1 0 c1, .string ⟨#[]⟩, .string ⟨#[]⟩, .slice A2 0 c2, .slice A3 0 c3]).alloc (.cells #[.slice none 0 0, .string ⟨#[]⟩, .string ⟨#[]⟩, .slice none 0 0, .slice none 0 0] 29)
  have hy := Blk.new (w.alloc (.cells #[.slice A1 0 c1, .string ⟨#[]⟩, .string ⟨#[]⟩, .slice A2 0 c2, .slice A3 0 c3] 29)) 29 [.slice none 0 0, .string ⟨#[]⟩, .string ⟨#[]⟩, .slice none 0 0, .slice none 0 0]
  rw [e1] at hy
  obtain ⟨x0, x1, x2, x3, x4⟩ := And.intro (hx.cell (i := 0) rfl) (And.intro (hx.cell (i := 1) rfl) (And.intro (hx.cell (i := 2) rfl) (And.intro (hx.cell (i := 3) rfl) (hx.cell (i := 4) rfl))))
  obtain ⟨y0, y1, y2, y3, y4⟩ := And.intro (hy.cell (i := 0) rfl) (And.intro (hy.cell (i := 1) rfl) (And.intro (hy.cell (i := 2) rfl) (And.intro (hy.cell (i := 3) rfl) (hy.cell (i := 4) rfl))))
  have KE := hide (eqTexts_any A1 none 0 0 c1 0 0 [] [] ((w.alloc (.cells #[.slice A1 0 c1, .string ⟨#[]⟩, .string ⟨#[]⟩, .slice A2 0 c2, .slice A3 0 c3] 29)).alloc (.cells #[.slice none 0 0, .string ⟨#[]⟩, .string ⟨#[]⟩, .slice none 0 0, .slice none 0 0] 29)) (Rd.none_ _ _ _ _) (Rd.none_ _ _ _ _) (Nat.zero_le _) (Nat.zero_le _))
  have HX := hide hx
  have HY := hide hy
  have HB := hide hB
  clear hx hy hB e1
  go_enter Tryz.func21, Tryz.ntmps21
  go_wp2_with fail
  refine (unhide KE).mono ?_
  rintro e w1 ⟨rfl, j, rfl⟩
  have hx := (unhide HX).drewN j
  have hy := (unhide HY).drewN j
  have hb := below_drewN' (unhide HB) j
  obtain ⟨V, hV⟩ : ∃ V, ((w.alloc (.cells #[.slice A1 0 c1, .string ⟨#[]⟩, .string ⟨#[]⟩, .slice A2 0 c2, .slice A3 0 c3] 29)).alloc (.cells #[.slice none 0 0, .string ⟨#[]⟩, .string ⟨#[]⟩, .slice none 0 0, .slice none 0 0] 29)).drewN j = V := ⟨_, rfl⟩
  rw [hV] at hx hy hb
  rw [hV]
  clear x0 x1 x2 x3 x4 y0 y1 y2 y3 y4 hV HX HY HB KE
  obtain ⟨x3, x4⟩ := And.intro (hx.cell (i := 3) rfl) (hx.cell (i := 4) rfl)
  obtain ⟨y3, y4⟩ := And.intro (hy.cell (i := 3) rfl) (hy.cell (i := 4) rfl)
  have HB := hide hb
  clear hx hy hb
  go_wp2_with fail
  go_loopg [5] 0 (fun gk iv wr => gk = 0 ∧ iv = .int .i64 0 ∧ V = wr)
  case atStart => exact ⟨rfl, rfl, rfl⟩
  case round =>
  obtain ⟨hgk, rfl, rfl⟩ := hrel
  go_wp2_with fail
  go_loopg [6] 0 (fun gk iv wr => gk = 0 ∧ iv = .int .i64 0 ∧ V = wr)
  case atStart => exact ⟨rfl, rfl, rfl⟩
  case round =>
  obtain ⟨hgk, rfl, rfl⟩ := hrel
  go_wp2_with fail
  go_ret
  exact ⟨rfl, unhide HB⟩
set_option maxRecDepth 100000 in
set_option maxHeartbeats 4000000 in
theorem rsameZ_any (A1 A2 A3 : Option Addr) (c1 c2 c3 nd sy re : Nat) (nl : List ByteArray) (so ru : ByteArray) (B : Nat) (w : World) (hB : B ≤ w.heap.size) (hnl : nl.length = nd) (hnd : nd ≤ 4294967296) (hsy : sy ≤ 4294967296) (hre : re ≤ 4294967296) (hn : Rd w B 1 A1 nd (nl.map Value.string)) :
    Calls Tryz.prog 21 #[.agg #[.slice A1 nd c1, .string so, .string ru, .slice A2 sy c2, .slice A3 re c3], .agg #[.slice none 0 0, .string ⟨#[]⟩, .string ⟨#[]⟩, .slice none 0 0, .slice none 0 0]] w fun e w' => e = .returned (.bool (decide (nd + sy + re = 0) && (decide (so.size = 0) && decide (ru.size = 0)))) ∧ Below w.heap.size w w' := by
  by_cases hz : (nd = 0 ∧ sy = 0 ∧ re = 0) ∧ so.size = 0 ∧ ru.size = 0
  · obtain ⟨⟨rfl, rfl, rfl⟩, h1, h2⟩ := hz
    obtain rfl : so = ⟨#[]⟩ := by cases so with | mk d => have : d = #[] := Array.eq_empty_of_size_eq_zero h1; rw [this]
    obtain rfl : ru = ⟨#[]⟩ := by cases ru with | mk d => have : d = #[] := Array.eq_empty_of_size_eq_zero h2; rw [this]
    exact same0m_any A1 A2 A3 c1 c2 c3 w
  have hres : (decide (nd + sy + re = 0) && (decide (so.size = 0) && decide (ru.size = 0))) = false := by
    rw [Bool.and_eq_false_iff, Bool.and_eq_false_iff, decide_eq_false_iff_not, decide_eq_false_iff_not, decide_eq_false_iff_not]
    by_cases a : nd + sy + re = 0
    · by_cases b : so.size = 0
      · right; right; intro c; exact hz ⟨⟨by omega, by omega, by omega⟩, b, c⟩
      · right; left; exact b
    · left; exact a
  rw [hres]
  have e1 : (w.alloc (.cells #[.slice A1 nd c1, .string so, .string ru, .slice A2 sy c2, .slice A3 re c3] 29)).heap.size = w.heap.size + 1 := by simp
  have hB2 : Below w.heap.size w ((w.alloc (.cells #[.slice A1 nd c1, .string so, .string ru, .slice A2 sy c2, .slice A3 re c3] 29)).alloc (.cells #[.slice none 0 0, .string ⟨#[]⟩, .string ⟨#[]⟩, .slice none 0 0, .slice none 0 0] 29)) := ((Below.refl _ _).alloc (Nat.le_refl _) _).alloc (by rw [e1]; omega) _
  have hx := (Blk.new w 29 [.slice A1 nd c1, .string so, .string ru, .slice A2 sy c2, .slice A3 re c3]).alloc (.cells #[.slice none 0 0, .string ⟨#[]⟩, .string ⟨#[]⟩, .slice none 0 0, .slice none 0 0] 29)
  have hy := Blk.new (w.alloc (.cells #[.slice A1 nd c1, .string so, .string ru, .slice A2 sy c2, .slice A3 re c3] 29)) 29 [.slice none 0 0, .string ⟨#[]⟩, .string ⟨#[]⟩, .slice none 0 0, .slice none 0 0]
  rw [e1] at hy
  obtain ⟨x0, x1, x2, x3, x4⟩ := And.intro (hx.cell (i := 0) rfl) (And.intro (hx.cell (i := 1) rfl) (And.intro (hx.cell (i := 2) rfl) (And.intro (hx.cell (i := 3) rfl) (hx.cell (i := 4) rfl))))
  obtain ⟨y0, y1, y2, y3, y4⟩ := And.intro (hy.cell (i := 0) rfl) (And.intro (hy.cell (i := 1) rfl) (And.intro (hy.cell (i := 2) rfl) (And.intro (hy.cell (i := 3) rfl) (hy.cell (i := 4) rfl))))
  have KE := hide (eqTexts_any A1 none nd 0 c1 0 B nl [] ((w.alloc (.cells #[.slice A1 nd c1, .string so, .string ru, .slice A2 sy c2, .slice A3 re c3] 29)).alloc (.cells #[.slice none 0 0, .string ⟨#[]⟩, .string ⟨#[]⟩, .slice none 0 0, .slice none 0 0] 29)) (hn.below (hB2.mono hB)) (Rd.none_ _ _ _ _) (by unfold maxLen; omega) (Nat.zero_le _))
  have HX := hide hx
  have HY := hide hy
  have HB := hide hB2
  have Hz := hide hz
  have Hnl := hide hnl
  clear hx hy hB2 e1 hres hn hz hnl
  by_cases ha : so.size = 0
  case neg =>
    have hq := toList_some ha
    clear ha
    go_enter Tryz.func21, Tryz.ntmps21
    go_wp2_with fail
    go_ret
    exact ⟨rfl, unhide HB⟩
  have hq := toList_empty ha
  have Ha := hide ha
  clear ha
  by_cases hb : ru.size = 0
  case neg =>
    have hq2 := toList_some hb
    clear hb
    go_enter Tryz.func21, Tryz.ntmps21
    go_wp2_with fail
    go_ret
    exact ⟨rfl, unhide HB⟩
  have hq2 := toList_empty hb
  have Hb := hide hb
  clear hb
  go_enter Tryz.func21, Tryz.ntmps21
  go_wp2_with fail
  refine (unhide KE).mono ?_
  rintro e w1 ⟨rfl, j, rfl⟩
  have hx := (unhide HX).drewN j
  have hy := (unhide HY).drewN j
  have hb := below_drewN' (unhide HB) j
  obtain ⟨V, hV⟩ : ∃ V, ((w.alloc (.cells #[.slice A1 nd c1, .string so, .string ru, .slice A2 sy c2, .slice A3 re c3] 29)).alloc (.cells #[.slice none 0 0, .string ⟨#[]⟩, .string ⟨#[]⟩, .slice none 0 0, .slice none 0 0] 29)).drewN j = V := ⟨_, rfl⟩
  rw [hV] at hx hy hb
  rw [hV]
  clear x0 x1 x2 x3 x4 y0 y1 y2 y3 y4 hV HX HY HB KE
  obtain ⟨x3, x4⟩ := And.intro (hx.cell (i := 3) rfl) (hx.cell (i := 4) rfl)
  obtain ⟨y3, y4⟩ := And.intro (hy.cell (i := 3) rfl) (hy.cell (i := 4) rfl)
  have HB := hide hb
  clear hx hy hb
  by_cases hnn : nd = 0
  case neg =>
    have hd : decide (nl = []) = false := by rw [decide_eq_false_iff_not]; intro e; have := unhide Hnl; rw [e] at this; exact hnn this.symm
    have hd2 : nl ≠ [] := of_decide_eq_false hd
    clear hnn
    go_wp2_with fail
    go_ret
    exact ⟨rfl, unhide HB⟩
  have hd : nl = [] := List.eq_nil_of_length_eq_zero (by rw [unhide Hnl]; exact hnn)
  subst hd
  have Hnn := hide hnn
  clear hnn
  by_cases hs : sy = 0
  case neg =>
    have hq3 : ((sy : Int) != 0) = true := by rw [bne_iff_ne]; omega
    have hq4 : ¬ sy = 0 := hs
    clear hs
    go_wp2_with fail
    go_ret
    exact ⟨rfl, unhide HB⟩
  have hr : ¬ re = 0 := fun e => (unhide Hz) ⟨⟨unhide Hnn, hs, e⟩, unhide Ha, unhide Hb⟩
  have hq3 : ((sy : Int) != 0) = false := by rw [hs]; rfl
  have hq5 : ((re : Int) != 0) = true := by rw [bne_iff_ne]; omega
  clear hs
  go_wp2_with fail
  go_ret
  exact ⟨rfl, unhide HB⟩
end Go.Proofs.YtnbecdahfgkffaaGreat
