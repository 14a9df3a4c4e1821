/- The walks of the statements of stage 2: each returns true and changes nothing that was there. Condition: the texts are shorter than 2^62 bytes. -/
import Derived.Test.YteknfjgmbkhfaaaPathsRef
import Derived.Test.YteknfjgmbkhfaaaPathsLaw
namespace Go.Proofs.Yteknfjgmbkhfaaa
set_option linter.unusedVariables false
set_option linter.unusedSimpArgs false
open Go.RowKit

theorem partsL_len (p : ByteArray) : (Pth.partsL p).length ≤ 201 := by
  unfold Pth.partsL
  split
  · rename_i h
    have h1 := Pth.chk_size p h
    have h2 := pcs_len p
    have h3 : (Pth.parts p).length ≤ (Pth.pcs p).length := List.length_filter_le _ _
    omega
  · simp

theorem parts_works (w : World) : Calls Try.prog 9 #[.string ⟨#[47, 97, 47, 47, 98, 47, 46, 47, 46, 46]⟩] w fun e w' => ∃ b c, e = .returned (.tuple #[.slice (some ⟨b, 0, none⟩) 3 c, .bool true, .int .i64 0]) ∧
    w'.cell? ⟨b, 0, none⟩ = some (.string ⟨#[97]⟩) ∧ w'.cell? ⟨b, 2, none⟩ = some (.string ⟨#[46, 46]⟩) ∧ Below w.heap.size w w' := by
  refine (parts_any ⟨#[47, 97, 47, 47, 98, 47, 46, 47, 46, 46]⟩ (by unfold maxLen; decide) w).mono ?_
  rintro e w' ⟨A, c, rfl, hown, hb⟩
  have e1 : Pth.partsL ⟨#[47, 97, 47, 47, 98, 47, 46, 47, 46, 46]⟩ = [⟨#[97]⟩, ⟨#[98]⟩, ⟨#[46, 46]⟩] := by decide +kernel
  have e2 : Pth.rootB ⟨#[47, 97, 47, 47, 98, 47, 46, 47, 46, 46]⟩ = true := by decide +kernel
  have e3 : Pth.chk ⟨#[47, 97, 47, 47, 98, 47, 46, 47, 46, 46]⟩ = 0 := by decide +kernel
  rw [e1] at hown ⊢
  rw [e2, e3]
  have hr := Rd.of_own hown
  rcases hr.2 with h | ⟨b, off, rfl, _, hc⟩
  · cases h
  · rcases hown.2 with ⟨h, _⟩ | ⟨g, cap, cur, h, _⟩
    · cases h
    · injection h with h1 h2 h3
      injection h1 with h1
      injection h1 with h1 h4 h5
      subst h4
      have c0 := hc 0 (.string ⟨#[97]⟩) rfl
      have c2 := hc 2 (.string ⟨#[46, 46]⟩) rfl
      rw [Nat.zero_add] at c0 c2
      exact ⟨b, c, rfl, c0, c2, hb⟩

theorem works_any (w : World) : Calls Try.prog 8 #[] w fun e w' => e = .returned (.bool true) ∧ Below w.heap.size w w' := by
  have hb1 : ∀ w, Calls Try.prog 16 #[.string ⟨#[47, 97, 47, 98]⟩] w fun e w' => e = .returned (.string ⟨#[98]⟩) ∧ w = w' := fun w => by
    have e : Pth.baseB ⟨#[47, 97, 47, 98]⟩ = ⟨#[98]⟩ := by decide +kernel
    rw [← e]
    exact base_any _ (by decide) w
  have hd1 : ∀ w, Calls Try.prog 18 #[.string ⟨#[47, 97, 47, 98]⟩] w fun e w' => e = .returned (.string ⟨#[47, 97]⟩) ∧ w = w' := fun w => by
    have e : Pth.dirB ⟨#[47, 97, 47, 98]⟩ = ⟨#[47, 97]⟩ := by decide +kernel
    rw [← e]
    exact dir_any _ (by decide) w
  have hj1 : ∀ w, Calls Try.prog 14 #[.string ⟨#[97]⟩, .string ⟨#[98]⟩] w fun e w' => e = .returned (.string ⟨#[97, 47, 98]⟩) ∧ w = w' := fun w => by
    have e : Pth.joinB ⟨#[97]⟩ ⟨#[98]⟩ = ⟨#[97, 47, 98]⟩ := by decide +kernel
    rw [← e]
    exact join_any _ _ (by decide) (by decide) w
  have hc1 : ∀ w, Calls Try.prog 11 #[.string ⟨#[]⟩] w fun e w' => e = .returned (.int .i64 3) ∧ Below w.heap.size w w' := fun w => by
    have e : Pth.chk ⟨#[]⟩ = 3 := by decide +kernel
    rw [← e]
    exact check_any _ (by unfold maxLen; decide) w
  have Hb := hide hb1
  have Hd := hide hd1
  have Hj := hide hj1
  have Hc := hide hc1
  clear hb1 hd1 hj1 hc1
  go_enter Try.func8, Try.ntmps8
  go_wp2_with (first
    | (go_at_call 9; refine (parts_works _).mono ?_; rintro e w1 ⟨b, c, rfl, c0, c2, hb⟩; have HB := hide hb; clear hb)
    | (go_at_call 16; refine ((unhide Hb) _).mono ?_; rintro e w1 ⟨rfl, rfl⟩)
    | (go_at_call 18; refine ((unhide Hd) _).mono ?_; rintro e w1 ⟨rfl, rfl⟩)
    | (go_at_call 14; refine ((unhide Hj) _).mono ?_; rintro e w1 ⟨rfl, rfl⟩)
    | (go_at_call 11; refine ((unhide Hc) _).mono ?_; rintro e w2 ⟨rfl, hb2⟩))
  go_ret
  exact ⟨rfl, (unhide HB).trans (hb2.mono (unhide HB).size)⟩

theorem pathsChecks_walk (p : ByteArray) (w : World) (hp : p.size ≤ maxLen) :
    Calls Try.prog 3 #[.string p] w fun e w' => e = .returned (.bool true) ∧ Below w.heap.size w w' := by
  unfold maxLen at hp
  by_cases hz : 131072 < p.size
  · go_enter Try.func3, Try.ntmps3
    go_wp2_with (go_at_call 8; refine (works_any _).mono ?_; rintro e w1 ⟨rfl, hb⟩)
    go_ret
    exact ⟨rfl, hb⟩
  · have hl := partsL_len p
    have hml : (Pth.partsL p).length ≤ maxLen := by unfold maxLen; omega
    have Hml := hide hml
    clear hml
    go_enter Try.func3, Try.ntmps3
    go_wp2_with (first
      | (go_at_call 9; refine (parts_any p (by unfold maxLen; omega) _).mono ?_; rintro e w1 ⟨A1, c1, rfl, ho1, hb1⟩)
      | (go_at_call 10; refine (rparts_any p (by omega) _).mono ?_; rintro e w2 ⟨A2, c2, rfl, ho2, hb2⟩)
      | (go_at_call 11; refine (check_any p (by unfold maxLen; omega) _).mono ?_; rintro e w3 ⟨rfl, hb3⟩)
      | (go_at_call 12; refine (rcheck_any p (by omega) _).mono ?_; rintro e w4 ⟨rfl, hb4⟩; have hr1 := ((((Rd.of_own ho1).belowSz hb2).belowSz hb3).belowSz hb4); have hr2 := ((Rd.of_own ho2).belowSz hb3).belowSz hb4; have Hr1 := hide hr1; have Hr2 := hide hr2; clear hr1 hr2)
      | (go_at_call 13; refine (eqTexts_any _ _ _ _ _ _ _ _ _ _ (unhide Hr1) (unhide Hr2) (unhide Hml) (unhide Hml)).mono ?_; rintro e w5 ⟨rfl, j, rfl⟩)
      | (go_at_call 8; refine (works_any _).mono ?_; rintro e w6 ⟨rfl, hb6⟩))
    go_ret
    have hf := hb1.trans ((hb2.trans ((hb3.trans (hb4.mono hb3.size)).mono hb2.size)).mono hb1.size)
    refine ⟨rfl, (below_drewN' hf j).trans (hb6.mono ?_)⟩
    exact hf.size

theorem pathsCuts_walk (d p : ByteArray) (w : World) (hd : d.size ≤ maxLen) (hp : p.size ≤ maxLen) :
    Calls Try.prog 4 #[.string d, .string p] w fun e w' => e = .returned (.bool true) ∧ Below w.heap.size w w' := by
  unfold maxLen at hd hp
  by_cases hz : 131072 < p.size
  · go_enter Try.func4, Try.ntmps4
    go_wp2_with (go_at_call 8; refine (works_any _).mono ?_; rintro e w1 ⟨rfl, hb⟩)
    go_ret
    exact ⟨rfl, hb⟩
  · by_cases hz2 : 131072 < d.size
    · go_enter Try.func4, Try.ntmps4
      go_wp2_with (go_at_call 8; refine (works_any _).mono ?_; rintro e w1 ⟨rfl, hb⟩)
      go_ret
      exact ⟨rfl, hb⟩
    · have j1 := fun w => join_any d p (by omega) (by omega) w
      have j2 := fun w => rjoin_any d p (by omega) (by omega) w
      have J1 := hide j1
      have J2 := hide j2
      clear j1 j2
      go_enter Try.func4, Try.ntmps4
      go_wp2_with (first
        | (go_at_call 14; refine ((unhide J1) _).mono ?_; rintro e w1 ⟨rfl, rfl⟩)
        | (go_at_call 15; refine ((unhide J2) _).mono ?_; rintro e w1 ⟨rfl, rfl⟩)
        | (go_at_call 16; refine (base_any p (by omega) _).mono ?_; rintro e w1 ⟨rfl, rfl⟩)
        | (go_at_call 17; refine (rbase_any p (by omega) _).mono ?_; rintro e w1 ⟨rfl, rfl⟩)
        | (go_at_call 18; refine (dir_any p (by omega) _).mono ?_; rintro e w1 ⟨rfl, rfl⟩)
        | (go_at_call 19; refine (rdir_any p (by omega) _).mono ?_; rintro e w1 ⟨rfl, rfl⟩)
        | (go_at_call 20; refine (tail_any p (by omega) _).mono ?_; rintro e w1 ⟨rfl, rfl⟩)
        | (go_at_call 21; refine (rtail_any p (by omega) _).mono ?_; rintro e w1 ⟨rfl, rfl⟩)
        | (go_at_call 8; refine (works_any _).mono ?_; rintro e w1 ⟨rfl, hb⟩))
      go_ret
      exact ⟨rfl, hb⟩

theorem pc (x : ByteArray) : ((Pth.chk x == 0) = true ∧ (Pth.chk x != 0) = false) ∨ ((Pth.chk x == 0) = false ∧ (Pth.chk x != 0) = true ∧ (((Pth.partsL x).length : Int) == 0) = true ∧ Pth.rootB x = false) := by
  by_cases h : Pth.chk x = 0
  · exact .inl ⟨by simpa using h, by simpa using h⟩
  · exact .inr ⟨by simpa using h, by simpa using h, by simp [Pth.partsL, h], by simp [Pth.rootB, h]⟩

set_option maxHeartbeats 2000000 in
theorem pathsJoins_walk (d p : ByteArray) (w : World) (hd : d.size ≤ maxLen) (hp : p.size ≤ maxLen) :
    Calls Try.prog 5 #[.string d, .string p] w fun e w' => e = .returned (.bool true) ∧ Below w.heap.size w w' := by
  unfold maxLen at hd hp
  by_cases hz : 1024 < p.size
  · go_enter Try.func5, Try.ntmps5
    go_wp2_with (go_at_call 8; refine (works_any _).mono ?_; rintro e w1 ⟨rfl, hb⟩)
    go_ret
    exact ⟨rfl, hb⟩
  · by_cases hz2 : 1024 < d.size
    · go_enter Try.func5, Try.ntmps5
      go_wp2_with (go_at_call 8; refine (works_any _).mono ?_; rintro e w1 ⟨rfl, hb⟩)
      go_ret
      exact ⟨rfl, hb⟩
    · have hld := partsL_len d
      have hlp := partsL_len p
      have hlj := partsL_len (Pth.joinB d p)
      have hjs : (Pth.joinB d p).size ≤ 4096 := by
        have e : (Pth.joinB d p).size = (Pth.joinB d p).data.toList.length := rfl
        have e1 : d.size = d.data.toList.length := rfl
        have e2 : p.size = p.data.toList.length := rfl
        rw [e, Pth.joinB_eq]
        unfold Pth.joinL
        split
        · omega
        · split
          · simp; omega
          · simp; omega
      have lawj := Pth.joins_law d p
      have lawr := Pth.joins_root d p
      have j1 := fun w => join_any d p (by omega) (by omega) w
      have pcd := pc d
      have pcp := pc p
      have pcj := pc (Pth.joinB d p)
      generalize Pth.joinB d p = J at *
      have J1 := hide j1
      have Lawj := hide lawj
      have Lawr := hide lawr
      clear j1 lawj lawr hd hp
      rcases pcd with ⟨g1, g2⟩ | ⟨b1, b2, b3, b4⟩ <;> rcases pcp with ⟨g3, g4⟩ | ⟨b5, b6, b7, b8⟩ <;> rcases pcj with ⟨g5, g6⟩ | ⟨b9, b10, b11, b12⟩
      case inl.inl.inl =>
        have c1 := hide g1
        have c2 := hide g3
        have c3 := hide g5
        by_cases hr : Pth.rootB p = true
        · have hj : J = p := (unhide Lawr) hr
          subst hj
          go_enter Try.func5, Try.ntmps5
          go_wp2_with fail
          refine ((unhide J1) _).mono ?_
          rintro e w1 ⟨rfl, rfl⟩
          go_wp2_with fail
          refine (parts_any d (by unfold maxLen; omega) _).mono ?_
          rintro e w1 ⟨A1, c1, rfl, ho1, hb1⟩
          go_wp2_with fail
          refine (parts_any J (by unfold maxLen; omega) _).mono ?_
          rintro e w2 ⟨A2, c2, rfl, ho2, hb2⟩
          go_wp2_with fail
          refine (parts_any J (by unfold maxLen; omega) _).mono ?_
          rintro e w3 ⟨A3, c3, rfl, ho3, hb3⟩
          go_wp2_with (go_at_call 8; refine (works_any _).mono ?_; rintro e w4 ⟨rfl, hb4⟩)
          go_ret
          exact ⟨rfl, hb1.trans ((hb2.trans ((hb3.trans (hb4.mono hb3.size)).mono hb2.size)).mono hb1.size)⟩
        · rw [Bool.not_eq_true] at hr
          obtain ⟨l1, l2⟩ := (unhide Lawj) (by simpa using unhide c1) (by simpa using unhide c2) (by simpa using unhide c3) hr
          have L1 := hide l1
          have L2 := hide l2
          clear l1 l2
          go_enter Try.func5, Try.ntmps5
          go_wp2_with fail
          refine ((unhide J1) _).mono ?_
          rintro e w1 ⟨rfl, rfl⟩
          go_wp2_with fail
          refine (parts_any d (by unfold maxLen; omega) _).mono ?_
          rintro e w1 ⟨A1, c1, rfl, ho1, hb1⟩
          go_wp2_with fail
          refine (parts_any p (by unfold maxLen; omega) _).mono ?_
          rintro e w2 ⟨A2, c2, rfl, ho2, hb2⟩
          go_wp2_with fail
          refine (parts_any J (by unfold maxLen; omega) _).mono ?_
          rintro e w3 ⟨A3, c3, rfl, ho3, hb3⟩
          have hb23 := hb2.trans (hb3.mono hb2.size)
          have hs3 := (hb1.trans (hb23.mono hb1.size)).size
          have ho1' := own_below ho1 hb23
          have hr2 := (Rd.of_own ho2).belowSz hb3
          have hne := own_ne ho1 ho3 hb2.size
          rw [← unhide L2]
          go_wp2_with (first
            | (at_builtin; refine wpList_app strTy rfl _ _ rfl w.heap.size (.slice A1 (Pth.partsL d).length c1) _ _ rfl ho1' _ A2 _ c2 _ rfl hr2 (by simp [Value.oneCell']) (by omega) hs3 ?_; intro A4 c4 w4 ho4 hg4 hat4; have ho3' := World.ownsRow.kept ho3 hg4 hne; have hb4 := (hb1.trans (hb23.mono hb1.size)).grown hg4 hs3 (fun k hk => (ho1.lt k hk).1); have h4l : (Pth.partsL d).length + (Pth.partsL p).length ≤ maxLen := (by unfold maxLen; omega); have h4m : (Pth.partsL J).length ≤ maxLen := (by unfold maxLen; omega); have hx : Rd w4 w4.heap.size 1 A4 ((Pth.partsL d).length + (Pth.partsL p).length) ((Pth.partsL J).map Value.string) := (by have := Rd.of_own ho4; rwa [← List.map_append, unhide L1] at this); have hy := Rd.of_own ho3'; have Hx := hide hx; have Hy := hide hy; have H4l := hide h4l; have H4m := hide h4m; have Hb4 := hide hb4; clear hx hy h4l h4m hb4 ho4 hg4 hat4 ho3' hr2 ho1')
            | (go_at_call 13; refine (eqTexts_any _ _ _ _ _ _ _ _ _ _ (unhide Hx) (unhide Hy) (unhide H4l) (unhide H4m)).mono ?_; rintro e w5 ⟨rfl, j, rfl⟩)
            | (go_at_call 8; refine (works_any _).mono ?_; rintro e w6 ⟨rfl, hb6⟩))
          go_ret
          exact ⟨rfl, (below_drewN' (unhide Hb4) j).trans (hb6.mono (unhide Hb4).size)⟩
      all_goals
        go_enter Try.func5, Try.ntmps5
        go_wp2_with fail
        refine ((unhide J1) _).mono ?_
        rintro e w1 ⟨rfl, rfl⟩
        go_wp2_with fail
        refine (parts_any d (by unfold maxLen; omega) _).mono ?_
        rintro e w1 ⟨A1, c1, rfl, ho1, hb1⟩
        go_wp2_with fail
        refine (parts_any p (by unfold maxLen; omega) _).mono ?_
        rintro e w2 ⟨A2, c2, rfl, ho2, hb2⟩
        go_wp2_with fail
        refine (parts_any J (by unfold maxLen; omega) _).mono ?_
        rintro e w3 ⟨A3, c3, rfl, ho3, hb3⟩
        clear ho1 ho2 ho3
        go_wp2_with (go_at_call 8; refine (works_any _).mono ?_; rintro e w4 ⟨rfl, hb4⟩)
        go_ret
        exact ⟨rfl, hb1.trans ((hb2.trans ((hb3.trans (hb4.mono hb3.size)).mono hb2.size)).mono hb1.size)⟩

end Go.Proofs.Yteknfjgmbkhfaaa
