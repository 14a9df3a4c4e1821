/- The walks of PathsBack and PathsAgain: each returns true and changes nothing that was there. Condition: the text is no longer than the model's greatest length. -/
import Derived.Test.YteknfjgmbkhfaaaPathsWalk
namespace Go.Proofs.Yteknfjgmbkhfaaa
set_option linter.unusedVariables false
set_option linter.unusedSimpArgs false
open Go.RowKit

set_option maxHeartbeats 4000000 in
theorem pathsBack_walk (p : ByteArray) (w : World) (hp : p.size ≤ maxLen) :
    Calls Try.prog 6 #[.string p] w fun e w' => e = .returned (.bool true) ∧ Below w.heap.size w w' := by
  unfold maxLen at hp
  by_cases hz : 1024 < p.size
  · go_enter Try.func6, Try.ntmps6
    go_wp2_with (go_at_call 8; refine (works_any _).mono ?_; rintro e w1 ⟨rfl, hb⟩)
    go_ret
    exact ⟨rfl, hb⟩
  · have hbs : (Pth.baseB p).size ≤ 1024 := by
      unfold Pth.baseB
      simp only [ByteArray.size_extract]
      omega
    have hds : (Pth.dirB p).size ≤ 1024 := by
      unfold Pth.dirB
      split
      · decide
      · split
        · decide
        · simp only [ByteArray.size_extract]
          omega
    have hjs : (Pth.joinB (Pth.dirB p) (Pth.baseB p)).size ≤ 4096 := by
      have e : (Pth.joinB (Pth.dirB p) (Pth.baseB p)).size = (Pth.joinB (Pth.dirB p) (Pth.baseB p)).data.toList.length := rfl
      have e1 : (Pth.dirB p).size = (Pth.dirB p).data.toList.length := rfl
      have e2 : (Pth.baseB p).size = (Pth.baseB p).data.toList.length := rfl
      rw [e, Pth.joinB_eq]
      unfold Pth.joinL
      split
      · omega
      · split
        · simp; omega
        · simp; omega
    have c1 := fun w => base_any p (by omega) w
    have c2 := fun w => dir_any p (by omega) w
    have c3 := fun w => tail_any p (by omega) w
    have c4 := fun w => join_any (Pth.dirB p) (Pth.baseB p) (by omega) (by omega) w
    have f1 := Pth.base_noslash p
    have f2 := Pth.tail_base p
    have f3 := Pth.back_law p
    have f4 := Pth.back_chk p
    have pcp := pc p
    have pcj := pc (Pth.joinB (Pth.dirB p) (Pth.baseB p))
    have hlp := partsL_len p
    have hlj := partsL_len (Pth.joinB (Pth.dirB p) (Pth.baseB p))
    have e1 := isEmpty_toList p
    have e2 := isEmpty_toList (Pth.baseB p)
    generalize Pth.joinB (Pth.dirB p) (Pth.baseB p) = J at *
    generalize Pth.baseB p = B at *
    generalize Pth.dirB p = D at *
    have C1 := hide c1
    have C2 := hide c2
    have C3 := hide c3
    have C4 := hide c4
    have F1 := hide f1
    have F2 := hide f2
    have F3 := hide f3
    have F4 := hide f4
    have Pcp := hide pcp
    have Pcj := hide pcj
    have E1 := hide e1
    have E2 := hide e2
    clear c1 c2 c3 c4 f1 f2 f3 f4 pcp pcj e1 e2
    go_enter Try.func6, Try.ntmps6
    go_wp2_with (go_at_call 16; refine ((unhide C1) _).mono ?_; rintro e w1 ⟨rfl, rfl⟩)
    go_loop [4] (fun i => ∃ k : Nat, k ≤ B.size ∧ i = .int .i64 k) (fun i => B.size - (intOf i).toNat)
    case atStart => exact ⟨0, by omega, rfl⟩
    case round =>
      obtain ⟨k, hk, rfl⟩ := hrel
      by_cases hlt : k < B.size
      · have hc : (((B[k].toNat : Nat) : Int) == 47) = false := by rw [byte_47]; simpa using (unhide F1) k hlt
        go_wp2
        go_round
        case rel => exact ⟨k + 1, by omega, by go_num⟩
        case measure => simp [intOf]; omega
      · obtain rfl : k = B.size := by omega
        have tests : (Pth.tailB p = false ∧ p.toList.isEmpty = true) ∨ (Pth.tailB p = true ∧ p.toList.isEmpty = false ∧ B.toList.isEmpty = true) ∨ (Pth.tailB p = false ∧ p.toList.isEmpty = false ∧ B.toList.isEmpty = false) := by
          have a1 := unhide E1
          have a2 := unhide E2
          have a3 := unhide F2
          by_cases q1 : p.size = 0
          · exact .inl ⟨by rw [a3]; simp [q1], by rw [a1]; simp [q1]⟩
          · by_cases q2 : B.size = 0
            · exact .inr (.inl ⟨by rw [a3]; simp [q1, q2], by rw [a1]; simp [q1], by rw [a2]; simp [q2]⟩)
            · exact .inr (.inr ⟨by rw [a3]; simp [q2], by rw [a1]; simp [q1], by rw [a2]; simp [q2]⟩)
        have Tests := hide tests
        clear tests hlt
        rcases unhide Pcp with ⟨g1, g2⟩ | ⟨b1, b2, b3, b4⟩ <;> rcases unhide Pcj with ⟨g3, g4⟩ | ⟨b5, b6, b7, b8⟩ <;> rcases unhide Tests with ⟨t1, t2⟩ | ⟨t1, t2, t3⟩ | ⟨t1, t2, t3⟩
        case inl.inl.inl | inl.inl.inr.inl | inl.inl.inr.inr =>
          obtain ⟨l1, l2⟩ := (unhide F3) (by simpa using g1) (by simpa using g3)
          have L1 := hide l1
          have L2 := hide l2
          clear l1 l2
          go_wp2_with (first
            | (go_at_call 20; refine ((unhide C3) _).mono ?_; rintro e w1 ⟨rfl, rfl⟩)
            | (go_at_call 18; refine ((unhide C2) _).mono ?_; rintro e w1 ⟨rfl, rfl⟩)
            | (go_at_call 14; refine ((unhide C4) _).mono ?_; rintro e w1 ⟨rfl, rfl⟩)
            | (go_at_call_of 9 (Value.string p); refine (parts_any p (by unfold maxLen; omega) _).mono ?_; rintro e w1 ⟨A1, c1, rfl, ho1, hb1⟩)
            | (go_at_call_of 9 (Value.string J); refine (parts_any J (by unfold maxLen; omega) _).mono ?_; rintro e w2 ⟨A2, c2, rfl, ho2, hb2⟩; rw [← unhide L1, ← unhide L2]; rw [← unhide L1] at ho2; have hx := (Rd.of_own ho1).belowSz hb2; have hy := Rd.of_own ho2; have hml : (Pth.partsL p).length ≤ maxLen := (by unfold maxLen; omega); have Hx := hide hx; have Hy := hide hy; have Hml := hide hml; clear hx hy hml)
            | (go_at_call 13; refine (eqTexts_any _ _ _ _ _ _ _ _ _ _ (unhide Hx) (unhide Hy) (unhide Hml) (unhide Hml)).mono ?_; rintro e w5 ⟨rfl, j, rfl⟩)
            | (go_at_call 8; refine (works_any _).mono ?_; rintro e w6 ⟨rfl, hb6⟩))
          go_ret
          have hf := hb1.trans (hb2.mono hb1.size)
          exact ⟨rfl, (below_drewN' hf j).trans (hb6.mono hf.size)⟩
        case inl.inr.inl | inl.inr.inr.inl | inl.inr.inr.inr =>
          have hlong : 198 < p.size := by
            rcases Nat.lt_or_ge 198 p.size with h | h
            · exact h
            · have := (unhide F4) (by simpa using g1) (by omega)
              rw [this] at b5
              cases b5
          go_wp2_with (first
            | (go_at_call 20; refine ((unhide C3) _).mono ?_; rintro e w1 ⟨rfl, rfl⟩)
            | (go_at_call 18; refine ((unhide C2) _).mono ?_; rintro e w1 ⟨rfl, rfl⟩)
            | (go_at_call 14; refine ((unhide C4) _).mono ?_; rintro e w1 ⟨rfl, rfl⟩)
            | (go_at_call_of 9 (Value.string p); refine (parts_any p (by unfold maxLen; omega) _).mono ?_; rintro e w1 ⟨A1, c1, rfl, ho1, hb1⟩)
            | (go_at_call_of 9 (Value.string J); refine (parts_any J (by unfold maxLen; omega) _).mono ?_; rintro e w2 ⟨A2, c2, rfl, ho2, hb2⟩)
            | (go_at_call 8; refine (works_any _).mono ?_; rintro e w6 ⟨rfl, hb6⟩))
          go_ret
          have hf := hb1.trans (hb2.mono hb1.size)
          exact ⟨rfl, hf.trans (hb6.mono hf.size)⟩
        all_goals
          go_wp2_with (first
            | (go_at_call 20; refine ((unhide C3) _).mono ?_; rintro e w1 ⟨rfl, rfl⟩)
            | (go_at_call 18; refine ((unhide C2) _).mono ?_; rintro e w1 ⟨rfl, rfl⟩)
            | (go_at_call 14; refine ((unhide C4) _).mono ?_; rintro e w1 ⟨rfl, rfl⟩)
            | (go_at_call_of 9 (Value.string p); refine (parts_any p (by unfold maxLen; omega) _).mono ?_; rintro e w1 ⟨A1, c1, rfl, ho1, hb1⟩)
            | (go_at_call_of 9 (Value.string J); refine (parts_any J (by unfold maxLen; omega) _).mono ?_; rintro e w2 ⟨A2, c2, rfl, ho2, hb2⟩)
            | (go_at_call 8; refine (works_any _).mono ?_; rintro e w6 ⟨rfl, hb6⟩))
          go_ret
          have hf := hb1.trans (hb2.mono hb1.size)
          exact ⟨rfl, hf.trans (hb6.mono hf.size)⟩


end Go.Proofs.Yteknfjgmbkhfaaa
