/- The walks of paths.Join, Base, Dir, Tail and of the references' answers to these. Condition: the texts are shorter than 2^62 bytes. -/
import Derived.Test.YteknfjgmbkhfaaaPaths
namespace Go.Proofs.Yteknfjgmbkhfaaa
set_option linter.unusedVariables false
set_option linter.unusedSimpArgs false
open Go.RowKit

theorem tail_any (p : ByteArray) (hp : p.size ≤ 4611686018427387903) (w : World) :
    Calls Try.prog 20 #[.string p] w fun e w' => e = .returned (.bool (Pth.tailB p)) ∧ w = w' := by
  go_enter Try.func20, Try.ntmps20
  go_wp2_with (go_at_call 30; refine (flipw (Try.strings_HasSuffix _ _ _ (by omega))).mono ?_; rintro e w1 ⟨rfl, rfl⟩)
  go_ret
  exact ⟨rfl, rfl⟩

theorem base_any (p : ByteArray) (hp : p.size ≤ 4611686018427387903) (w : World) :
    Calls Try.prog 16 #[.string p] w fun e w' => e = .returned (.string (Pth.baseB p)) ∧ w = w' := by
  have hb := Pth.lastB_bd p
  have hl := fun w => (flipw (Try.strings_LastIndexByte p 47 (by omega) w))
  change ∀ w, Calls Try.prog _ _ w fun e w' => e = .returned (.int .i64 (Pth.lastB p)) ∧ w = w' at hl
  have hfin : Pth.baseB p = p.extract (Pth.lastB p + 1).toNat p.size := rfl
  generalize Pth.lastB p = i at *
  obtain ⟨k, hk⟩ : ∃ k : Nat, i = (k : Int) - 1 := ⟨(i + 1).toNat, by omega⟩
  subst hk
  have hk2 : k ≤ p.size := by omega
  have Hl := hide hl
  have Hf := hide hfin
  clear hfin hl
  go_enter Try.func16, Try.ntmps16
  go_wp2_with (go_at_call 28; refine ((unhide Hl) _).mono ?_; rintro e w1 ⟨rfl, rfl⟩)
  go_ret
  refine ⟨?_, rfl⟩
  rw [unhide Hf, show ((k : Int) - 1 + 1).toNat = k from by omega]
  rfl

theorem dir_any (p : ByteArray) (hp : p.size ≤ 4611686018427387903) (w : World) :
    Calls Try.prog 18 #[.string p] w fun e w' => e = .returned (.string (Pth.dirB p)) ∧ w = w' := by
  have hb := Pth.lastB_bd p
  have hl := fun w => (flipw (Try.strings_LastIndexByte p 47 (by omega) w))
  change ∀ w, Calls Try.prog _ _ w fun e w' => e = .returned (.int .i64 (Pth.lastB p)) ∧ w = w' at hl
  have hfin : Pth.dirB p = if Pth.lastB p = -1 then ⟨#[46]⟩ else if Pth.lastB p = 0 then ⟨#[47]⟩ else p.extract 0 (Pth.lastB p).toNat := rfl
  generalize Pth.lastB p = i at *
  have Hl := hide hl
  by_cases h1 : i = -1
  · have b1 : (i == -1) = true := by simpa using h1
    rw [hfin, if_pos h1]
    clear hfin hl h1
    go_enter Try.func18, Try.ntmps18
    go_wp2_with (go_at_call 28; refine ((unhide Hl) _).mono ?_; rintro e w1 ⟨rfl, rfl⟩)
    go_ret
    exact ⟨rfl, rfl⟩
  · have b1 : (i == -1) = false := by simpa using h1
    by_cases h0 : i = 0
    · have b0 : (i == 0) = true := by simpa using h0
      rw [hfin, if_neg h1, if_pos h0]
      clear hfin hl h1 h0
      go_enter Try.func18, Try.ntmps18
      go_wp2_with (go_at_call 28; refine ((unhide Hl) _).mono ?_; rintro e w1 ⟨rfl, rfl⟩)
      go_ret
      exact ⟨rfl, rfl⟩
    · have b0 : (i == 0) = false := by simpa using h0
      rw [hfin, if_neg h1, if_neg h0]
      obtain ⟨k, rfl⟩ : ∃ k : Nat, i = k := ⟨i.toNat, by omega⟩
      rw [Int.toNat_natCast]
      have hk : k ≤ p.size := by omega
      clear hfin hl h1 h0
      go_enter Try.func18, Try.ntmps18
      go_wp2_with (go_at_call 28; refine ((unhide Hl) _).mono ?_; rintro e w1 ⟨rfl, rfl⟩)
      go_ret
      exact ⟨rfl, rfl⟩

theorem rlast_any (p : ByteArray) (hp : p.size ≤ 4611686018427387903) (w : World) :
    Calls Try.prog 29 #[.string p] w fun e w' => e = .returned (.int .i64 (Pth.lastB p)) ∧ w = w' := by
  go_enter Try.func29, Try.ntmps29
  go_wp2
  go_loop [3, 4] (fun at_ i => ∃ k : Nat, k ≤ p.size ∧ i = .int .i64 k ∧ at_ = .int .i64 (Lib.lastIdx p 47 k)) (fun _ i => p.size - (intOf i).toNat)
  case atStart => exact ⟨0, by omega, rfl, rfl⟩
  case round =>
    obtain ⟨k, hk, rfl, rfl⟩ := hrel
    by_cases hlt : k < p.size
    · have hs := Pth.lastIdx_step p k hlt
      by_cases hc : ((p[k].toNat : Nat) : Int) = 47
      · rw [if_pos hc] at hs
        have b : (((p[k].toNat : Nat) : Int) == 47) = true := by simpa using hc
        have Hs := hide hs
        clear hs hc
        go_wp2
        go_round
        case rel => exact ⟨k + 1, by omega, by go_num, by rw [unhide Hs]⟩
        case measure => simp [intOf]; omega
      · rw [if_neg hc] at hs
        have b : (((p[k].toNat : Nat) : Int) == 47) = false := by simpa using hc
        have Hs := hide hs
        clear hs hc
        go_wp2
        go_round
        case rel => exact ⟨k + 1, by omega, by go_num, by rw [unhide Hs]⟩
        case measure => simp [intOf]; omega
    · obtain rfl : k = p.size := by omega
      go_wp2
      go_ret
      exact ⟨rfl, rfl⟩

theorem rtail_any (p : ByteArray) (hp : p.size ≤ 4611686018427387903) (w : World) :
    Calls Try.prog 21 #[.string p] w fun e w' => e = .returned (.bool (Pth.tailB p)) ∧ w = w' := by
  by_cases h0 : p.size = 0
  · have h1 : ¬ (0 < p.size) := by omega
    rw [Pth.tailB_empty p h0]
    have H0 := hide h0
    clear h0
    go_enter Try.func21, Try.ntmps21
    go_wp2
    go_ret
    exact ⟨rfl, rfl⟩
  · rw [Pth.tailB_iff p (by omega)]
    have h1 : 0 < p.size := by omega
    go_enter Try.func21, Try.ntmps21
    go_wp2
    go_ret
    exact ⟨by rw [← byte_47]; rfl, rfl⟩

theorem rbase_any (p : ByteArray) (hp : p.size ≤ 4611686018427387903) (w : World) :
    Calls Try.prog 17 #[.string p] w fun e w' => e = .returned (.string (Pth.baseB p)) ∧ w = w' := by
  have hb := Pth.lastB_bd p
  have hl := fun w => rlast_any p hp w
  have hfin : Pth.baseB p = p.extract (Pth.lastB p + 1).toNat p.size := rfl
  generalize Pth.lastB p = i at *
  obtain ⟨k, hk⟩ : ∃ k : Nat, i = (k : Int) - 1 := ⟨(i + 1).toNat, by omega⟩
  subst hk
  have hk2 : k ≤ p.size := by omega
  have Hl := hide hl
  have Hf := hide hfin
  clear hfin hl
  go_enter Try.func17, Try.ntmps17
  go_wp2_with (go_at_call 29; refine ((unhide Hl) _).mono ?_; rintro e w1 ⟨rfl, rfl⟩)
  go_ret
  refine ⟨?_, rfl⟩
  rw [unhide Hf, show ((k : Int) - 1 + 1).toNat = k from by omega]
  rfl

theorem rdir_any (p : ByteArray) (hp : p.size ≤ 4611686018427387903) (w : World) :
    Calls Try.prog 19 #[.string p] w fun e w' => e = .returned (.string (Pth.dirB p)) ∧ w = w' := by
  have hb := Pth.lastB_bd p
  have hl := fun w => rlast_any p hp w
  have hfin : Pth.dirB p = if Pth.lastB p = -1 then ⟨#[46]⟩ else if Pth.lastB p = 0 then ⟨#[47]⟩ else p.extract 0 (Pth.lastB p).toNat := rfl
  generalize Pth.lastB p = i at *
  have Hl := hide hl
  by_cases h1 : i = -1
  · have b1 : i < 0 := by omega
    rw [hfin, if_pos h1]
    clear hfin hl h1
    go_enter Try.func19, Try.ntmps19
    go_wp2_with (go_at_call 29; refine ((unhide Hl) _).mono ?_; rintro e w1 ⟨rfl, rfl⟩)
    go_ret
    exact ⟨rfl, rfl⟩
  · have b1 : ¬ i < 0 := by omega
    by_cases h0 : i = 0
    · have b0 : (i == 0) = true := by simpa using h0
      rw [hfin, if_neg h1, if_pos h0]
      clear hfin hl h1 h0
      go_enter Try.func19, Try.ntmps19
      go_wp2_with (go_at_call 29; refine ((unhide Hl) _).mono ?_; rintro e w1 ⟨rfl, rfl⟩)
      go_ret
      exact ⟨rfl, rfl⟩
    · have b0 : (i == 0) = false := by simpa using h0
      rw [hfin, if_neg h1, if_neg h0]
      obtain ⟨k, rfl⟩ : ∃ k : Nat, i = k := ⟨i.toNat, by omega⟩
      rw [Int.toNat_natCast]
      have hk : k ≤ p.size := by omega
      clear hfin hl h1 h0 b1
      go_enter Try.func19, Try.ntmps19
      go_wp2_with (go_at_call 29; refine ((unhide Hl) _).mono ?_; rintro e w1 ⟨rfl, rfl⟩)
      go_ret
      exact ⟨rfl, rfl⟩

theorem rjoin_any (d p : ByteArray) (hd : d.size ≤ 4611686018427387903) (hp : p.size ≤ 4611686018427387903) (w : World) :
    Calls Try.prog 15 #[.string d, .string p] w fun e w' => e = .returned (.string (Pth.joinB d p)) ∧ w = w' := by
  have he0 := isEmpty_toList d
  by_cases h0 : d.size = 0
  · have hr : Pth.joinB d p = p := by simp [Pth.joinB, h0]
    rw [hr]
    have q : d.toList.isEmpty = true := by rw [he0]; simpa using h0
    clear he0 h0 hr
    go_enter Try.func15, Try.ntmps15
    go_wp2_with fail
    go_ret
    exact ⟨rfl, rfl⟩
  · have q : d.toList.isEmpty = false := by rw [he0]; simpa using h0
    have hh := Pth.headB_iff p
    by_cases h1 : Pth.headB p = true
    · have hr : Pth.joinB d p = p := by simp [Pth.joinB, h1]
      rw [hr]
      rw [h1] at hh
      obtain ⟨hp0, hp1⟩ := of_decide_eq_true hh.symm
      have b : (((p[0].toNat : Nat) : Int) == 47) = true := by rw [byte_47]; simpa using hp1
      clear he0 h0 hr hh hp1 h1
      go_enter Try.func15, Try.ntmps15
      go_wp2_with fail
      go_ret
      exact ⟨rfl, rfl⟩
    · rw [Bool.not_eq_true] at h1
      rw [h1] at hh
      have hn := of_decide_eq_false hh.symm
      have fin : Calls Try.prog 15 #[.string d, .string p] w fun e w' => e = .returned (.string (if Pth.tailB d = true then d ++ p else d ++ Pth.slash ++ p)) ∧ w = w' := by
        by_cases hz : 0 < p.size
        · have b : (((p[0].toNat : Nat) : Int) == 47) = false := by rw [byte_47]; simpa using fun e => hn ⟨hz, e⟩
          clear he0 h0 hh hn h1
          by_cases h2 : Pth.tailB d = true
          · rw [if_pos h2]
            go_enter Try.func15, Try.ntmps15
            go_wp2_with (go_at_call 21; refine (rtail_any d hd _).mono ?_; rintro e w1 ⟨rfl, rfl⟩)
            go_ret
            exact ⟨rfl, rfl⟩
          · rw [if_neg h2]
            rw [Bool.not_eq_true] at h2
            go_enter Try.func15, Try.ntmps15
            go_wp2_with (go_at_call 21; refine (rtail_any d hd _).mono ?_; rintro e w1 ⟨rfl, rfl⟩)
            go_ret
            exact ⟨rfl, rfl⟩
        · clear he0 h0 hh hn h1
          by_cases h2 : Pth.tailB d = true
          · rw [if_pos h2]
            go_enter Try.func15, Try.ntmps15
            go_wp2_with (go_at_call 21; refine (rtail_any d hd _).mono ?_; rintro e w1 ⟨rfl, rfl⟩)
            go_ret
            exact ⟨rfl, rfl⟩
          · rw [if_neg h2]
            rw [Bool.not_eq_true] at h2
            go_enter Try.func15, Try.ntmps15
            go_wp2_with (go_at_call 21; refine (rtail_any d hd _).mono ?_; rintro e w1 ⟨rfl, rfl⟩)
            go_ret
            exact ⟨rfl, rfl⟩
      have hr : Pth.joinB d p = if Pth.tailB d = true then d ++ p else d ++ Pth.slash ++ p := by simp only [Pth.joinB, h0, h1, Bool.false_eq_true, or_self, if_false]
      rw [hr]
      exact fin

theorem join_any (d p : ByteArray) (hd : d.size ≤ 4611686018427387903) (hp : p.size ≤ 4611686018427387903) (w : World) :
    Calls Try.prog 14 #[.string d, .string p] w fun e w' => e = .returned (.string (Pth.joinB d p)) ∧ w = w' := by
  have he0 := isEmpty_toList d
  by_cases h0 : d.size = 0
  · have hr : Pth.joinB d p = p := by simp [Pth.joinB, h0]
    rw [hr]
    have q : d.toList.isEmpty = true := by rw [he0]; simpa using h0
    clear he0 h0 hr
    go_enter Try.func14, Try.ntmps14
    go_wp2_with fail
    go_ret
    exact ⟨rfl, rfl⟩
  · have q : d.toList.isEmpty = false := by rw [he0]; simpa using h0
    have hp1 : ∀ w, Calls Try.prog 24 #[.string p, .string ⟨#[47]⟩] w fun e w' => e = .returned (.bool (Pth.headB p)) ∧ w = w' := fun w => flipw (Try.strings_HasPrefix p ⟨#[47]⟩ w)
    have Hp1 := hide hp1
    by_cases h1 : Pth.headB p = true
    · have hr : Pth.joinB d p = p := by simp [Pth.joinB, h1]
      rw [hr]
      clear he0 h0 hr hp1
      go_enter Try.func14, Try.ntmps14
      go_wp2_with (go_at_call 24; refine ((unhide Hp1) _).mono ?_; rintro e w1 ⟨rfl, rfl⟩)
      go_ret
      exact ⟨rfl, rfl⟩
    · rw [Bool.not_eq_true] at h1
      by_cases h2 : Pth.tailB d = true
      · have hr : Pth.joinB d p = d ++ p := by simp [Pth.joinB, h0, h1, h2]
        rw [hr]
        clear he0 h0 hr hp1
        go_enter Try.func14, Try.ntmps14
        go_wp2_with (first | (go_at_call 24; refine ((unhide Hp1) _).mono ?_; rintro e w1 ⟨rfl, rfl⟩) | (go_at_call 20; refine (tail_any d hd _).mono ?_; rintro e w1 ⟨rfl, rfl⟩))
        go_ret
        exact ⟨rfl, rfl⟩
      · rw [Bool.not_eq_true] at h2
        have hr : Pth.joinB d p = d ++ Pth.slash ++ p := by simp [Pth.joinB, h0, h1, h2]
        rw [hr]
        clear he0 h0 hr hp1
        go_enter Try.func14, Try.ntmps14
        go_wp2_with (first | (go_at_call 24; refine ((unhide Hp1) _).mono ?_; rintro e w1 ⟨rfl, rfl⟩) | (go_at_call 20; refine (tail_any d hd _).mono ?_; rintro e w1 ⟨rfl, rfl⟩))
        go_ret
        exact ⟨rfl, rfl⟩
end Go.Proofs.Yteknfjgmbkhfaaa
