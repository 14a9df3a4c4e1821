/- The walks of the references for paths: Pieces and Check of hostelref02. Condition: the texts are shorter than 2^32 bytes. -/
import Derived.Test.YtphbkjdheopmhaaPathsC
namespace Go.Proofs.Ytphbkjdheopmhaa
set_option linter.unusedVariables false
set_option linter.unusedSimpArgs false
open Go.RowKit

theorem pcsAt_len (s : ByteArray) : ∀ (l : List UInt8) (i f : Nat), (Pth.pcsL s l i f).length ≤ l.length + 1 := by
  intro l
  induction l with
  | nil => intro i f; exact Nat.le_refl _
  | cons c r ih =>
    intro i f
    unfold Pth.pcsL
    have h1 := ih (i + 1) (i + 1)
    have h2 := ih (i + 1) f
    split
    · simp only [List.length_cons]; omega
    · simp only [List.length_cons]; omega
theorem pcs_len (s : ByteArray) : (Pth.pcs s).length ≤ s.size + 1 := pcsAt_len s s.data.toList 0 0

set_option maxHeartbeats 1000000 in
theorem rpieces_any (p : ByteArray) (hp : p.size ≤ 4294967296) (w : World) :
    Calls Try.prog 65 #[.string p] w fun e w' => ∃ A c, e = .returned (.slice A (Pth.pcs p).length c) ∧ w'.ownsRow w.heap.size 9 1 (.slice A (Pth.pcs p).length c) (Pth.pcs p).length ((Pth.pcs p).map Value.string) ∧ Below w.heap.size w w' := by
  go_enter Try.func65, Try.ntmps65
  go_wp2
  go_loopw [3, 4, 5] (fun out fr i wr => ∃ (k f : Nat) (A : Option Addr) (c : Nat) (l : List ByteArray), k ≤ p.size + 1 ∧ f ≤ k ∧ l.length ≤ k ∧ i = .int .i64 k ∧ fr = .int .i64 f ∧ out = .slice A l.length c ∧
    wr.ownsRow w.heap.size 9 1 (.slice A l.length c) l.length (l.map Value.string) ∧ Below w.heap.size w wr ∧ (k ≤ p.size → Pth.pcs p = l ++ Pth.pcsAt p k f) ∧ (k = p.size + 1 → Pth.pcs p = l)) (fun _ _ i _ => p.size + 1 - (intOf i).toNat)
  case atStart => exact ⟨0, 0, none, 0, [], by omega, Nat.le_refl _, Nat.le_refl _, rfl, rfl, rfl, World.ownsRow_nil _ _ _ _, Below.refl _ _, fun _ => rfl, fun h => by omega⟩
  case round =>
    obtain ⟨k, f, A, c, l, hk, hfk, hlk, rfl, rfl, rfl, hown, hb, h1, h2⟩ := hrel
    have H1 := hide h1
    have H2 := hide h2
    have hsz := hb.size
    clear h1 h2
    by_cases hlt : k ≤ p.size
    · have he := unhide H1 hlt
      by_cases hend : k = p.size
      · subst hend
        have b1 : ((p.size : Int) == (p.size : Int)) = true := by simp
        have hgo : Pth.pcs p = l ++ [p.extract f p.size] := by rw [he, Pth.pcsAt_end]
        have Hgo := hide hgo
        clear he hgo
        go_wp2_with (at_builtin; refine wpList_app1 strTy rfl _ _ rfl w.heap.size (.slice A l.length c) l.length (l.map Value.string) rfl hown #[.string (p.extract f p.size)] rfl rfl (by simp [Value.oneCell']) (by omega) (by omega) ?_; intro A' c' w1 hown' hgrow hat; have hb1 := hide (hb.grown hgrow hsz (fun k hk => (hown.lt k hk).1)); have Hown' := hide hown'; clear hgrow hat hown')
        go_roundw
        case rel =>
          refine ⟨p.size + 1, p.size + 1, A', c', l ++ [p.extract f p.size], by omega, by omega, by simp; omega, by go_num, by go_num, by simp, ?_, unhide hb1, fun h => by omega, fun _ => unhide Hgo⟩
          simpa using unhide Hown'
        case measure => simp [intOf]
      · have hl2 : k < p.size := by omega
        have b1 : ((k : Int) == (p.size : Int)) = false := by simp; omega
        by_cases hc : p[k] = 47
        · have b2 : (((p[k].toNat : Nat) : Int) == 47) = true := by rw [byte_47]; simpa using hc
          have hgo : Pth.pcs p = (l ++ [p.extract f k]) ++ Pth.pcsAt p (k + 1) (k + 1) := by rw [he, Pth.pcsAt_slash p k f hl2 hc]; simp
          have Hgo := hide hgo
          clear he hgo hc hend
          go_wp2_with (at_builtin; refine wpList_app1 strTy rfl _ _ rfl w.heap.size (.slice A l.length c) l.length (l.map Value.string) rfl hown #[.string (p.extract f k)] rfl rfl (by simp [Value.oneCell']) (by omega) (by omega) ?_; intro A' c' w1 hown' hgrow hat; have hb1 := hide (hb.grown hgrow hsz (fun k hk => (hown.lt k hk).1)); have Hown' := hide hown'; clear hgrow hat hown')
          go_roundw
          case rel =>
            refine ⟨k + 1, k + 1, A', c', l ++ [p.extract f k], by omega, by omega, by simp; omega, by go_num, by go_num, by simp, ?_, unhide hb1, fun _ => unhide Hgo, fun h => by omega⟩
            simpa using unhide Hown'
          case measure => simp [intOf]; omega
        · have b2 : (((p[k].toNat : Nat) : Int) == 47) = false := by rw [byte_47]; simpa using hc
          have hgo : Pth.pcs p = l ++ Pth.pcsAt p (k + 1) f := by rw [he, Pth.pcsAt_skip p k f hl2 hc]
          have Hgo := hide hgo
          clear he hgo hc hend
          go_wp2
          go_roundw
          case rel => exact ⟨k + 1, f, A, c, l, by omega, by omega, by omega, by go_num, rfl, rfl, hown, hb, fun _ => unhide Hgo, fun h => by omega⟩
          case measure => simp [intOf]; omega
    · have he := unhide H2 (by omega)
      have He := hide he
      clear he
      go_wp2
      go_ret
      rw [unhide He]
      exact ⟨A, c, rfl, hown, hb⟩

set_option maxHeartbeats 1000000 in
theorem rcheck_any (p : ByteArray) (hp : p.size ≤ 4294967296) (w : World) :
    Calls Try.prog 38 #[.string p] w fun e w' => e = .returned (.int .i64 (Pth.chk p)) ∧ Below w.heap.size w w' := by
  have he0 := isEmpty_toList p
  by_cases h0 : p.size = 0
  · have hr : Pth.chk p = 3 := by simp [Pth.chk, h0]
    have he : p.toList.isEmpty = true := by rw [he0]; simpa using h0
    rw [hr]
    clear he0 hr h0
    go_enter Try.func38, Try.ntmps38
    go_wp2_with fail
    go_ret
    exact ⟨rfl, Below.refl _ _⟩
  · have he : p.toList.isEmpty = false := by rw [he0]; simpa using h0
    have H0 := hide h0
    clear he0 h0
    go_enter Try.func38, Try.ntmps38
    go_wp2_with fail
    go_loop [3] (fun i => ∃ k : Nat, k ≤ p.size ∧ i = .int .i64 k ∧ (p.data.toList.take k).contains 0 = false) (fun i => p.size - (intOf i).toNat)
    case atStart => exact ⟨0, by omega, rfl, by simp⟩
    case round =>
      obtain ⟨k, hk, rfl, hz⟩ := hrel
      have Hz := hide hz
      clear hz
      by_cases hlt : k < p.size
      · by_cases hc : p[k] = 0
        · have b2 : (((p[k].toNat : Nat) : Int) == 0) = true := by rw [byte_0]; simpa using hc
          have hr : Pth.chk p = 1 := by
            have hm : p.data.toList.contains 0 = true := by
              rw [List.contains_iff_mem, ← hc]
              exact Array.getElem_mem_toList _
            simp only [Pth.chk, unhide H0, hm, if_true, if_false]
          have Hr := hide hr
          clear hr hc
          go_wp2
          go_ret
          exact ⟨by rw [unhide Hr]; rfl, Below.refl _ _⟩
        · have b2 : (((p[k].toNat : Nat) : Int) == 0) = false := by rw [byte_0]; simpa using hc
          have hz : (p.data.toList.take (k + 1)).contains 0 = false := by
            rw [List.take_succ_eq_append_getElem (by simpa using hlt), List.contains_append, unhide Hz]
            simp only [Bool.false_or]
            exact by simpa using fun h => hc h.symm
          have Hz2 := hide hz
          clear hz hc
          go_wp2
          go_round
          case rel => exact ⟨k + 1, by omega, by go_num, unhide Hz2⟩
          case measure => simp [intOf]; omega
      · have hz : p.data.toList.contains 0 = false := by
          have := unhide Hz
          rwa [List.take_of_length_le (by simp; omega)] at this
        by_cases h2 : 200 < p.size
        · have hr : Pth.chk p = 11 := by simp only [Pth.chk, unhide H0, hz, h2, if_true, if_false, Bool.false_eq_true]
          have Hr := hide hr
          clear hr hz
          go_wp2
          go_ret
          exact ⟨by rw [unhide Hr]; rfl, Below.refl _ _⟩
        · have hr : Pth.chk p = if (Pth.pcs p).any Pth.tooLong then 11 else 0 := by simp only [Pth.chk, unhide H0, hz, h2, if_false, Bool.false_eq_true]
          have Hr := hide hr
          have hl := pcs_len p
          clear hr hz
          go_wp2_with (go_at_call 65; refine (rpieces_any p (by omega) _).mono ?_; rintro e w1 ⟨A, c, rfl, hown, hb⟩)
          generalize Pth.pcs p = l at *
          have hrd := Rd.of_own hown
          have Hrd := hide hrd
          clear hrd hown
          go_loop [5] (fun i => ∃ k : Nat, k ≤ l.length ∧ i = .int .i64 k ∧ (l.take k).any Pth.tooLong = false) (fun i => l.length - (intOf i).toNat)
          case atStart => exact ⟨0, by omega, rfl, by simp⟩
          case round =>
            obtain ⟨k, hk, rfl, hz⟩ := hrel
            have Hz := hide hz
            clear hz
            by_cases hlt : k < l.length
            · obtain ⟨x, hx⟩ : ∃ x, l[k]? = some x := ⟨_, List.getElem?_eq_getElem hlt⟩
              obtain ⟨b1, o1, rfl, _, c1⟩ := (unhide Hrd).at_ (k := k) (u := .string x) (by simp [hx])
              by_cases hlong : 32 < x.size
              · have ha : l.any Pth.tooLong = true := List.any_eq_true.2 ⟨x, List.mem_of_getElem? hx, by simpa [Pth.tooLong] using hlong⟩
                have Ha := hide ha
                clear ha hx
                go_wp2
                go_ret
                exact ⟨by rw [unhide Hr, unhide Ha]; rfl, hb⟩
              · have hz : (l.take (k + 1)).any Pth.tooLong = false := by
                  rw [List.take_add_one, hx, List.any_append, unhide Hz]
                  simp [Pth.tooLong, hlong]
                have Hz2 := hide hz
                clear hz hx
                go_wp2
                go_round
                case rel => exact ⟨k + 1, by omega, by go_num, unhide Hz2⟩
                case measure => simp [intOf]; omega
            · have hz : l.any Pth.tooLong = false := by
                have := unhide Hz
                rwa [List.take_of_length_le (by omega)] at this
              have Hz2 := hide hz
              clear hz
              go_wp2
              go_ret
              exact ⟨by rw [unhide Hr, unhide Hz2]; rfl, hb⟩

end Go.Proofs.Ytphbkjdheopmhaa
