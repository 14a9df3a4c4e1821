/- The walk of PathsAgain: it returns true and changes nothing that was there. Condition: the text is no longer than the model's greatest length. -/
import Derived.Test.YteknfjgmbkhfaaaPathsWalk2
namespace Go.Proofs.Yteknfjgmbkhfaaa
set_option linter.unusedVariables false
set_option linter.unusedSimpArgs false
open Go.RowKit

theorem mem_le_sum {l : List Nat} {n : Nat} (h : n ∈ l) : n ≤ l.sum := by
  induction l with
  | nil => cases h
  | cons a r ih =>
    rcases List.mem_cons.1 h with rfl | h
    · simp
    · have := ih h
      simp
      omega

theorem part_size (p : ByteArray) (x : ByteArray) (h : x ∈ Pth.partsL p) : x.size ≤ 200 := by
  unfold Pth.partsL at h
  split at h
  · rename_i h0
    have h1 := Pth.chk_size p h0
    have h2 : x.data.toList ∈ Pth.split p.data.toList := by
      rw [← Pth.pcs_map]
      exact List.mem_map_of_mem (List.mem_filter.1 h).1
    have h3 := Pth.split_len p.data.toList
    have h4 := mem_le_sum (List.mem_map_of_mem (f := List.length) h2)
    have e1 : p.data.toList.length = p.size := rfl
    have e2 : x.data.toList.length = x.size := rfl
    have h5 : 0 < (Pth.split p.data.toList).length := List.length_pos_of_mem h2
    omega
  · cases h
theorem accB_size (l : List ByteArray) (h : ∀ x ∈ l, x.size ≤ 200) : (Pth.accB l).size ≤ 201 * l.length := by
  have key : ∀ (l : List ByteArray) (s : ByteArray), (∀ x ∈ l, x.size ≤ 200) → (l.foldl (fun s x => s ++ x ++ Pth.slash) s).size ≤ s.size + 201 * l.length := by
    intro l
    induction l with
    | nil => intro s _; simp
    | cons x r ih =>
      intro s h
      have h1 := ih (s ++ x ++ Pth.slash) (fun y hy => h y (by simp [hy]))
      have h2 := h x (by simp)
      have h3 : (s ++ x ++ Pth.slash).size = s.size + x.size + 1 := by
        rw [ByteArray.size_append, ByteArray.size_append]
        rfl
      simp only [List.foldl_cons, List.length_cons]
      omega
  have := key l ⟨#[]⟩ h
  have e : (⟨#[]⟩ : ByteArray).size = 0 := rfl
  unfold Pth.accB
  omega

set_option maxHeartbeats 4000000 in
theorem pathsAgain_walk (p : ByteArray) (w : World) (hp : p.size ≤ maxLen) :
    Calls Try.prog 7 #[.string p] w fun e w' => e = .returned (.bool true) ∧ Below w.heap.size w w' := by
  unfold maxLen at hp
  by_cases hz : 1024 < p.size
  · go_enter Try.func7, Try.ntmps7
    go_wp2_with (go_at_call 8; refine (works_any _).mono ?_; rintro e w1 ⟨rfl, hb⟩)
    go_ret
    exact ⟨rfl, hb⟩
  · have hlp := partsL_len p
    have hps := part_size p
    have law := Pth.again_law p
    have Hps := hide hps
    have Law := hide law
    clear hps law
    rcases pc p with ⟨g1, g2⟩ | ⟨b1, b2, b3, b4⟩
    · by_cases hn : (Pth.partsL p).length = 0
      · have b3 : (((Pth.partsL p).length : Int) == 0) = true := by simp [hn]
        clear hn
        go_enter Try.func7, Try.ntmps7
        go_wp2_with (first
          | (go_at_call 9; refine (parts_any p (by unfold maxLen; omega) _).mono ?_; rintro e w1 ⟨A1, c1, rfl, ho1, hb1⟩)
          | (go_at_call 8; refine (works_any _).mono ?_; rintro e w6 ⟨rfl, hb6⟩))
        go_ret
        exact ⟨rfl, hb1.trans (hb6.mono hb1.size)⟩
      · have b3 : (((Pth.partsL p).length : Int) == 0) = false := by simp; intro e; rw [e] at hn; exact hn rfl
        obtain ⟨l1, l2, l3⟩ := (unhide Law) (by simpa using g1) (by intro e; rw [e] at hn; exact hn rfl)
        have hag : Pth.again (Pth.partsL p) = (Pth.accB (Pth.partsL p)).extract 0 ((Pth.accB (Pth.partsL p)).size - 1) := rfl
        have hacs := accB_size (Pth.partsL p) (unhide Hps)
        have hpos : 0 < (Pth.accB (Pth.partsL p)).size := by
          have e : (Pth.accB (Pth.partsL p)).size = (Pth.accB (Pth.partsL p)).data.toList.length := rfl
          rw [e, Pth.accB_list, Pth.accL_len]
          simp
          omega
        have l4 := l1
        have l5 := l2
        have l6 := l3
        generalize Pth.again (Pth.partsL p) = G at *
        have hgs : G.size ≤ 100000 := by rw [hag, ByteArray.size_extract]; omega
        have L1 := hide l1
        have L2 := hide l2
        have L3 := hide l3
        have Hag := hide hag
        clear hag
        clear l1 l2 l3 l4 l5 l6
        go_enter Try.func7, Try.ntmps7
        go_wp2_with (go_at_call 9; refine (parts_any p (by unfold maxLen; omega) _).mono ?_; rintro e w1 ⟨A1, c1, rfl, ho1, hb1⟩)
        have hrd := Rd.of_own ho1
        have Hrd := hide hrd
        clear hrd ho1
        generalize Pth.partsL p = l at *
        go_loop [6, 7] (fun s i => ∃ k : Nat, k ≤ l.length ∧ i = .int .i64 k ∧ s = .string (Pth.accB (l.take k))) (fun _ i => l.length - (intOf i).toNat)
        case atStart => exact ⟨0, by omega, rfl, rfl⟩
        case round =>
          obtain ⟨k, hk, rfl, rfl⟩ := hrel
          by_cases hlt : k < l.length
          · obtain ⟨x, hx⟩ : ∃ x, l[k]? = some x := ⟨_, List.getElem?_eq_getElem hlt⟩
            obtain ⟨b1', o1, rfl, hbb, cx⟩ := (unhide Hrd).at_ (k := k) (u := .string x) (by simp [hx])
            have hst : Pth.accB (l.take (k + 1)) = Pth.accB (l.take k) ++ x ++ Pth.slash := by rw [List.take_add_one, hx]; exact Pth.accB_snoc _ _
            have hs1 := accB_size (l.take k) (fun y hy => (unhide Hps) y (List.mem_of_mem_take hy))
            have hs2 := (unhide Hps) x (List.mem_of_getElem? hx)
            have hs3 : (l.take k).length ≤ k := List.length_take_le _ _
            have Hst := hide hst
            clear hst hx
            go_wp2
            go_round
            case rel => exact ⟨k + 1, by omega, by go_num, by rw [unhide Hst]; rfl⟩
            case measure => simp [intOf]; omega
          · obtain rfl : k = l.length := by omega
            rw [List.take_length]
            clear hlt
            have hml : l.length ≤ maxLen := by unfold maxLen; omega
            have Hml := hide hml
            clear hml
            generalize Pth.accB l = S at *
            go_wp2_with fail
            rw [← unhide Hag]
            refine (parts_any G (by unfold maxLen; omega) _).mono ?_
            rintro e w2 ⟨A2, c2, rfl, ho2, hb2⟩
            rw [unhide L1, unhide L2, unhide L3]
            rw [unhide L2] at ho2
            go_wp2_with fail
            refine (parts_any G (by unfold maxLen; omega) _).mono ?_
            rintro e w3 ⟨A3, c3, rfl, ho3, hb3⟩
            rw [unhide L1, unhide L2, unhide L3]
            rw [unhide L2] at ho3
            have hra := (unhide Hrd).belowSz hb2
            have hrb := Rd.of_own ho2
            have Hra := hide hra
            have Hrb := hide hrb
            have hs3 := hb3.size
            clear hra hrb ho2
            go_wp2_with (first
              | (go_at_call 13; refine (eqTexts_any _ _ _ _ _ _ _ _ _ _ ((unhide Hra).below hb3) ((unhide Hrb).below hb3) (unhide Hml) (unhide Hml)).mono ?_; rintro e w5 ⟨rfl, j, rfl⟩)
              | (at_builtin; refine wpList_app1 strTy rfl _ _ rfl w2.heap.size (.slice A3 l.length c3) l.length (l.map Value.string) rfl (own_drewN ho3 j) #[.string ⟨#[33]⟩] rfl rfl (by simp [Value.oneCell']) (by omega) hs3 ?_; intro A4 c4 w4 ho4 hg4 hat4; have hb4 := (below_drewN' hb3 j).grown hg4 hs3 (fun k hk => (ho3.lt k hk).1); have Hb4 := hide hb4; have Ho4 := hide ho4; clear hb4 hg4 hat4 ho4))
            obtain ⟨g, rfl, hgb, _⟩ := own_some (unhide Ho4) (by omega)
            clear ho3 hb3
            go_loopw [14] (fun i wr => ∃ (k : Nat) (xs : List Value), k ≤ l.length + 1 ∧ i = .int .i64 k ∧ wr.ownsRow w2.heap.size 9 1 (.slice (some ⟨g, 0, none⟩) (l.length + 1) c4) (l.length + 1) xs ∧ Below w2.heap.size w2 wr) (fun i _ => l.length + 1 - (intOf i).toNat)
            case atStart => exact ⟨0, _, by omega, rfl, unhide Ho4, unhide Hb4⟩
            case round =>
              obtain ⟨k, xs, hk, rfl, hown, hb⟩ := hrel
              by_cases hlt : k < l.length + 1
              · have hxl : xs.length = l.length + 1 := by have := hown.1; omega
                obtain ⟨u, hu⟩ : ∃ u, xs[k]? = some u := ⟨_, List.getElem?_eq_getElem (by omega)⟩
                have hc := hown.cellAt k (by omega)
                rw [hu] at hc
                have hf := hown.frozenAt k
                have hst := (hown.stored k (.string ⟨#[33]⟩)).1
                have hbn := hb.setCell (p := ⟨g, k, none⟩) hgb (.string ⟨#[33]⟩)
                have Hst := hide hst
                have Hbn := hide hbn
                clear hst hbn hu hown hb
                go_wp2
                go_roundw
                case rel => exact ⟨k + 1, _, by omega, by go_num, unhide Hst, unhide Hbn⟩
                case measure => simp [intOf]; omega
              · have hra := (unhide Hra).below hb
                have hrb := (unhide Hrb).below hb
                have Hra' := hide hra
                have Hrb' := hide hrb
                clear hra hrb
                go_wp2_with (first
                  | (go_at_call 13; refine (eqTexts_any _ _ _ _ _ _ _ _ _ _ (unhide Hra') (unhide Hrb') (unhide Hml) (unhide Hml)).mono ?_; rintro e w5 ⟨rfl, j2, rfl⟩)
                  | (go_at_call 8; refine (works_any _).mono ?_; rintro e w6 ⟨rfl, hb6⟩))
                go_ret
                have h12 := hb1.trans (hb2.mono hb1.size)
                have hf := h12.trans (hb.mono h12.size)
                exact ⟨rfl, (below_drewN' hf j2).trans (hb6.mono hf.size)⟩
    · go_enter Try.func7, Try.ntmps7
      go_wp2_with (first
        | (go_at_call 9; refine (parts_any p (by unfold maxLen; omega) _).mono ?_; rintro e w1 ⟨A1, c1, rfl, ho1, hb1⟩)
        | (go_at_call 8; refine (works_any _).mono ?_; rintro e w6 ⟨rfl, hb6⟩))
      go_ret
      exact ⟨rfl, hb1.trans (hb6.mono hb1.size)⟩

end Go.Proofs.Yteknfjgmbkhfaaa
