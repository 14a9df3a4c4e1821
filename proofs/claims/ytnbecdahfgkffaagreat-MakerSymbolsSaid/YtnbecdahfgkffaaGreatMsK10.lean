/- Texts of the claim LawMakerSymbols (Dy14, Dy15, Dy16, Dy17): what the functions that the statement reaches compute, and plain laws of it. Conditions: those that each theorem states. -/
import Derived.Test.YtnbecdahfgkffaaGreatMsK2
import Derived.Test.YtnbecdahfgkffaaGreatMsK9
import Derived.Test.YtnbecdahfgkffaaGreatMsK3
set_option linter.unusedVariables false
set_option linter.unusedSimpArgs false
namespace Go.Proofs.YtnbecdahfgkffaaGreat
open Go.RowKit
structure OutM (V w : World) (g : Nat) (D : Dy.Dyn) (A : Option Addr) (n c : Nat) : Prop where
  bel : Below V.heap.size V w
  out : Blk w V.heap.size 29 [.slice A n c, .string D.soname, .string D.run, .slice none 0 0, .slice none 0 0]
  bd : Blk w (V.heap.size + 1) 122 [.pointer (some ⟨g, 0, none⟩)]
  bo : Blk w (V.heap.size + 1 + 1) 130 [.pointer (some ⟨V.heap.size, 0, none⟩)]
  row : w.ownsRow (V.heap.size + 3) 9 1 (.slice A n c) n (D.needed.map Value.string)
  n : D.needed.length = n
section
variable {V w w' : World} {g : Nat} {D : Dy.Dyn} {A : Option Addr} {n c : Nat}
theorem OutM.sz (h : OutM V w g D A n c) : V.heap.size + 3 ≤ w.heap.size := h.bo.lt
theorem OutM.belowSz (h : OutM V w g D A n c) (hb : Below w.heap.size w w') : OutM V w' g D A n c :=
  ⟨h.bel.trans (hb.mono h.bel.size), h.out.belowSz hb, h.bd.belowSz hb, h.bo.belowSz hb, own_below h.row hb, h.n⟩
theorem own_setOB {i k : Nat} {e : TypeId} {xs : List Value} {B size : Nat} (h : w.ownsRow B e size (.slice A n c) n xs) (hk : k < B) (u : Value) : (w.setCell ⟨k, i, none⟩ u).ownsRow B e size (.slice A n c) n xs := by
  obtain ⟨hl, hn | ⟨g', cap, cur, hv, hb, hg, h1, h2, h3, h4⟩⟩ := h
  · exact ⟨hl, .inl hn⟩
  · exact ⟨hl, .inr ⟨g', cap, cur, hv, hb, (heap_setCell_other _ _ _ _ (by dsimp only; omega)).trans hg, h1, h2, h3, h4⟩⟩
theorem OutM.setS (h : OutM V w g D A n c) (s : ByteArray) : OutM V (w.setCell ⟨V.heap.size, 1, none⟩ (.string s)) g { D with soname := s } A n c :=
  ⟨h.bel.setCell (p := ⟨V.heap.size, 1, none⟩) (Nat.le_refl _) _, h.out.set 1 _, h.bd.other (by dsimp only; omega) _, h.bo.other (by dsimp only; omega) _, own_setOB h.row (by omega) _, h.n⟩
theorem OutM.setR (h : OutM V w g D A n c) (s : ByteArray) : OutM V (w.setCell ⟨V.heap.size, 2, none⟩ (.string s)) g { D with run := s } A n c :=
  ⟨h.bel.setCell (p := ⟨V.heap.size, 2, none⟩) (Nat.le_refl _) _, h.out.set 2 _, h.bd.other (by dsimp only; omega) _, h.bo.other (by dsimp only; omega) _, own_setOB h.row (by omega) _, h.n⟩
theorem OutM.notO (h : OutM V w g D A n c) {k : Nat} (hk : k < V.heap.size + 3) : some k ≠ (Value.slice A n c).ownBlock := by
  intro e
  have := (h.row.lt k e.symm).1
  omega
theorem OutM.grown (h : OutM V w g D A n c) (hg : w.grownBy w' (Value.slice A n c).ownBlock) : Below V.heap.size V w' ∧ Blk w' V.heap.size 29 [.slice A n c, .string D.soname, .string D.run, .slice none 0 0, .slice none 0 0] ∧ Blk w' (V.heap.size + 1) 122 [.pointer (some ⟨g, 0, none⟩)] ∧ Blk w' (V.heap.size + 1 + 1) 130 [.pointer (some ⟨V.heap.size, 0, none⟩)] := by
  have hs := h.sz
  exact ⟨h.bel.grown hg h.bel.size (fun k hk => by have := (h.row.lt k hk).1; omega), (hg.block _ (by omega) (h.notO (by omega))).trans h.out, (hg.block _ (by omega) (h.notO (by omega))).trans h.bd, (hg.block _ (by omega) (h.notO (by omega))).trans h.bo⟩
theorem OutM.push {A' : Option Addr} {c' : Nat} (h : OutM V w g D A n c) (s : ByteArray) (ho : w'.ownsRow (V.heap.size + 3) 9 1 (.slice A' (n + 1) c') (n + 1) (D.needed.map Value.string ++ [.string s])) (hg : w.grownBy w' (Value.slice A n c).ownBlock) :
    OutM V (w'.setCell ⟨V.heap.size, 0, none⟩ (.slice A' (n + 1) c')) g { D with needed := D.needed ++ [s] } A' (n + 1) c' := by
  obtain ⟨h1, h2, h3, h4⟩ := h.grown hg
  refine ⟨h1.setCell (p := ⟨V.heap.size, 0, none⟩) (Nat.le_refl _) _, h2.set 0 _, h3.other (by dsimp only; omega) _, h4.other (by dsimp only; omega) _, ?_, by simp [h.n]⟩
  have : (D.needed ++ [s]).map Value.string = D.needed.map Value.string ++ [.string s] := by simp
  dsimp only
  rw [this]
  exact own_setOB ho (by omega) _
end
theorem putS_any (V w : World) (g n c : Nat) (D : Dy.Dyn) (A : Option Addr) (s : ByteArray) (h : OutM V w g D A n c) :
    Calls Tryz.prog 105 #[.string s, .pointer (some ⟨V.heap.size + 1 + 1, 0, none⟩)] w fun e w' => e = .returned (.tuple #[]) ∧ OutM V w' g { D with soname := s } A n c := by
  have x0 := h.bo.cell (i := 0) rfl
  have y0 := h.out.cell (i := 1) rfl
  have y1 := h.out.free 1
  have H := hide (h.setS s)
  clear h
  go_enter Tryz.func105, Tryz.ntmps105
  go_wp2_with fail
  go_end0
  exact ⟨rfl, unhide H⟩
theorem putR_any (V w : World) (g n c : Nat) (D : Dy.Dyn) (A : Option Addr) (s : ByteArray) (h : OutM V w g D A n c) :
    Calls Tryz.prog 106 #[.string s, .pointer (some ⟨V.heap.size + 1 + 1, 0, none⟩)] w fun e w' => e = .returned (.tuple #[]) ∧ OutM V w' g { D with run := s } A n c := by
  have x0 := h.bo.cell (i := 0) rfl
  have y0 := h.out.cell (i := 2) rfl
  have y1 := h.out.free 2
  have H := hide (h.setR s)
  clear h
  go_enter Tryz.func106, Tryz.ntmps106
  go_wp2_with fail
  go_end0
  exact ⟨rfl, unhide H⟩
set_option maxRecDepth 100000 in
set_option maxHeartbeats 2000000 in
theorem putN_any (V w : World) (g n c : Nat) (D : Dy.Dyn) (A : Option Addr) (s : ByteArray) (h : OutM V w g D A n c) (hn : n ≤ 4294967296) :
    Calls Tryz.prog 104 #[.string s, .pointer (some ⟨V.heap.size + 1 + 1, 0, none⟩)] w fun e w' => e = .returned (.tuple #[]) ∧ ∃ A' c', OutM V w' g { D with needed := D.needed ++ [s] } A' (n + 1) c' := by
  have H := hide h
  have HC : Hid (∀ w' : World, Blk w' (V.heap.size + 1 + 1) 130 [.pointer (some ⟨V.heap.size, 0, none⟩)] → w'.cell? ⟨V.heap.size + 1 + 1, 0, none⟩ = some (.pointer (some ⟨V.heap.size, 0, none⟩))) := hide (fun w' h => h.cell (i := 0) rfl)
  have Hd := hide (h.belowSz (below_drew' (Below.refl _ _)))
  have y0 := (h.belowSz (below_drew' (Below.refl _ _))).out.cell (i := 0) rfl
  have hsz := h.sz
  clear h
  go_enter Tryz.func104, Tryz.ntmps104
  go_wp2_with fail
  refine wp_region_noPanic ?_
  refine wp_region_held_drew (S := fun w' => w'.cell? ⟨V.heap.size + 1 + 1, 0, none⟩ = some (.pointer (some ⟨V.heap.size, 0, none⟩))) (by kernel_rfl) ((unhide HC) _ (unhide Hd).bo) (fun HS0 => ?_)
  refine takeD (i := 0) (d := some 3) (v := ?_) rfl rfl (by kernel_rfl) (by kernel_rfl) (by kernel_rfl) (fun _ _ _ h => h) (Or.inl ⟨by rfl, ?y0⟩) HS0 ?_
  case y0 => (intro w' hSw; (try dsimp only at hSw); go_simp; (try with_reducible rfl))
  simp only [Act.put, List.setIfInBounds_toArray, List.set_cons_zero, List.set_cons_succ]
  refine takeD (i := 1) (d := some 4) (v := ?_) rfl rfl (by kernel_rfl) (by kernel_rfl) (by kernel_rfl) (fun _ _ _ h => h) (Or.inl ⟨by rfl, ?y1⟩) HS0 ?_
  case y1 => (intro w' hSw; (try dsimp only at hSw); go_simp; (try with_reducible rfl))
  simp only [Act.put, List.setIfInBounds_toArray, List.set_cons_zero, List.set_cons_succ]
  refine takeD (i := 2) (d := some 5) (v := ?_) rfl rfl (by kernel_rfl) (by kernel_rfl) (by kernel_rfl) (fun _ _ _ h => h) (Or.inl ⟨by rfl, ?y2⟩) HS0 ?_
  case y2 => (intro w' hSw; (try dsimp only at hSw); go_simp; (try with_reducible rfl))
  simp only [Act.put, List.setIfInBounds_toArray, List.set_cons_zero, List.set_cons_succ]
  refine takeD (i := 3) (d := some 6) (v := ?_) rfl rfl (by kernel_rfl) (by kernel_rfl) (by kernel_rfl) (fun _ _ _ h => h) (Or.inl ⟨by rfl, ?y3⟩) HS0 ?_
  case y3 => (intro w' hSw; (try dsimp only at hSw); go_simp; (try with_reducible rfl))
  simp only [Act.put, List.setIfInBounds_toArray, List.set_cons_zero, List.set_cons_succ]
  refine takeD (i := 5) (d := some 8) (v := ?_) rfl rfl (by kernel_rfl) (by kernel_rfl) (by kernel_rfl) (fun _ _ _ h => h) (Or.inl ⟨by rfl, ?y5⟩) HS0 ?_
  case y5 => (intro w' hSw; (try dsimp only at hSw); go_simp; (try with_reducible rfl))
  simp only [Act.put, List.setIfInBounds_toArray, List.set_cons_zero, List.set_cons_succ]
  refine wpAnyH_ready (rs := [4, 6]) (by kernel_rfl) (by simp) ?_
  refine AllReadyH.cons (i := 4) rfl (fun K hK => ?way4) (AllReadyH.cons (i := 6) rfl (fun K hK => ?way6) AllReadyH.nil)
  case way4 =>
    rw [if_pos (by rfl)]
    go_simp
    refine hK.out _ _ ((unhide HC) _ (unhide Hd).bo) (fun hHeld => ?_)
    clear hK K HS0
    have HS0 := hHeld
    clear hHeld
    (try simp only [Act.put, List.setIfInBounds_toArray, List.set_cons_zero, List.set_cons_succ])
    refine wpAnyH_ready (rs := [6]) (by kernel_rfl) (by simp) ?_
    refine AllReadyH.cons (i := 6) rfl (fun K hK => ?_) AllReadyH.nil
    rw [if_pos (by rfl)]
    go_simp
    refine hK.out _ _ ((unhide HC) _ ((unhide Hd).bo.alloc _)) (fun hHeld => ?_)
    clear hK K HS0
    have HS0 := hHeld
    clear hHeld
    (try simp only [Act.put, List.setIfInBounds_toArray, List.set_cons_zero, List.set_cons_succ])
    refine wpAnyH_ready (rs := [7]) (by kernel_rfl) (by simp) ?_
    refine AllReadyH.cons (i := 7) rfl (fun K hK => ?_) AllReadyH.nil
    rw [if_pos (by rfl)]
    refine wp_app1g strTy _ _ rfl (V.heap.size + 3) (.slice A n c) n (D.needed.map Value.string) rfl (unhide Hd).row #[.string s] _ rfl (by simp) rfl (by intro u hu; simp at hu; rcases hu with rfl; rfl) (by omega) (by simp; omega) ?_
    intro A6 c6 w8 ho6 hg6
    have HP := hide ((unhide Hd).push s ho6 hg6)
    have HG := hide ((unhide Hd).grown hg6)
    have z0 := (unhide HG).2.1.cell (i := 0) rfl
    have z1 := (unhide HG).2.1.free 0
    clear ho6 hg6
    refine hK.out _ _ ((unhide HC) _ (unhide HG).2.2.2) (fun hHeld => ?_)
    clear hK K HS0
    have HS0 := hHeld
    clear hHeld
    (try simp only [Act.put, List.setIfInBounds_toArray, List.set_cons_zero, List.set_cons_succ])
    refine takeD (i := 8) (d := some 11) (v := ?_) rfl rfl (by kernel_rfl) (by kernel_rfl) (by kernel_rfl) (fun _ _ _ h => h) (Or.inl ⟨by rfl, ?y8⟩) HS0 ?_
    case y8 => (intro w' hSw; (try dsimp only at hSw); go_simp; (try with_reducible rfl))
    simp only [Act.put, List.setIfInBounds_toArray, List.set_cons_zero, List.set_cons_succ]
    refine takeD (i := 9) (d := some 12) (v := ?_) rfl rfl (by kernel_rfl) (by kernel_rfl) (by kernel_rfl) (fun _ _ _ h => h) (Or.inl ⟨by rfl, ?y9⟩) HS0 ?_
    case y9 => (intro w' hSw; (try dsimp only at hSw); go_simp; (try with_reducible rfl))
    simp only [Act.put, List.setIfInBounds_toArray, List.set_cons_zero, List.set_cons_succ]
    refine wpAnyH_ready (rs := [10]) (by kernel_rfl) (by simp) ?_
    refine AllReadyH.cons (i := 10) rfl (fun K hK => ?_) AllReadyH.nil
    rw [if_pos (by rfl)]
    go_simp
    refine hK.out _ _ ((unhide HC) _ ((unhide HP).bo)) (fun hHeld => ?_)
    clear hK K HS0
    have HS0 := hHeld
    clear hHeld
    (try simp only [Act.put, List.setIfInBounds_toArray, List.set_cons_zero, List.set_cons_succ])
    refine wpAnyH_done (by kernel_rfl) ?_ _
    refine NoPanic.normal ?_
    go_wp2_with fail
    go_end0
    exact ⟨rfl, A6, c6, unhide HP⟩
  case way6 =>
    rw [if_pos (by rfl)]
    go_simp
    refine hK.out _ _ ((unhide HC) _ ((unhide Hd).bo.alloc _)) (fun hHeld => ?_)
    clear hK K HS0
    have HS0 := hHeld
    clear hHeld
    (try simp only [Act.put, List.setIfInBounds_toArray, List.set_cons_zero, List.set_cons_succ])
    have y5 := ((unhide H).out.alloc (.cells #[.string s] 9)).cell (i := 0) rfl
    refine wpAnyH_ready (rs := [4]) (by kernel_rfl) (by simp) ?_
    refine AllReadyH.cons (i := 4) rfl (fun K hK => ?_) AllReadyH.nil
    rw [if_pos (by rfl)]
    go_simp
    refine hK.out _ _ ((unhide HC) _ ((unhide Hd).bo.alloc _)) (fun hHeld => ?_)
    clear hK K HS0
    have HS0 := hHeld
    clear hHeld
    (try simp only [Act.put, List.setIfInBounds_toArray, List.set_cons_zero, List.set_cons_succ])
    refine wpAnyH_ready (rs := [7]) (by kernel_rfl) (by simp) ?_
    refine AllReadyH.cons (i := 7) rfl (fun K hK => ?_) AllReadyH.nil
    rw [if_pos (by rfl)]
    refine wp_app1g strTy _ _ rfl (V.heap.size + 3) (.slice A n c) n (D.needed.map Value.string) rfl (unhide Hd).row #[.string s] _ rfl (by simp) rfl (by intro u hu; simp at hu; rcases hu with rfl; rfl) (by omega) (by simp; omega) ?_
    intro A6 c6 w8 ho6 hg6
    have HP := hide ((unhide Hd).push s ho6 hg6)
    have HG := hide ((unhide Hd).grown hg6)
    have z0 := (unhide HG).2.1.cell (i := 0) rfl
    have z1 := (unhide HG).2.1.free 0
    clear ho6 hg6
    refine hK.out _ _ ((unhide HC) _ (unhide HG).2.2.2) (fun hHeld => ?_)
    clear hK K HS0
    have HS0 := hHeld
    clear hHeld
    (try simp only [Act.put, List.setIfInBounds_toArray, List.set_cons_zero, List.set_cons_succ])
    refine takeD (i := 8) (d := some 11) (v := ?_) rfl rfl (by kernel_rfl) (by kernel_rfl) (by kernel_rfl) (fun _ _ _ h => h) (Or.inl ⟨by rfl, ?y8⟩) HS0 ?_
    case y8 => (intro w' hSw; (try dsimp only at hSw); go_simp; (try with_reducible rfl))
    simp only [Act.put, List.setIfInBounds_toArray, List.set_cons_zero, List.set_cons_succ]
    refine takeD (i := 9) (d := some 12) (v := ?_) rfl rfl (by kernel_rfl) (by kernel_rfl) (by kernel_rfl) (fun _ _ _ h => h) (Or.inl ⟨by rfl, ?y9⟩) HS0 ?_
    case y9 => (intro w' hSw; (try dsimp only at hSw); go_simp; (try with_reducible rfl))
    simp only [Act.put, List.setIfInBounds_toArray, List.set_cons_zero, List.set_cons_succ]
    refine wpAnyH_ready (rs := [10]) (by kernel_rfl) (by simp) ?_
    refine AllReadyH.cons (i := 10) rfl (fun K hK => ?_) AllReadyH.nil
    rw [if_pos (by rfl)]
    go_simp
    refine hK.out _ _ ((unhide HC) _ ((unhide HP).bo)) (fun hHeld => ?_)
    clear hK K HS0
    have HS0 := hHeld
    clear hHeld
    (try simp only [Act.put, List.setIfInBounds_toArray, List.set_cons_zero, List.set_cons_succ])
    refine wpAnyH_done (by kernel_rfl) ?_ _
    refine NoPanic.normal ?_
    go_wp2_with fail
    go_end0
    exact ⟨rfl, A6, c6, unhide HP⟩
set_option maxRecDepth 100000 in
theorem putP_any (V w : World) (g n c : Nat) (D : Dy.Dyn) (A : Option Addr) (s : ByteArray) (B : Nat) (d : Ds) (h : OutM V w g D A n c) (hd : DsM V B g d d.L) :
    Calls Tryz.prog 107 #[.string s, .pointer (some ⟨V.heap.size + 1, 0, none⟩), .pointer (some ⟨V.heap.size + 1 + 1, 0, none⟩)] w fun e w' => e = .returned (.tuple #[]) ∧ OutM V w' g (if (Dy.val d.L 29).isSome = false then { D with run := s } else D) A n c := by
  have hd2 := hd.belowSz h.bel
  have l1 := (look_tag hd2 (t := 29) rfl).1
  have x0 := h.bd.cell (i := 0) rfl
  have x1 := h.bo.cell (i := 0) rfl
  have x6 := hd2.cells.2.2.2.2.2.2
  have y0 := h.out.cell (i := 2) rfl
  have y1 := h.out.free 2
  have H := hide (h.setR s)
  have H0 := hide h
  obtain ⟨q, hq⟩ : ∃ q, (Dy.val d.L 29).isSome = q := ⟨_, rfl⟩
  obtain ⟨v, hv⟩ : ∃ q, (Dy.val d.L 29).getD 0 = q := ⟨_, rfl⟩
  obtain ⟨gm, hgm⟩ : ∃ q, d.gm = q := ⟨_, rfl⟩
  rw [hq, hv, hgm] at l1
  have l2 : (Instr.lookup 175 (.map (some gm)) (.int .u64 29) true).run Tryz.prog w = .ok (.tuple #[.int .u64 (v : Nat), .bool q]) w := l1
  rw [hgm] at x6
  rw [hq]
  clear hq hv hgm h hd hd2 l1
  cases q
  case true =>
    go_enter Tryz.func107, Tryz.ntmps107
    go_wp2_with fail
    go_end0
    exact ⟨rfl, by simpa using unhide H0⟩
  go_enter Tryz.func107, Tryz.ntmps107
  go_wp2_with fail
  go_end0
  exact ⟨rfl, by simpa using unhide H⟩
end Go.Proofs.YtnbecdahfgkffaaGreat
namespace Go.Proofs.YtnbecdahfgkffaaGreat
open Go.RowKit
namespace Dy
theorem texts_skip {t : List UInt8} {run : Bool} {x1 x2 : Nat} {r : List (Nat × Nat)} {D : Dyn} (h : ¬ (x1 = 1 ∨ x1 = 14 ∨ x1 = 15 ∨ x1 = 29)) : texts t run ((x1, x2) :: r) D = texts t run r D := by
  rw [texts, if_neg h]
theorem texts_no {t : List UInt8} {run : Bool} {x1 x2 : Nat} {r : List (Nat × Nat)} {D : Dyn} (h : x1 = 1 ∨ x1 = 14 ∨ x1 = 15 ∨ x1 = 29) (ht : text t x2 = none) : texts t run ((x1, x2) :: r) D = none := by
  rw [texts, if_pos h, ht]
theorem texts_yes {t : List UInt8} {run : Bool} {x1 x2 : Nat} {r : List (Nat × Nat)} {D : Dyn} {s : ByteArray} (h : x1 = 1 ∨ x1 = 14 ∨ x1 = 15 ∨ x1 = 29) (ht : text t x2 = some s) : texts t run ((x1, x2) :: r) D = texts t run r (if x1 = 1 then { D with needed := D.needed ++ [s] } else if x1 = 14 then { D with soname := s } else if x1 = 29 ∨ run = false then { D with run := s } else D) := by
  rw [texts, if_pos h, ht]
end Dy
def TextsE (o : Option Dy.Dyn) (V : World) (g : Nat) (e : Ending) (w' : World) : Prop :=
  ∃ q, e = .returned (.bool q) ∧ ((q = false ∧ o = none) ∨ (q = true ∧ ∃ D A n c, o = some D ∧ OutM V w' g D A n c)) ∧ Below V.heap.size V w'
set_option maxRecDepth 100000 in
set_option maxHeartbeats 4000000 in
theorem texts_any (V : World) (B g : Nat) (d : Ds) (At : Option Addr) (mt ct : Nat) (t : List UInt8) (hd : DsM V B g d d.L) (ho : DsOk d) (hkm : d.k ≤ 4294967296) (hT : Rd V B 1 At mt (bys t)) (hmt : mt ≤ 4294967296) (hmc : mt ≤ ct) :
    Calls Tryz.prog 59 #[.pointer (some ⟨g, 0, none⟩), .slice At mt ct, .pointer (some ⟨V.heap.size, 0, none⟩)] (V.alloc (.cells #[.slice none 0 0, .string ⟨#[]⟩, .string ⟨#[]⟩, .slice none 0 0, .slice none 0 0] 29)) (TextsE (Dy.texts t (Dy.val d.L 29).isSome d.L Dy.zero) V g) := by
  have hsz : B ≤ V.heap.size := hd.sz
  have KT := hide (fun (p : Nat) (hp : p < 18446744073709551616) w' (hb : Below V.heap.size V w') => text_any At mt ct B t p w' (Nat.le_trans hsz hb.size) (hT.below (hb.mono hsz)) hmt hmc hp)
  have KP := hide (fun (w : World) (n c : Nat) (D : Dy.Dyn) (A : Option Addr) (s : ByteArray) (h : OutM V w g D A n c) => putP_any V w g n c D A s B d h hd)
  have hlen := hd.len
  have hlt64 := fun (j : Nat) (x : Nat × Nat) (h : d.L[j]? = some x) => ho.ent x (List.mem_of_getElem? h)
  obtain ⟨kk, hkk⟩ : ∃ k, d.k = k := ⟨_, rfl⟩
  obtain ⟨Al, hAl⟩ : ∃ k, d.Al = k := ⟨_, rfl⟩
  obtain ⟨cl, hcl⟩ : ∃ k, d.cl = k := ⟨_, rfl⟩
  have hcell : ∀ wr, Below V.heap.size V wr → wr.cell? ⟨g, 5, none⟩ = some (.slice Al kk cl) := by
    intro wr h
    have h5 := (hd.belowSz h).cells.2.2.2.2.2.1
    rw [hAl, hkk, hcl] at h5
    exact h5
  have hents : ∀ wr j e, Below V.heap.size V wr → d.L[j]? = some e → ∃ b off, Al = some ⟨b, off, none⟩ ∧ wr.cell? ⟨b, off + j * 2, none⟩ = some (.int .u64 (e.1 : Nat)) ∧ wr.cell? ⟨b, off + j * 2 + 1, none⟩ = some (.int .u64 (e.2 : Nat)) := by
    intro wr j e h he
    obtain ⟨b, off, h1, _, h2⟩ := ent_at (Rd.of_own (hd.belowSz h).list) he
    exact ⟨b, off, hAl ▸ h1, h2⟩
  rw [hkk] at hlen hkm
  obtain ⟨run, hrun⟩ : ∃ k, (Dy.val d.L 29).isSome = k := ⟨_, rfl⟩
  have kp := unhide KP
  rw [hrun] at kp ⊢
  have KP2 := hide kp
  obtain ⟨L, hL⟩ : ∃ k, d.L = k := ⟨_, rfl⟩
  rw [hL] at hlen hlt64 hents ⊢
  have W0 : Hid (OutM V (((V.alloc (.cells #[.slice none 0 0, .string ⟨#[]⟩, .string ⟨#[]⟩, .slice none 0 0, .slice none 0 0] 29)).alloc (.cells #[.pointer (some ⟨g, 0, none⟩)] 122)).alloc (.cells #[.pointer (some ⟨V.heap.size, 0, none⟩)] 130)) g Dy.zero none 0 0) := hide (by
    have e1 : (V.alloc (.cells #[.slice none 0 0, .string ⟨#[]⟩, .string ⟨#[]⟩, .slice none 0 0, .slice none 0 0] 29)).heap.size = V.heap.size + 1 := by simp
    have e2 : ((V.alloc (.cells #[.slice none 0 0, .string ⟨#[]⟩, .string ⟨#[]⟩, .slice none 0 0, .slice none 0 0] 29)).alloc (.cells #[.pointer (some ⟨g, 0, none⟩)] 122)).heap.size = V.heap.size + 1 + 1 := by simp
    have h1 := Blk.new V 29 [.slice none 0 0, .string ⟨#[]⟩, .string ⟨#[]⟩, .slice none 0 0, .slice none 0 0]
    have h2 := Blk.new (V.alloc (.cells #[.slice none 0 0, .string ⟨#[]⟩, .string ⟨#[]⟩, .slice none 0 0, .slice none 0 0] 29)) 122 [.pointer (some ⟨g, 0, none⟩)]
    have h3 := Blk.new ((V.alloc (.cells #[.slice none 0 0, .string ⟨#[]⟩, .string ⟨#[]⟩, .slice none 0 0, .slice none 0 0] 29)).alloc (.cells #[.pointer (some ⟨g, 0, none⟩)] 122)) 130 [.pointer (some ⟨V.heap.size, 0, none⟩)]
    rw [e1] at h2
    rw [e2] at h3
    exact ⟨(((Below.refl _ _).alloc (Nat.le_refl _) _).alloc (by simp) _).alloc (by simp; omega) _, (h1.alloc _).alloc _, h2.alloc _, h3, World.ownsRow_nil _ _ _ _, rfl⟩)
  have Hlen := hide hlen
  have Hcell := hide hcell
  have Hents := hide hents
  have H64 := hide hlt64
  have hgs : g < V.heap.size := hd.blk.lt
  clear hlen hcell hents hlt64 hd ho hT hkk hAl hcl KP kp hrun hL
  go_enter Tryz.func59, Tryz.ntmps59
  have x3 := (unhide W0).bd.cell (i := 0) rfl
  have x5 := (unhide Hcell) _ (unhide W0).bel
  go_wp2_with fail
  clear x3 x5
  go_loopg [17] kk (fun gk iv wr => ∃ (j : Nat) (D : Dy.Dyn) (A : Option Addr) (n c : Nat), gk = kk - j ∧ j ≤ kk ∧ n ≤ j ∧ iv = .int .i64 j ∧ OutM V wr g D A n c ∧ Dy.texts t run L Dy.zero = Dy.texts t run (L.drop j) D)
  case atStart => exact ⟨0, Dy.zero, none, 0, 0, by omega, Nat.zero_le _, Nat.le_refl _, rfl, unhide W0, rfl⟩
  case round =>
  obtain ⟨j, D, A, n, c, hgk, hj, hnj, rfl, hO, hT⟩ := hrel
  have HO := hide hO
  have HT := hide hT
  clear hO hT W0
  by_cases hlt : j < kk
  case neg =>
    have ige : ¬ (j : Int) < (kk : Int) := by omega
    have Hend : Hid (Dy.texts t run L Dy.zero = some D) := hide (by rw [unhide HT, List.drop_of_length_le (by rw [← unhide Hlen]; omega)]; rfl)
    clear HT KT KP2 Hcell Hents H64
    go_wp2_with fail
    go_ret
    exact ⟨true, rfl, .inr ⟨rfl, D, A, n, c, unhide Hend, unhide HO⟩, (unhide HO).bel⟩
  have ilt : (j : Int) < (kk : Int) := by omega
  obtain ⟨⟨y1, x2⟩, hx⟩ : ∃ x, L[j]? = some x := ⟨_, List.getElem?_eq_getElem (by rw [← unhide Hlen]; exact hlt)⟩
  have hx2 : x2 < 18446744073709551616 := ((unhide H64) j _ hx).2
  have hT := unhide HT
  rw [List.drop_eq_getElem_cons (by rw [← unhide Hlen]; exact hlt), show L[j]'(by rw [← unhide Hlen]; exact hlt) = (y1, x2) from (List.getElem?_eq_some_iff.1 hx).2] at hT
  obtain ⟨b9, o9, hA9, q0, q1⟩ := (unhide Hents) wr j _ (unhide HO).bel hx
  subst hA9
  dsimp only at q0 q1
  obtain ⟨xi, hxi⟩ : ∃ x : Int, (y1 : Int) = x := ⟨_, rfl⟩
  rw [hxi] at q0
  have Hxi := hide hxi
  have HT2 := hide hT
  have HO1 : Hid (OutM V (wr.alloc (.cells #[.int .u64 xi, .int .u64 (x2 : Nat)] 182)) g D A n c) := hide ((unhide HO).belowSz ((Below.refl _ _).alloc (Nat.le_refl _) _))
  have HE1 : Hid (Blk (wr.alloc (.cells #[.int .u64 xi, .int .u64 (x2 : Nat)] 182)) wr.heap.size 182 [.int .u64 xi, .int .u64 (x2 : Nat)]) := hide (Blk.new wr 182 [.int .u64 xi, .int .u64 (x2 : Nat)])
  clear hxi hT HT hx HO
  by_cases h1 : xi = 1
  · subst h1
    have hy1 : y1 = 1 := by have := unhide Hxi; omega
    have HNo : Hid (Dy.text t x2 = none → Dy.texts t run L Dy.zero = none) := hide (fun h => by rw [unhide HT2, Dy.texts_no (.inl hy1) h])
    have HYes : Hid (∀ nm, Dy.text t x2 = some nm → Dy.texts t run L Dy.zero = Dy.texts t run (L.drop (j + 1)) { D with needed := D.needed ++ [nm] }) := hide (fun nm h => by rw [unhide HT2, Dy.texts_yes (.inl hy1) h, hy1]; simp)
    have K1 := hide ((unhide KT) x2 hx2 _ (unhide HO1).bel)
    clear HT2 Hxi hy1 Hcell Hents H64
    go_wp2_with fail
    refine (unhide K1).mono ?_
    rintro e w5 ⟨nm, tb, rfl, htx, hb5⟩
    have HO5 := hide ((unhide HO1).belowSz hb5)
    have Htx := hide htx
    clear htx hb5 K1 HO1 HE1 q0 q1
    cases tb
    · have Hr : Hid (Dy.texts t run L Dy.zero = none) := hide (by
        rcases unhide Htx with ⟨h0, -⟩ | ⟨-, h0⟩
        · cases h0
        · exact (unhide HNo) h0)
      clear Htx HNo HYes KT KP2
      go_wp2_with fail
      go_ret
      exact ⟨false, rfl, .inl ⟨rfl, unhide Hr⟩, (unhide HO5).bel⟩
    have Hr : Hid (Dy.texts t run L Dy.zero = Dy.texts t run (L.drop (j + 1)) { D with needed := D.needed ++ [nm] }) := hide (by
      rcases unhide Htx with ⟨-, h0⟩ | ⟨h0, -⟩
      · exact (unhide HYes) nm h0
      · cases h0)
    clear Htx HNo HYes
    have K2 := hide (putN_any V w5 g n c D A nm (unhide HO5) (by omega))
    clear HO5
    go_wp2_with fail
    refine (unhide K2).mono ?_
    rintro e w6 ⟨rfl, A', c', hO6⟩
    have HO6 := hide hO6
    clear hO6 K2
    go_wp2_with fail
    go_roundg (kk - (j + 1))
    case measure => omega
    case rel => exact ⟨j + 1, _, _, _, _, rfl, by omega, Nat.succ_le_succ hnj, by go_num, unhide HO6, unhide Hr⟩
  by_cases h14 : xi = 14
  · subst h14
    have hy1 : y1 = 14 := by have := unhide Hxi; omega
    have HNo : Hid (Dy.text t x2 = none → Dy.texts t run L Dy.zero = none) := hide (fun h => by rw [unhide HT2, Dy.texts_no (.inr (.inl hy1)) h])
    have HYes : Hid (∀ nm, Dy.text t x2 = some nm → Dy.texts t run L Dy.zero = Dy.texts t run (L.drop (j + 1)) { D with soname := nm }) := hide (fun nm h => by rw [unhide HT2, Dy.texts_yes (.inr (.inl hy1)) h, hy1]; simp)
    have K1 := hide ((unhide KT) x2 hx2 _ (unhide HO1).bel)
    clear HT2 Hxi hy1 Hcell Hents H64
    go_wp2_with fail
    refine (unhide K1).mono ?_
    rintro e w5 ⟨nm, tb, rfl, htx, hb5⟩
    have HO5 := hide ((unhide HO1).belowSz hb5)
    have Htx := hide htx
    clear htx hb5 K1 HO1 HE1 q0 q1
    cases tb
    · have Hr : Hid (Dy.texts t run L Dy.zero = none) := hide (by
        rcases unhide Htx with ⟨h0, -⟩ | ⟨-, h0⟩
        · cases h0
        · exact (unhide HNo) h0)
      clear Htx HNo HYes KT KP2
      go_wp2_with fail
      go_ret
      exact ⟨false, rfl, .inl ⟨rfl, unhide Hr⟩, (unhide HO5).bel⟩
    have Hr : Hid (Dy.texts t run L Dy.zero = Dy.texts t run (L.drop (j + 1)) { D with soname := nm }) := hide (by
      rcases unhide Htx with ⟨-, h0⟩ | ⟨h0, -⟩
      · exact (unhide HYes) nm h0
      · cases h0)
    clear Htx HNo HYes
    have K2 := hide (putS_any V w5 g n c D A nm (unhide HO5))
    clear HO5
    go_wp2_with fail
    refine (unhide K2).mono ?_
    rintro e w6 ⟨rfl, hO6⟩
    have HO6 := hide hO6
    clear hO6 K2
    go_wp2_with fail
    go_roundg (kk - (j + 1))
    case measure => omega
    case rel => exact ⟨j + 1, _, _, _, _, rfl, by omega, by omega, by go_num, unhide HO6, unhide Hr⟩
  by_cases h29 : xi = 29
  · subst h29
    have hy1 : y1 = 29 := by have := unhide Hxi; omega
    have HNo : Hid (Dy.text t x2 = none → Dy.texts t run L Dy.zero = none) := hide (fun h => by rw [unhide HT2, Dy.texts_no (.inr (.inr (.inr hy1))) h])
    have HYes : Hid (∀ nm, Dy.text t x2 = some nm → Dy.texts t run L Dy.zero = Dy.texts t run (L.drop (j + 1)) { D with run := nm }) := hide (fun nm h => by rw [unhide HT2, Dy.texts_yes (.inr (.inr (.inr hy1))) h, hy1]; simp)
    have K1 := hide ((unhide KT) x2 hx2 _ (unhide HO1).bel)
    clear HT2 Hxi hy1 Hcell Hents H64
    go_wp2_with fail
    refine (unhide K1).mono ?_
    rintro e w5 ⟨nm, tb, rfl, htx, hb5⟩
    have HO5 := hide ((unhide HO1).belowSz hb5)
    have Htx := hide htx
    clear htx hb5 K1 HO1 HE1 q0 q1
    cases tb
    · have Hr : Hid (Dy.texts t run L Dy.zero = none) := hide (by
        rcases unhide Htx with ⟨h0, -⟩ | ⟨-, h0⟩
        · cases h0
        · exact (unhide HNo) h0)
      clear Htx HNo HYes KT KP2
      go_wp2_with fail
      go_ret
      exact ⟨false, rfl, .inl ⟨rfl, unhide Hr⟩, (unhide HO5).bel⟩
    have Hr : Hid (Dy.texts t run L Dy.zero = Dy.texts t run (L.drop (j + 1)) { D with run := nm }) := hide (by
      rcases unhide Htx with ⟨-, h0⟩ | ⟨h0, -⟩
      · exact (unhide HYes) nm h0
      · cases h0)
    clear Htx HNo HYes
    have K2 := hide (putR_any V w5 g n c D A nm (unhide HO5))
    clear HO5
    go_wp2_with fail
    refine (unhide K2).mono ?_
    rintro e w6 ⟨rfl, hO6⟩
    have HO6 := hide hO6
    clear hO6 K2
    go_wp2_with fail
    go_roundg (kk - (j + 1))
    case measure => omega
    case rel => exact ⟨j + 1, _, _, _, _, rfl, by omega, by omega, by go_num, unhide HO6, unhide Hr⟩
  by_cases h15 : xi = 15
  · subst h15
    have hy1 : y1 = 15 := by have := unhide Hxi; omega
    have HNo : Hid (Dy.text t x2 = none → Dy.texts t run L Dy.zero = none) := hide (fun h => by rw [unhide HT2, Dy.texts_no (.inr (.inr (.inl hy1))) h])
    have HYes : Hid (∀ nm, Dy.text t x2 = some nm → Dy.texts t run L Dy.zero = Dy.texts t run (L.drop (j + 1)) (if run = false then { D with run := nm } else D)) := hide (fun nm h => by rw [unhide HT2, Dy.texts_yes (.inr (.inr (.inl hy1))) h, hy1]; simp)
    have K1 := hide ((unhide KT) x2 hx2 _ (unhide HO1).bel)
    clear HT2 Hxi hy1 Hcell Hents H64
    go_wp2_with fail
    refine (unhide K1).mono ?_
    rintro e w5 ⟨nm, tb, rfl, htx, hb5⟩
    have HO5 := hide ((unhide HO1).belowSz hb5)
    have Htx := hide htx
    clear htx hb5 K1 HO1 HE1 q0 q1
    cases tb
    · have Hr : Hid (Dy.texts t run L Dy.zero = none) := hide (by
        rcases unhide Htx with ⟨h0, -⟩ | ⟨-, h0⟩
        · cases h0
        · exact (unhide HNo) h0)
      clear Htx HNo HYes KT KP2
      go_wp2_with fail
      go_ret
      exact ⟨false, rfl, .inl ⟨rfl, unhide Hr⟩, (unhide HO5).bel⟩
    have Hr : Hid (Dy.texts t run L Dy.zero = Dy.texts t run (L.drop (j + 1)) (if run = false then { D with run := nm } else D)) := hide (by
      rcases unhide Htx with ⟨-, h0⟩ | ⟨h0, -⟩
      · exact (unhide HYes) nm h0
      · cases h0)
    clear Htx HNo HYes
    have K2 := hide ((unhide KP2) w5 n c D A nm (unhide HO5))
    clear HO5
    go_wp2_with fail
    refine (unhide K2).mono ?_
    rintro e w6 ⟨rfl, hO6⟩
    have HO6 := hide hO6
    clear hO6 K2
    go_wp2_with fail
    go_roundg (kk - (j + 1))
    case measure => omega
    case rel => exact ⟨j + 1, _, _, _, _, rfl, by omega, by omega, by go_num, unhide HO6, unhide Hr⟩
  have HSk : Hid (Dy.texts t run L Dy.zero = Dy.texts t run (L.drop (j + 1)) D) := hide (by rw [unhide HT2, Dy.texts_skip (by have := unhide Hxi; omega)])
  clear HT2 Hxi KT KP2 Hcell Hents H64
  go_wp2_with fail
  go_roundg (kk - (j + 1))
  case measure => omega
  case rel => exact ⟨j + 1, _, _, _, _, rfl, by omega, by omega, by go_num, unhide HO1, unhide HSk⟩
end Go.Proofs.YtnbecdahfgkffaaGreat
namespace Go.Proofs.YtnbecdahfgkffaaGreat
open Go.RowKit
theorem reInfo : (Tryz.prog.info? 141).map (·.size) = some 4 := by kernel_rfl
theorem reOne (a b c d : Int) : (#[.int .u64 a, .int .u32 b, .int .i64 c, .int .i64 d] : Array Value).all (·.oneCell') = true := by simp [Value.oneCell']
set_option maxRecDepth 100000 in
set_option maxHeartbeats 2000000 in
theorem relOf_any (A : Option Addr) (c B gt : Nat) (b : List UInt8) (As : Option Addr) (ns cs : Nat) (w : World) (hB : B ≤ w.heap.size) (h : Rd w B 1 A 24 (bys b)) (hgt : gt < w.heap.size) (hs : w.cell? ⟨gt, 3, none⟩ = some (.slice As ns cs)) (hns : ns ≤ 4294967296) :
    Calls Tryz.prog 65 #[.slice A 24 c, .pointer (some ⟨gt, 0, none⟩)] w (reRowE (Dy.relOf ns b 0) w) := by
  have Hb0 : Hid (Below w.heap.size w (w.alloc (.cells #[.int .u64 0, .int .u32 0, .int .i64 0, .int .i64 0] 141))) := hide ((Below.refl _ _).alloc (Nat.le_refl _) _)
  have Hk0 : Hid (Blk (w.alloc (.cells #[.int .u64 0, .int .u32 0, .int .i64 0, .int .i64 0] 141)) w.heap.size 141 [.int .u64 0, .int .u32 0, .int .i64 0, .int .i64 0]) := hide (Blk.new w 141 [.int .u64 0, .int .u32 0, .int .i64 0, .int .i64 0])
  have KN := hide (fun (p s : Nat) (hs : s = 1 ∨ s = 2 ∨ s = 4 ∨ s = 8) (hin : p + s ≤ 24) w' (hb : Below w.heap.size w w') => number_any A 24 c B b p s w' (Nat.le_trans hB hb.size) (h.below (hb.mono hB)) (by unfold maxLen; omega) hs hin)
  have Hsc := hide (fun (w' : World) (hb : Below w.heap.size w w') => (World.cell?_of_block (a := ⟨gt, 3, none⟩) (hb.block gt hgt)).trans hs)
  have hx0 := Wd.num_lt b 0 8
  have hx8 := Wd.num_lt b 8 4
  have hx12 := Wd.num_lt b 12 4
  have hx16 := Wd.num_lt b 16 8
  have hrel : Dy.relOf ns b 0 = if ns < Wd.num b 12 4 then none else some ⟨Wd.num b 0 8, Wd.num b 8 4, Wd.num b 12 4, Wd.num b 16 8⟩ := by
    unfold Dy.relOf Dy.relAt
    simp only [Nat.zero_add]
  have k0 : ∀ W, Below w.heap.size w W → Calls Tryz.prog 63 #[.slice A 24 c, .int .u64 0, .int .i64 8] W (fun e w' => e = .returned (.int .u64 (Wd.num b 0 8 : Nat)) ∧ Below W.heap.size W w') := fun W h => (unhide KN) 0 8 (by omega) (by omega) W h
  have k8 : ∀ W, Below w.heap.size w W → Calls Tryz.prog 63 #[.slice A 24 c, .int .u64 8, .int .i64 4] W (fun e w' => e = .returned (.int .u64 (Wd.num b 8 4 : Nat)) ∧ Below W.heap.size W w') := fun W h => (unhide KN) 8 4 (by omega) (by omega) W h
  have k12 : ∀ W, Below w.heap.size w W → Calls Tryz.prog 63 #[.slice A 24 c, .int .u64 12, .int .i64 4] W (fun e w' => e = .returned (.int .u64 (Wd.num b 12 4 : Nat)) ∧ Below W.heap.size W w') := fun W h => (unhide KN) 12 4 (by omega) (by omega) W h
  have k16 : ∀ W, Below w.heap.size w W → Calls Tryz.prog 63 #[.slice A 24 c, .int .u64 16, .int .i64 8] W (fun e w' => e = .returned (.int .u64 (Wd.num b 16 8 : Nat)) ∧ Below W.heap.size W w') := fun W h => (unhide KN) 16 8 (by omega) (by omega) W h
  obtain ⟨n0, hn0⟩ : ∃ x, Wd.num b 0 8 = x := ⟨_, rfl⟩
  obtain ⟨n8, hn8⟩ : ∃ x, Wd.num b 8 4 = x := ⟨_, rfl⟩
  obtain ⟨n12, hn12⟩ : ∃ x, Wd.num b 12 4 = x := ⟨_, rfl⟩
  obtain ⟨n16, hn16⟩ : ∃ x, Wd.num b 16 8 = x := ⟨_, rfl⟩
  rw [hn0] at k0 hx0 hrel
  rw [hn8] at k8 hx8 hrel
  rw [hn12] at k12 hx12 hrel
  rw [hn16] at k16 hx16 hrel
  simp at hx0 hx8 hx12 hx16
  have K0 := hide k0
  have K8 := hide k8
  have K12 := hide (k12 _ (unhide Hb0))
  have K16 := hide k16
  obtain ⟨ad, had⟩ : ∃ x : Int, IntKind.i64.wrap (n16 : Int) = x := ⟨_, rfl⟩
  have wu : IntKind.u32.wrap (n8 : Int) = (n8 : Int) := by rw [IntKind.wrap_u32]; omega
  have wn : IntKind.u64.wrap (ns : Int) = (ns : Int) := by rw [IntKind.wrap_u64]; omega
  have wi : IntKind.i64.wrap (n12 : Int) = (n12 : Int) := by rw [IntKind.wrap_i64]; omega
  have HRes : Hid (∀ W, Below w.heap.size w W → reRowE (Dy.relOf ns b 0) w (.returned (.tuple #[.agg #[.int .u64 (n0 : Nat), .int .u32 (n8 : Nat), .int .i64 (n12 : Nat), .int .i64 ad], .bool (decide (n12 ≤ ns))])) W) := hide (by
    intro W hW
    refine ⟨hW, ?_⟩
    rw [hrel]
    by_cases h2 : ns < n12
    · rw [if_pos h2, decide_eq_false (by omega)]
      exact ⟨_, _, _, _, rfl⟩
    · rw [if_neg h2, decide_eq_true (by omega)]
      dsimp only
      unfold adI
      rw [had])
  clear KN h hs hn0 hn8 hn12 hn16 k0 k8 k12 k16 hrel
  go_enter Tryz.func65, Tryz.ntmps65
  go_wp2_with fail
  refine (unhide K12).mono ?_
  rintro e w1 ⟨rfl, hb1⟩
  have HB1 := hide ((unhide Hb0).trans (hb1.mono (unhide Hb0).size))
  have HK1 := hide ((unhide Hk0).belowSz hb1)
  clear hb1 K12 Hb0 Hk0
  go_wp2_with fail
  refine wp_region_held_drew (S := fun w' => w'.cell? ⟨gt, 3, none⟩ = some (.slice As ns cs)) (by kernel_rfl) ((unhide Hsc) _ (below_drew' (unhide HB1))) (fun HS0 => ?_)
  refine takeD (i := 0) (d := some 8) (v := ?_) rfl rfl (by kernel_rfl) (by kernel_rfl) (by kernel_rfl) (fun _ _ _ h => h) (Or.inl ⟨by rfl, ?y0⟩) HS0 ?_
  case y0 => (intro w' hSw; (try dsimp only at hSw); go_simp; (try with_reducible rfl))
  simp only [Act.put, List.setIfInBounds_toArray, List.set_cons_zero, List.set_cons_succ]
  refine takeD (i := 2) (d := some 10) (v := ?_) rfl rfl (by kernel_rfl) (by kernel_rfl) (by kernel_rfl) (fun _ _ _ h => h) (Or.inl ⟨by rfl, ?y2⟩) HS0 ?_
  case y2 => (intro w' hSw; (try dsimp only at hSw); go_simp; (try with_reducible rfl))
  simp only [Act.put, List.setIfInBounds_toArray, List.set_cons_zero, List.set_cons_succ]
  refine takeD (i := 5) (d := some 13) (v := ?_) rfl rfl (by kernel_rfl) (by kernel_rfl) (by kernel_rfl) (fun _ _ _ h => h) (Or.inl ⟨by rfl, ?y5⟩) HS0 ?_
  case y5 => (intro w' hSw; (try dsimp only at hSw); go_simp; (try with_reducible rfl))
  simp only [Act.put, List.setIfInBounds_toArray, List.set_cons_zero, List.set_cons_succ]
  refine takeD (i := 6) (d := some 14) (v := ?_) rfl rfl (by kernel_rfl) (by kernel_rfl) (by kernel_rfl) (fun _ _ _ h => h) (Or.inl ⟨by rfl, ?y6⟩) HS0 ?_
  case y6 => (intro w' hSw; (try dsimp only at hSw); go_simp; (try with_reducible rfl))
  simp only [Act.put, List.setIfInBounds_toArray, List.set_cons_zero, List.set_cons_succ]
  refine takeD (i := 7) (d := some 15) (v := ?_) rfl rfl (by kernel_rfl) (by kernel_rfl) (by kernel_rfl) (fun _ _ _ h => h) (Or.inl ⟨by rfl, ?y7⟩) HS0 ?_
  case y7 => (intro w' hSw; (try dsimp only at hSw); go_simp; (try with_reducible rfl))
  simp only [Act.put, List.setIfInBounds_toArray, List.set_cons_zero, List.set_cons_succ]
  refine takeD (i := 11) (d := some 19) (v := ?_) rfl rfl (by kernel_rfl) (by kernel_rfl) (by kernel_rfl) (fun _ _ _ h => h) (Or.inl ⟨by rfl, ?y11⟩) HS0 ?_
  case y11 => (intro w' hSw; (try dsimp only at hSw); go_simp; (try with_reducible rfl))
  simp only [Act.put, List.setIfInBounds_toArray, List.set_cons_zero, List.set_cons_succ]
  refine takeD (i := 12) (d := some 20) (v := ?_) rfl rfl (by kernel_rfl) (by kernel_rfl) (by kernel_rfl) (fun _ _ _ h => h) (Or.inl ⟨by rfl, ?y12⟩) HS0 ?_
  case y12 => (intro w' hSw; (try dsimp only at hSw); go_simp; (try with_reducible rfl))
  simp only [Act.put, List.setIfInBounds_toArray, List.set_cons_zero, List.set_cons_succ]
  refine takeD (i := 13) (d := some 21) (v := ?_) rfl rfl (by kernel_rfl) (by kernel_rfl) (by kernel_rfl) (fun _ _ _ h => h) (Or.inl ⟨by rfl, ?y13⟩) HS0 ?_
  case y13 => (intro w' hSw; (try dsimp only at hSw); go_simp; (try with_reducible rfl))
  simp only [Act.put, List.setIfInBounds_toArray, List.set_cons_zero, List.set_cons_succ]
  refine takeD (i := 14) (d := some 22) (v := ?_) rfl rfl (by kernel_rfl) (by kernel_rfl) (by kernel_rfl) (fun _ _ _ h => h) (Or.inl ⟨by rfl, ?y14⟩) HS0 ?_
  case y14 => (intro w' hSw; (try dsimp only at hSw); go_simp; (try with_reducible rfl))
  simp only [Act.put, List.setIfInBounds_toArray, List.set_cons_zero, List.set_cons_succ]
  refine takeD (i := 15) (d := some 23) (v := ?_) rfl rfl (by kernel_rfl) (by kernel_rfl) (by kernel_rfl) (fun _ _ _ h => h) (Or.inl ⟨by rfl, ?y15⟩) HS0 ?_
  case y15 => (intro w' hSw; (try dsimp only at hSw); go_simp; (try with_reducible rfl))
  simp only [Act.put, List.setIfInBounds_toArray, List.set_cons_zero, List.set_cons_succ]
  refine takeD (i := 16) (d := some 24) (v := ?_) rfl rfl (by kernel_rfl) (by kernel_rfl) (by kernel_rfl) (fun _ _ _ h => h) (Or.inl ⟨by rfl, ?y16⟩) HS0 ?_
  case y16 => (intro w' hSw; (try dsimp only at hSw); go_simp; (try with_reducible rfl))
  simp only [Act.put, List.setIfInBounds_toArray, List.set_cons_zero, List.set_cons_succ]
  refine wpAnyH_ready (rs := [1]) (by kernel_rfl) (by simp) ?_
  refine AllReadyH.cons (i := 1) rfl (fun K hK => ?_) AllReadyH.nil
  rw [if_pos (by rfl)]
  go_simp
  go_at_call 63
  with_reducible refine ((unhide K0) _ (below_drew' (unhide HB1))).mono ?_
  rintro e w2 ⟨rfl, hb2⟩
  have HB2 := hide ((below_drew' (unhide HB1)).trans (hb2.mono (below_drew' (unhide HB1)).size))
  have HK2 := hide ((unhide HK1).drew.belowSz hb2)
  clear hb2
  refine hK.out _ _ ((unhide Hsc) _ (unhide HB2)) (fun hHeld => ?_)
  clear hK K HS0
  have HS0 := hHeld
  clear hHeld
  (try simp only [Act.put, List.setIfInBounds_toArray, List.set_cons_zero, List.set_cons_succ])
  refine wpAnyH_ready (rs := [3]) (by kernel_rfl) (by simp) ?_
  refine AllReadyH.cons (i := 3) rfl (fun K hK => ?_) AllReadyH.nil
  rw [if_pos (by rfl)]
  go_simp
  go_at_call 63
  with_reducible refine ((unhide K8) _ (unhide HB2)).mono ?_
  rintro e w3 ⟨rfl, hb3⟩
  have HB3 := hide ((unhide HB2).trans (hb3.mono (unhide HB2).size))
  have HK3 := hide ((unhide HK2).belowSz hb3)
  clear hb3
  refine hK.out _ _ ((unhide Hsc) _ (unhide HB3)) (fun hHeld => ?_)
  clear hK K HS0
  have HS0 := hHeld
  clear hHeld
  (try simp only [Act.put, List.setIfInBounds_toArray, List.set_cons_zero, List.set_cons_succ])
  refine takeD (i := 4) (d := some 12) (v := ?_) rfl rfl (by kernel_rfl) (by kernel_rfl) (by kernel_rfl) (fun _ _ _ h => h) (Or.inl ⟨by rfl, ?y4⟩) HS0 ?_
  case y4 => (intro w' hSw; (try dsimp only at hSw); go_simp; (try with_reducible rfl))
  simp only [Act.put, List.setIfInBounds_toArray, List.set_cons_zero, List.set_cons_succ]
  refine wpAnyH_ready (rs := [8]) (by kernel_rfl) (by simp) ?_
  refine AllReadyH.cons (i := 8) rfl (fun K hK => ?_) AllReadyH.nil
  rw [if_pos (by rfl)]
  go_simp
  go_at_call 63
  with_reducible refine ((unhide K16) _ (unhide HB3)).mono ?_
  rintro e w4 ⟨rfl, hb4⟩
  have HB4 := hide ((unhide HB3).trans (hb4.mono (unhide HB3).size))
  have HK4 := hide ((unhide HK3).belowSz hb4)
  clear hb4
  refine hK.out _ _ ((unhide Hsc) _ (unhide HB4)) (fun hHeld => ?_)
  clear hK K HS0
  have HS0 := hHeld
  clear hHeld
  (try simp only [Act.put, List.setIfInBounds_toArray, List.set_cons_zero, List.set_cons_succ])
  refine takeD (i := 9) (d := some 17) (v := ?_) rfl rfl (by kernel_rfl) (by kernel_rfl) (by kernel_rfl) (fun _ _ _ h => h) (Or.inl ⟨by rfl, ?y9⟩) HS0 ?_
  case y9 => (intro w' hSw; (try dsimp only at hSw); go_simp; (try with_reducible rfl))
  simp only [Act.put, List.setIfInBounds_toArray, List.set_cons_zero, List.set_cons_succ]
  refine takeD (i := 10) (d := some 18) (v := ?_) rfl rfl (by kernel_rfl) (by kernel_rfl) (by kernel_rfl) (fun _ _ _ h => h) (Or.inl ⟨by rfl, ?y10⟩) HS0 ?_
  case y10 => (intro w' hSw; (try dsimp only at hSw); go_simp; (try with_reducible rfl))
  simp only [Act.put, List.setIfInBounds_toArray, List.set_cons_zero, List.set_cons_succ]
  refine wpAnyH_ready (rs := [17]) (by kernel_rfl) (by simp) ?_
  refine AllReadyH.cons (i := 17) rfl (fun K hK => ?_) AllReadyH.nil
  rw [if_pos (by rfl)]
  refine wp_store_row 141 (.tmp 3) (.tmp 18) rfl w.heap.size #[.int .u64 (n0 : Nat), .int .u32 (n8 : Nat), .int .i64 (n12 : Nat), .int .i64 ad] rfl rfl 141 _ (unhide HK4) reInfo rfl (reOne _ _ _ _) ?_
  refine hK.out _ _ ((unhide Hsc) _ (below_setRow (unhide HB4) (Nat.le_refl _) _)) (fun hHeld => ?_)
  clear hK K HS0
  have HS0 := hHeld
  clear hHeld
  (try simp only [Act.put, List.setIfInBounds_toArray, List.set_cons_zero, List.set_cons_succ])
  refine takeD (i := 18) (d := some 4) (v := ?_) rfl rfl (by kernel_rfl) (by kernel_rfl) (by kernel_rfl) (fun _ _ _ h => h) (Or.inl ⟨by rfl, ?y18⟩) HS0 ?_
  case y18 => (intro w' hSw; (try dsimp only at hSw); go_simp; (try with_reducible rfl))
  simp only [Act.put, List.setIfInBounds_toArray, List.set_cons_zero, List.set_cons_succ]
  refine wpAnyH_done (by kernel_rfl) ?_ _
  go_wp2_with fail
  refine bodyPost_ret (results_cell_tmp (P := Tryz.prog) rfl _ _ w.heap.size 141 #[.int .u64 (n0 : Nat), .int .u32 (n8 : Nat), .int .i64 (n12 : Nat), .int .i64 ad] (0, 0) _ rfl (setRow_heap _ _ _ _ _ _ (unhide HK4)) Tryz.underlying141 rfl reInfo) rfl ?_
  exact (unhide HRes) _ (below_setRow (unhide HB4) (Nat.le_refl _) _)
end Go.Proofs.YtnbecdahfgkffaaGreat
namespace Go.Proofs.YtnbecdahfgkffaaGreat
open Go.RowKit
theorem rowsOf_congr {α : Type} {f g : Nat → Option α} : ∀ (n k : Nat), (∀ j, k ≤ j → j < k + n → f j = g j) → rowsOf f n k = rowsOf g n k
  | 0, _, _ => rfl
  | n + 1, k, h => by
    rw [rowsOf, rowsOf, h k (Nat.le_refl _) (by omega), rowsOf_congr n (k + 1) (fun j h1 h2 => h j (by omega) (by omega))]
theorem symRows_any (A : Option Addr) (n c B q gt m : Nat) (b : List UInt8) (At : Option Addr) (mt ct : Nat) (t : List UInt8) (w : World) (hB : B ≤ w.heap.size) (hnm : n = 24 * m) (h : Rd w B 1 A n (bys (Dy.cut b q n))) (hn : n ≤ 4294967296) (hc : n ≤ c)
    (hgt : gt < w.heap.size) (ht : w.cell? ⟨gt, 0, none⟩ = some (.slice At mt ct)) (hT : Rd w B 1 At mt (bys t)) (hmt : mt ≤ 4294967296) (hmc : mt ≤ ct) :
    Calls Tryz.prog 60 #[.slice A n c, .int .i64 24, .func (.func 61) #[] #[.pointer (some ⟨gt, 0, none⟩)]] w (syRowsE (Dy.symsFrom t b m q) w) := by
  have K := sy_rows A n c B (Dy.cut b q n) gt (fun k => if k < m then Dy.symAt t b (q + k * 24) else none) w hB h hn hc (by
    intro k A2 c2 w' hk hb hr hc2
    have K2 := symOf_any A2 c2 B gt (Dy.cut (Dy.cut b q n) (k * 24) 24) At mt ct t w' (Nat.le_trans hB hb.size) hr (Nat.lt_of_lt_of_le hgt hb.size) ((World.cell?_of_block (a := ⟨gt, 0, none⟩) (hb.block gt hgt)).trans ht) (hT.below (hb.mono hB)) hmt hmc
    rw [Dy.symAt_cut (q := k * 24) (m := 24) (p := 0) (by omega), Dy.symAt_cut (q := q) (m := n) (p := k * 24 + 0) (by omega), Nat.add_zero] at K2
    show Calls _ _ _ _ (syRowE (if k < m then Dy.symAt t b (q + k * 24) else none) w')
    rw [if_pos (by omega)]
    exact K2)
  rw [show n / 24 = m from by omega] at K
  have e1 : rowsOf (fun k => if k < m then Dy.symAt t b (q + k * 24) else none) m 0 = Dy.symsFrom t b m q := by
    have := Dy.syms_rows (t := t) (b := b) (q := q) m 0
    rw [Nat.zero_mul, Nat.add_zero] at this
    rw [← this]
    exact rowsOf_congr m 0 (fun k h1 h2 => if_pos (by omega))
  rw [e1] at K
  exact K
theorem relRows_any (A : Option Addr) (n c B gt : Nat) (b : List UInt8) (As : Option Addr) (ns cs : Nat) (w : World) (hB : B ≤ w.heap.size) (h : Rd w B 1 A n (bys b)) (hn : n ≤ 4294967296) (hc : n ≤ c)
    (hgt : gt < w.heap.size) (hs : w.cell? ⟨gt, 3, none⟩ = some (.slice As ns cs)) (hns : ns ≤ 4294967296) :
    Calls Tryz.prog 64 #[.slice A n c, .int .i64 24, .func (.func 65) #[] #[.pointer (some ⟨gt, 0, none⟩)]] w (reRowsE (Dy.relsFrom ns b (n / 24) 0) w) := by
  have K := re_rows A n c B b gt (fun k => Dy.relOf ns b (k * 24)) w hB h hn hc (by
    intro k A2 c2 w' hk hb hr hc2
    have K2 := relOf_any A2 c2 B gt (Dy.cut b (k * 24) 24) As ns cs w' (Nat.le_trans hB hb.size) hr (Nat.lt_of_lt_of_le hgt hb.size) ((World.cell?_of_block (a := ⟨gt, 3, none⟩) (hb.block gt hgt)).trans hs) hns
    rw [Dy.relOf_cut] at K2
    exact K2)
  rw [Dy.rels_rows, Nat.zero_mul] at K
  exact K
theorem syRowsE_form {o : Option (List Dy.Sym)} {w w' : World} {e : Ending} (h : syRowsE o w e w') : ∃ A n c q, e = .returned (.tuple #[.slice A n c, .bool q]) ∧ ((q = false ∧ o = none) ∨ (q = true ∧ ∃ l, o = some l ∧ n = l.length ∧ w'.ownsRow w.heap.size 48 5 (.slice A n c) n (symC l))) ∧ Below w.heap.size w w' := by
  rcases h with ⟨⟨h1, rfl⟩ | ⟨l, A, c, h1, rfl, h2⟩, hb⟩
  · exact ⟨none, 0, 0, false, rfl, .inl ⟨rfl, h1⟩, hb⟩
  · exact ⟨A, _, c, true, rfl, .inr ⟨rfl, l, h1, rfl, h2⟩, hb⟩
theorem reRowsE_form {o : Option (List Dy.Rel)} {w w' : World} {e : Ending} (h : reRowsE o w e w') : ∃ A n c q, e = .returned (.tuple #[.slice A n c, .bool q]) ∧ ((q = false ∧ o = none) ∨ (q = true ∧ ∃ l, o = some l ∧ n = l.length ∧ w'.ownsRow w.heap.size 141 4 (.slice A n c) n (relC l))) ∧ Below w.heap.size w w' := by
  rcases h with ⟨⟨h1, rfl⟩ | ⟨l, A, c, h1, rfl, h2⟩, hb⟩
  · exact ⟨none, 0, 0, false, rfl, .inl ⟨rfl, h1⟩, hb⟩
  · exact ⟨A, _, c, true, rfl, .inr ⟨rfl, l, h1, rfl, h2⟩, hb⟩
structure DynM (w : World) (B : Nat) (D : Dy.Dyn) (A1 : Option Addr) (c1 : Nat) (A2 : Option Addr) (c2 : Nat) (A3 : Option Addr) (c3 : Nat) : Prop where
  needed : w.ownsRow B 9 1 (.slice A1 D.needed.length c1) D.needed.length (D.needed.map Value.string)
  syms : w.ownsRow B 48 5 (.slice A2 D.syms.length c2) D.syms.length (symC D.syms)
  relas : w.ownsRow B 141 4 (.slice A3 D.relas.length c3) D.relas.length (relC D.relas)
theorem DynM.belowSz {w w' : World} {B : Nat} {D : Dy.Dyn} {A1 A2 A3 : Option Addr} {c1 c2 c3 : Nat} (h : DynM w B D A1 c1 A2 c2 A3 c3) (hb : Below w.heap.size w w') : DynM w' B D A1 c1 A2 c2 A3 c3 := ⟨own_below h.needed hb, own_below h.syms hb, own_below h.relas hb⟩
def ParseE (p : Dy.Dyn × Int) (w : World) (e : Ending) (w' : World) : Prop := Below w.heap.size w w' ∧ ∃ A1 c1 A2 c2 A3 c3, e = .returned (.tuple #[.agg #[.slice A1 p.1.needed.length c1, .string p.1.soname, .string p.1.run, .slice A2 p.1.syms.length c2, .slice A3 p.1.relas.length c3], .int .i64 p.2]) ∧ DynM w' w.heap.size p.1 A1 c1 A2 c2 A3 c3
theorem parse_nil {w w' : World} {p : Dy.Dyn × Int} {x : Int} (hp : p = (Dy.zero, x)) (hb : Below w.heap.size w w') : ParseE p w (.returned (.tuple #[.agg #[.slice none 0 0, .string ⟨#[]⟩, .string ⟨#[]⟩, .slice none 0 0, .slice none 0 0], .int .i64 x])) w' := by
  subst hp
  exact ⟨hb, none, 0, none, 0, none, 0, rfl, World.ownsRow_nil _ _ _ _, World.ownsRow_nil _ _ _ _, World.ownsRow_nil _ _ _ _⟩
namespace Dy
def pBody (b : List UInt8) (run : Bool) (L : List (Nat × Nat)) (T : Option (Nat × Nat)) (N : Int × Names) (R : Int × List UInt8) : Dyn × Int :=
    match T with
    | none => (zero, 25)
    | some t =>
      if N.1 ≠ 0 then (zero, N.1)
      else if R.1 ≠ 0 then (zero, R.1)
      else match texts (cut b t.1 t.2) run L zero with
        | none => (zero, 25)
        | some d =>
          match symsFrom (cut b t.1 t.2) b (N.2.chain - 1) (N.2.syms + 24) with
          | none => (zero, 25)
          | some ss =>
            match relsFrom ss.length R.2 (R.2.length / 24) 0 with
            | none => (zero, 25)
            | some rs => ({ d with syms := ss, relas := rs }, 0)
theorem parse_no {b : List UInt8} {segs : List El.Sg} {x : Int} (h : open_ b segs = (x, none)) : parse b segs = (zero, x) := by
  unfold parse
  rw [h]
theorem parse_some {b : List UInt8} {segs : List El.Sg} {L : List (Nat × Nat)} (h : open_ b segs = (0, some L)) : parse b segs = pBody b (val L 29).isSome L (table b.length (El.loads segs) L 5 10) (names b (El.loads segs) L) (relaB b (El.loads segs) L) := by
  unfold parse pBody
  rw [h]
  rfl
section
variable {b : List UInt8} {run : Bool} {L : List (Nat × Nat)} {T : Option (Nat × Nat)} {t : Nat × Nat} {N : Int × Names} {R : Int × List UInt8} {d : Dyn} {ss : List Sym} {rs : List Rel}
theorem pBody_1 : pBody b run L none N R = (zero, 25) := rfl
theorem pBody_2 (h : N.1 ≠ 0) : pBody b run L (some t) N R = (zero, N.1) := by unfold pBody; dsimp only; rw [if_pos h]
theorem pBody_3 (h : N.1 = 0) (h2 : R.1 ≠ 0) : pBody b run L (some t) N R = (zero, R.1) := by unfold pBody; dsimp only; rw [if_neg (by simpa using h), if_pos h2]
theorem pBody_4 (h : N.1 = 0) (h2 : R.1 = 0) (h3 : texts (cut b t.1 t.2) run L zero = none) : pBody b run L (some t) N R = (zero, 25) := by unfold pBody; dsimp only; rw [if_neg (by simpa using h), if_neg (by simpa using h2), h3]
theorem pBody_5 (h : N.1 = 0) (h2 : R.1 = 0) (h3 : texts (cut b t.1 t.2) run L zero = some d) (h4 : symsFrom (cut b t.1 t.2) b (N.2.chain - 1) (N.2.syms + 24) = none) : pBody b run L (some t) N R = (zero, 25) := by unfold pBody; dsimp only; rw [if_neg (by simpa using h), if_neg (by simpa using h2), h3]; dsimp only; rw [h4]
theorem pBody_6 (h : N.1 = 0) (h2 : R.1 = 0) (h3 : texts (cut b t.1 t.2) run L zero = some d) (h4 : symsFrom (cut b t.1 t.2) b (N.2.chain - 1) (N.2.syms + 24) = some ss) (h5 : relsFrom ss.length R.2 (R.2.length / 24) 0 = none) : pBody b run L (some t) N R = (zero, 25) := by unfold pBody; dsimp only; rw [if_neg (by simpa using h), if_neg (by simpa using h2), h3]; dsimp only; rw [h4]; dsimp only; rw [h5]
theorem pBody_7 (h : N.1 = 0) (h2 : R.1 = 0) (h3 : texts (cut b t.1 t.2) run L zero = some d) (h4 : symsFrom (cut b t.1 t.2) b (N.2.chain - 1) (N.2.syms + 24) = some ss) (h5 : relsFrom ss.length R.2 (R.2.length / 24) 0 = some rs) : pBody b run L (some t) N R = ({ d with syms := ss, relas := rs }, 0) := by unfold pBody; dsimp only; rw [if_neg (by simpa using h), if_neg (by simpa using h2), h3]; dsimp only; rw [h4]; dsimp only; rw [h5]
end
end Dy
theorem own_len {w : World} {base n c size : Nat} {A : Option Addr} {e : TypeId} {xs : List Value} (h : w.ownsRow base e size (.slice A n c) n xs) : n ≤ c := by
  rcases h.2 with ⟨_, hn⟩ | ⟨q, cap, cur, hv, _, _, h1, _⟩
  · omega
  · injection hv with _ _ hc
    omega
theorem own_setNQ {w : World} {base n c size : Nat} {A : Option Addr} {e : TypeId} {xs : List Value} (h : w.ownsRow base e size (.slice A n c) n xs) {p : Addr} (hp : ∀ k, (Value.slice A n c).ownBlock = some k → k ≠ p.block) (u : Value) : (w.setCell p u).ownsRow base e size (.slice A n c) n xs := by
  obtain ⟨hl, hn | ⟨g', cap, cur, hv, hb, hg, h1, h2, h3, h4⟩⟩ := h
  · exact ⟨hl, .inl hn⟩
  · exact ⟨hl, .inr ⟨g', cap, cur, hv, hb, (heap_setCell_other _ _ _ _ (hp g' (by rw [hv]; rfl))).trans hg, h1, h2, h3, h4⟩⟩
theorem own_setRowB {w : World} {base n c size k : Nat} {A : Option Addr} {e : TypeId} {xs : List Value} (h : w.ownsRow base e size (.slice A n c) n xs) (hk : k < base) (cs : Array Value) : (w.setRow k cs).ownsRow base e size (.slice A n c) n xs := by
  obtain ⟨hl, hn | ⟨g', cap, cur, hv, hb, hg, h1, h2, h3, h4⟩⟩ := h
  · exact ⟨hl, .inl hn⟩
  · exact ⟨hl, .inr ⟨g', cap, cur, hv, hb, (setRow_other _ _ _ _ (by omega)).trans hg, h1, h2, h3, h4⟩⟩
namespace Dy
theorem ents_len {b : List UInt8} : ∀ {k p : Nat} {l : List (Nat × Nat)}, ents b k p = some l → l.length ≤ k
  | 0, _, _, h => by cases h
  | k + 1, p, l, h => by
    unfold ents at h
    split at h
    · injection h with h
      subst h
      exact Nat.zero_le _
    · cases hr : ents b k (p + 16) with
      | none => rw [hr] at h; cases h
      | some r =>
        rw [hr] at h
        injection h with h
        subst h
        have := ents_len hr
        simpa using this
theorem open_len {b : List UInt8} {segs : List El.Sg} {L : List (Nat × Nat)} (h : open_ b segs = (0, some L)) : L.length ≤ b.length := by
  cases hf : segs.find? (fun s => s.kind == 2) with
  | none => rw [open_none hf] at h; injection h with _ h; cases h
  | some s =>
    rw [open_some hf] at h
    split at h
    · injection h with _ h; cases h
    · rename_i hs
      have hs2 : ¬ b.length < s.off + s.fsz := fun h => hs (.inr h)
      cases he : ents b (s.fsz / 16) s.off with
      | none => rw [he] at h; injection h with _ h; cases h
      | some L2 =>
        rw [he] at h
        have h2 := ents_len he
        have : L2 = L := by
          dsimp only at h
          split at h
          · injection h with _ h; injection h
          · injection h with _ h; cases h
        subst this
        omega
theorem table_le {n : Nat} {l : List El.Sg} {L : List (Nat × Nat)} {a s : Nat} {t : Nat × Nat} (h : table n l L a s = some t) : t.2 ≤ n := by
  unfold table at h
  split at h
  · injection h with h; subst h; exact Nat.zero_le _
  · rename_i v hv
    cases hl : laid n l v ((val L s).getD 0) with
    | none => rw [hl] at h; cases h
    | some o =>
      rw [hl] at h
      injection h with h
      subst h
      have := (laid_in hl).1
      dsimp only
      omega
theorem relaB_len {b : List UInt8} {l : List El.Sg} {L : List (Nat × Nat)} : (relaB b l L).2.length ≤ 1536 := by
  unfold relaB
  split
  · exact Nat.zero_le _
  · split
    · exact Nat.zero_le _
    · rename_i h1 h2
      cases ha : table b.length l L 7 8 with
      | none => exact Nat.zero_le _
      | some x =>
        cases hb : table b.length l L 23 2 with
        | none => exact Nat.zero_le _
        | some y =>
          dsimp only
          have e1 := table_len (p := x.1) (k := x.2) ha
          have e2 := table_len (p := y.1) (k := y.2) hb
          rw [List.length_append]
          unfold cut
          rw [List.length_take, List.length_take]
          omega
theorem symsFrom_len {t b : List UInt8} : ∀ {n p : Nat} {l : List Sym}, symsFrom t b n p = some l → l.length = n
  | 0, _, _, h => by unfold symsFrom at h; injection h with h; subst h; rfl
  | n + 1, p, l, h => by
    unfold symsFrom at h
    cases hs : symAt t b p with
    | none => rw [hs] at h; cases h
    | some s =>
      rw [hs] at h
      cases hr : symsFrom t b n (p + 24) with
      | none => rw [hr] at h; cases h
      | some r =>
        rw [hr] at h
        injection h with h
        subst h
        have := symsFrom_len hr
        simpa using this
end Dy
theorem parse_good {w w' : World} {p : Dy.Dyn × Int} {D : Dy.Dyn} {ss : List Dy.Sym} {rs : List Dy.Rel} {A7 A9 A11 : Option Addr} {n7 c7 n9 c9 n11 c11 : Nat} (hp : p = ({ D with syms := ss, relas := rs }, 0)) (hb : Below w.heap.size w w') (h7 : D.needed.length = n7) (h9 : n9 = ss.length) (h11 : n11 = rs.length)
    (o7 : w'.ownsRow w.heap.size 9 1 (.slice A7 n7 c7) n7 (D.needed.map Value.string)) (o9 : w'.ownsRow w.heap.size 48 5 (.slice A9 n9 c9) n9 (symC ss)) (o11 : w'.ownsRow w.heap.size 141 4 (.slice A11 n11 c11) n11 (relC rs)) :
    ParseE p w (.returned (.tuple #[.agg #[.slice A7 n7 c7, .string D.soname, .string D.run, .slice A9 n9 c9, .slice A11 n11 c11], .int .i64 0])) w' := by
  subst hp h7 h9 h11
  exact ⟨hb, A7, c7, A9, c9, A11, c11, rfl, o7, o9, o11⟩
theorem dyInfo : (Tryz.prog.info? 29).map (·.size) = some 5 := by kernel_rfl
theorem dyOne (A1 A2 A3 : Option Addr) (n1 c1 n2 c2 n3 c3 : Nat) (s1 s2 : ByteArray) : (#[.slice A1 n1 c1, .string s1, .string s2, .slice A2 n2 c2, .slice A3 n3 c3] : Array Value).all (·.oneCell') = true := by simp [Value.oneCell']
end Go.Proofs.YtnbecdahfgkffaaGreat
