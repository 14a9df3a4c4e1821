/- Texts of the claim LawMakerParsed (Dy14, Dy15, Dy16, Dy17, Elf10b, Interp, MkD7, MkL7): what the functions that the statement reaches compute, and plain laws of it. Conditions: those that each theorem states. -/
import Derived.Test.YtnbecdahfgkffaaGreatMpK2
import Derived.Test.YtnbecdahfgkffaaGreatMpK9
import Derived.Test.YtnbecdahfgkffaaGreatMpK3
import Derived.Test.YtnbecdahfgkffaaGreatMpK8
import Derived.Test.YtnbecdahfgkffaaGreatMpK1
set_option linter.unusedVariables false
set_option linter.unusedSimpArgs false
namespace Go.Proofs.YtnbecdahfgkffaaGreat
open Go.RowKit
structure OutM (V w : World) (g : Nat) (D : Dy.Dyn) (A : Option Addr) (n c : Nat) : Prop where
 bel : Below V.heap.size V w
 out : Blk w V.heap.size 29 [.slice A n c, .string D.soname, .string D.run, .slice none 0 0, .slice none 0 0]
 bd : Blk w (V.heap.size + 1) 122 [.pointer (some ⟨g, 0, none⟩)]
 bo : Blk w (V.heap.size + 1 + 1) 130 [.pointer (some ⟨V.heap.size, 0, none⟩)]
 row : w.ownsRow (V.heap.size + 3) 9 1 (.slice A n c) n (D.needed.map Value.string)
 n : D.needed.length = n
section
variable {V w w' : World} {g : Nat} {D : Dy.Dyn} {A : Option Addr} {n c : Nat}
theorem OutM.sz (h : OutM V w g D A n c) : V.heap.size + 3 <= w.heap.size := h.bo.lt
theorem OutM.belowSz (h : OutM V w g D A n c) (hb : Below w.heap.size w w') : OutM V w' g D A n c :=
 ⟨h.bel.trans (hb.mono h.bel.size), h.out.belowSz hb, h.bd.belowSz hb, h.bo.belowSz hb, own_below h.row hb, h.n⟩
theorem zJo {i k : Nat} {e : TypeId} {xs : List Value} {B size : Nat} (h : w.ownsRow B e size (.slice A n c) n xs) (hk : k < B) (u : Value) : (w.setCell ⟨k, i, none⟩ u).ownsRow B e size (.slice A n c) n xs := by
 obtain ⟨hl, hn | ⟨g', cap, cur, hv, hb, hg, h1, h2, h3, h4⟩⟩ := h
 ·exact ⟨hl, .inl hn⟩
 ·exact ⟨hl, .inr ⟨g', cap, cur, hv, hb, (heap_setCell_other _ _ _ _ (by dsimp only; omega)).trans hg, h1, h2, h3, h4⟩⟩
theorem OutM.setS (h : OutM V w g D A n c) (s : ByteArray) : OutM V (w.setCell ⟨V.heap.size, 1, none⟩ (.string s)) g { D with soname := s } A n c :=
 ⟨h.bel.setCell (p := ⟨V.heap.size, 1, none⟩) (Nat.le_refl _) _, h.out.set 1 _, h.bd.other (by dsimp only; omega) _, h.bo.other (by dsimp only; omega) _, zJo h.row (by omega) _, h.n⟩
theorem OutM.setR (h : OutM V w g D A n c) (s : ByteArray) : OutM V (w.setCell ⟨V.heap.size, 2, none⟩ (.string s)) g { D with run := s } A n c :=
 ⟨h.bel.setCell (p := ⟨V.heap.size, 2, none⟩) (Nat.le_refl _) _, h.out.set 2 _, h.bd.other (by dsimp only; omega) _, h.bo.other (by dsimp only; omega) _, zJo h.row (by omega) _, h.n⟩
theorem OutM.notO (h : OutM V w g D A n c) {k : Nat} (hk : k < V.heap.size + 3) : some k ≠ (Value.slice A n c).ownBlock := by
 intro e
 have := (h.row.lt k e.symm).1
 omega
theorem OutM.grown (h : OutM V w g D A n c) (hg : w.grownBy w' (Value.slice A n c).ownBlock) : Below V.heap.size V w' /\ Blk w' V.heap.size 29 [.slice A n c, .string D.soname, .string D.run, .slice none 0 0, .slice none 0 0] /\ Blk w' (V.heap.size + 1) 122 [.pointer (some ⟨g, 0, none⟩)] /\ Blk w' (V.heap.size + 1 + 1) 130 [.pointer (some ⟨V.heap.size, 0, none⟩)] := by
 have hs := h.sz
 exact ⟨h.bel.grown hg h.bel.size (fun k hk => by have := (h.row.lt k hk).1; omega), (hg.block _ (by omega) (h.notO (by omega))).trans h.out, (hg.block _ (by omega) (h.notO (by omega))).trans h.bd, (hg.block _ (by omega) (h.notO (by omega))).trans h.bo⟩
theorem OutM.push {A' : Option Addr} {c' : Nat} (h : OutM V w g D A n c) (s : ByteArray) (ho : w'.ownsRow (V.heap.size + 3) 9 1 (.slice A' (n + 1) c') (n + 1) (D.needed.map Value.string ++ [.string s])) (hg : w.grownBy w' (Value.slice A n c).ownBlock) :
  OutM V (w'.setCell ⟨V.heap.size, 0, none⟩ (.slice A' (n + 1) c')) g { D with needed := D.needed ++ [s] } A' (n + 1) c' := by
 obtain ⟨h1, h2, h3, h4⟩ := h.grown hg
 refine ⟨h1.setCell (p := ⟨V.heap.size, 0, none⟩) (Nat.le_refl _) _, h2.set 0 _, h3.other (by dsimp only; omega) _, h4.other (by dsimp only; omega) _, ?_, by simp [h.n]⟩
 have : (D.needed ++ [s]).map Value.string = D.needed.map Value.string ++ [.string s] := by simp
 dsimp only
 rw [this]
 exact zJo ho (by omega) _
end
theorem putS_any (V w : World) (g n c : Nat) (D : Dy.Dyn) (A : Option Addr) (s : ByteArray) (h : OutM V w g D A n c) :
  Calls Tryz.prog 105 #[.string s, .pointer (some ⟨V.heap.size + 1 + 1, 0, none⟩)] w fun e w' => e = .returned (.tuple #[]) /\ OutM V w' g { D with soname := s } A n c := by
 have x0 := h.bo.cell (i := 0) rfl
 have y0 := h.out.cell (i := 1) rfl
 have y1 := h.out.free 1
 have H := zJ2 (h.setS s)
 clear h
 go_enter Tryz.func105, Tryz.ntmps105
 go_wp2_with fail
 go_end0
 exact ⟨rfl, zJ1 H⟩
theorem putR_any (V w : World) (g n c : Nat) (D : Dy.Dyn) (A : Option Addr) (s : ByteArray) (h : OutM V w g D A n c) :
  Calls Tryz.prog 106 #[.string s, .pointer (some ⟨V.heap.size + 1 + 1, 0, none⟩)] w fun e w' => e = .returned (.tuple #[]) /\ OutM V w' g { D with run := s } A n c := by
 have x0 := h.bo.cell (i := 0) rfl
 have y0 := h.out.cell (i := 2) rfl
 have y1 := h.out.free 2
 have H := zJ2 (h.setR s)
 clear h
 go_enter Tryz.func106, Tryz.ntmps106
 go_wp2_with fail
 go_end0
 exact ⟨rfl, zJ1 H⟩
set_option maxRecDepth 100000 in
set_option maxHeartbeats 2000000 in
theorem putN_any (V w : World) (g n c : Nat) (D : Dy.Dyn) (A : Option Addr) (s : ByteArray) (h : OutM V w g D A n c) (hn : n <= 4294967296) :
  Calls Tryz.prog 104 #[.string s, .pointer (some ⟨V.heap.size + 1 + 1, 0, none⟩)] w fun e w' => e = .returned (.tuple #[]) /\ ∃ A' c', OutM V w' g { D with needed := D.needed ++ [s] } A' (n + 1) c' := by
 have H := zJ2 h
 have HC : Hid (∀ w' : World, Blk w' (V.heap.size + 1 + 1) 130 [.pointer (some ⟨V.heap.size, 0, none⟩)] -> w'.cell? ⟨V.heap.size + 1 + 1, 0, none⟩ = some (.pointer (some ⟨V.heap.size, 0, none⟩))) := zJ2 (fun w' h => h.cell (i := 0) rfl)
 have Hd := zJ2 (h.belowSz (zJ5 (Below.refl _ _)))
 have y0 := (h.belowSz (zJ5 (Below.refl _ _))).out.cell (i := 0) rfl
 have hsz := h.sz
 clear h
 go_enter Tryz.func104, Tryz.ntmps104
 go_wp2_with fail
 refine wp_region_noPanic ?_
 refine wp_region_held_drew (S := fun w' => w'.cell? ⟨V.heap.size + 1 + 1, 0, none⟩ = some (.pointer (some ⟨V.heap.size, 0, none⟩))) (by kernel_rfl) ((zJ1 HC) _ (zJ1 Hd).bo) (fun HS0 => ?_)
 refine takeD (i := 0) (d := some 3) (v := ?_) rfl rfl (by kernel_rfl) (by kernel_rfl) (by kernel_rfl) (fun _ _ _ h => h) (Or.inl ⟨by rfl, ?y0⟩) HS0 ?_
 case y0 => (intro w' hSw; (try dsimp only at hSw); go_simp; (try with_reducible rfl))
 simp only [Act.put, List.setIfInBounds_toArray, List.set_cons_zero, List.set_cons_succ]
 refine takeD (i := 1) (d := some 4) (v := ?_) rfl rfl (by kernel_rfl) (by kernel_rfl) (by kernel_rfl) (fun _ _ _ h => h) (Or.inl ⟨by rfl, ?y1⟩) HS0 ?_
 case y1 => (intro w' hSw; (try dsimp only at hSw); go_simp; (try with_reducible rfl))
 simp only [Act.put, List.setIfInBounds_toArray, List.set_cons_zero, List.set_cons_succ]
 refine takeD (i := 2) (d := some 5) (v := ?_) rfl rfl (by kernel_rfl) (by kernel_rfl) (by kernel_rfl) (fun _ _ _ h => h) (Or.inl ⟨by rfl, ?y2⟩) HS0 ?_
 case y2 => (intro w' hSw; (try dsimp only at hSw); go_simp; (try with_reducible rfl))
 simp only [Act.put, List.setIfInBounds_toArray, List.set_cons_zero, List.set_cons_succ]
 refine takeD (i := 3) (d := some 6) (v := ?_) rfl rfl (by kernel_rfl) (by kernel_rfl) (by kernel_rfl) (fun _ _ _ h => h) (Or.inl ⟨by rfl, ?y3⟩) HS0 ?_
 case y3 => (intro w' hSw; (try dsimp only at hSw); go_simp; (try with_reducible rfl))
 simp only [Act.put, List.setIfInBounds_toArray, List.set_cons_zero, List.set_cons_succ]
 refine takeD (i := 5) (d := some 8) (v := ?_) rfl rfl (by kernel_rfl) (by kernel_rfl) (by kernel_rfl) (fun _ _ _ h => h) (Or.inl ⟨by rfl, ?y5⟩) HS0 ?_
 case y5 => (intro w' hSw; (try dsimp only at hSw); go_simp; (try with_reducible rfl))
 simp only [Act.put, List.setIfInBounds_toArray, List.set_cons_zero, List.set_cons_succ]
 refine wpAnyH_ready (rs := [4, 6]) (by kernel_rfl) (by simp) ?_
 refine AllReadyH.cons (i := 4) rfl (fun K hK => ?way4) (AllReadyH.cons (i := 6) rfl (fun K hK => ?way6) AllReadyH.nil)
 case way4 =>
  rw [if_pos (by rfl)]
  go_simp
  refine hK.out _ _ ((zJ1 HC) _ (zJ1 Hd).bo) (fun hHeld => ?_)
  clear hK K HS0
  have HS0 := hHeld
  clear hHeld
  (try simp only [Act.put, List.setIfInBounds_toArray, List.set_cons_zero, List.set_cons_succ])
  refine wpAnyH_ready (rs := [6]) (by kernel_rfl) (by simp) ?_
  refine AllReadyH.cons (i := 6) rfl (fun K hK => ?_) AllReadyH.nil
  rw [if_pos (by rfl)]
  go_simp
  refine hK.out _ _ ((zJ1 HC) _ ((zJ1 Hd).bo.alloc _)) (fun hHeld => ?_)
  clear hK K HS0
  have HS0 := hHeld
  clear hHeld
  (try simp only [Act.put, List.setIfInBounds_toArray, List.set_cons_zero, List.set_cons_succ])
  refine wpAnyH_ready (rs := [7]) (by kernel_rfl) (by simp) ?_
  refine AllReadyH.cons (i := 7) rfl (fun K hK => ?_) AllReadyH.nil
  rw [if_pos (by rfl)]
  refine vJ6 strTy _ _ rfl (V.heap.size + 3) (.slice A n c) n (D.needed.map Value.string) rfl (zJ1 Hd).row #[.string s] _ rfl (by simp) rfl (by intro u hu; simp at hu; rcases hu with rfl; rfl) (by omega) (by simp; omega) ?_
  intro A6 c6 w8 ho6 hg6
  have HP := zJ2 ((zJ1 Hd).push s ho6 hg6)
  have HG := zJ2 ((zJ1 Hd).grown hg6)
  have z0 := (zJ1 HG).2.1.cell (i := 0) rfl
  have z1 := (zJ1 HG).2.1.free 0
  clear ho6 hg6
  refine hK.out _ _ ((zJ1 HC) _ (zJ1 HG).2.2.2) (fun hHeld => ?_)
  clear hK K HS0
  have HS0 := hHeld
  clear hHeld
  (try simp only [Act.put, List.setIfInBounds_toArray, List.set_cons_zero, List.set_cons_succ])
  refine takeD (i := 8) (d := some 11) (v := ?_) rfl rfl (by kernel_rfl) (by kernel_rfl) (by kernel_rfl) (fun _ _ _ h => h) (Or.inl ⟨by rfl, ?y8⟩) HS0 ?_
  case y8 => (intro w' hSw; (try dsimp only at hSw); go_simp; (try with_reducible rfl))
  simp only [Act.put, List.setIfInBounds_toArray, List.set_cons_zero, List.set_cons_succ]
  refine takeD (i := 9) (d := some 12) (v := ?_) rfl rfl (by kernel_rfl) (by kernel_rfl) (by kernel_rfl) (fun _ _ _ h => h) (Or.inl ⟨by rfl, ?y9⟩) HS0 ?_
  case y9 => (intro w' hSw; (try dsimp only at hSw); go_simp; (try with_reducible rfl))
  simp only [Act.put, List.setIfInBounds_toArray, List.set_cons_zero, List.set_cons_succ]
  refine wpAnyH_ready (rs := [10]) (by kernel_rfl) (by simp) ?_
  refine AllReadyH.cons (i := 10) rfl (fun K hK => ?_) AllReadyH.nil
  rw [if_pos (by rfl)]
  go_simp
  refine hK.out _ _ ((zJ1 HC) _ ((zJ1 HP).bo)) (fun hHeld => ?_)
  clear hK K HS0
  have HS0 := hHeld
  clear hHeld
  (try simp only [Act.put, List.setIfInBounds_toArray, List.set_cons_zero, List.set_cons_succ])
  refine wpAnyH_done (by kernel_rfl) ?_ _
  refine NoPanic.normal ?_
  go_wp2_with fail
  go_end0
  exact ⟨rfl, A6, c6, zJ1 HP⟩
 case way6 =>
  rw [if_pos (by rfl)]
  go_simp
  refine hK.out _ _ ((zJ1 HC) _ ((zJ1 Hd).bo.alloc _)) (fun hHeld => ?_)
  clear hK K HS0
  have HS0 := hHeld
  clear hHeld
  (try simp only [Act.put, List.setIfInBounds_toArray, List.set_cons_zero, List.set_cons_succ])
  have y5 := ((zJ1 H).out.alloc (.cells #[.string s] 9)).cell (i := 0) rfl
  refine wpAnyH_ready (rs := [4]) (by kernel_rfl) (by simp) ?_
  refine AllReadyH.cons (i := 4) rfl (fun K hK => ?_) AllReadyH.nil
  rw [if_pos (by rfl)]
  go_simp
  refine hK.out _ _ ((zJ1 HC) _ ((zJ1 Hd).bo.alloc _)) (fun hHeld => ?_)
  clear hK K HS0
  have HS0 := hHeld
  clear hHeld
  (try simp only [Act.put, List.setIfInBounds_toArray, List.set_cons_zero, List.set_cons_succ])
  refine wpAnyH_ready (rs := [7]) (by kernel_rfl) (by simp) ?_
  refine AllReadyH.cons (i := 7) rfl (fun K hK => ?_) AllReadyH.nil
  rw [if_pos (by rfl)]
  refine vJ6 strTy _ _ rfl (V.heap.size + 3) (.slice A n c) n (D.needed.map Value.string) rfl (zJ1 Hd).row #[.string s] _ rfl (by simp) rfl (by intro u hu; simp at hu; rcases hu with rfl; rfl) (by omega) (by simp; omega) ?_
  intro A6 c6 w8 ho6 hg6
  have HP := zJ2 ((zJ1 Hd).push s ho6 hg6)
  have HG := zJ2 ((zJ1 Hd).grown hg6)
  have z0 := (zJ1 HG).2.1.cell (i := 0) rfl
  have z1 := (zJ1 HG).2.1.free 0
  clear ho6 hg6
  refine hK.out _ _ ((zJ1 HC) _ (zJ1 HG).2.2.2) (fun hHeld => ?_)
  clear hK K HS0
  have HS0 := hHeld
  clear hHeld
  (try simp only [Act.put, List.setIfInBounds_toArray, List.set_cons_zero, List.set_cons_succ])
  refine takeD (i := 8) (d := some 11) (v := ?_) rfl rfl (by kernel_rfl) (by kernel_rfl) (by kernel_rfl) (fun _ _ _ h => h) (Or.inl ⟨by rfl, ?y8⟩) HS0 ?_
  case y8 => (intro w' hSw; (try dsimp only at hSw); go_simp; (try with_reducible rfl))
  simp only [Act.put, List.setIfInBounds_toArray, List.set_cons_zero, List.set_cons_succ]
  refine takeD (i := 9) (d := some 12) (v := ?_) rfl rfl (by kernel_rfl) (by kernel_rfl) (by kernel_rfl) (fun _ _ _ h => h) (Or.inl ⟨by rfl, ?y9⟩) HS0 ?_
  case y9 => (intro w' hSw; (try dsimp only at hSw); go_simp; (try with_reducible rfl))
  simp only [Act.put, List.setIfInBounds_toArray, List.set_cons_zero, List.set_cons_succ]
  refine wpAnyH_ready (rs := [10]) (by kernel_rfl) (by simp) ?_
  refine AllReadyH.cons (i := 10) rfl (fun K hK => ?_) AllReadyH.nil
  rw [if_pos (by rfl)]
  go_simp
  refine hK.out _ _ ((zJ1 HC) _ ((zJ1 HP).bo)) (fun hHeld => ?_)
  clear hK K HS0
  have HS0 := hHeld
  clear hHeld
  (try simp only [Act.put, List.setIfInBounds_toArray, List.set_cons_zero, List.set_cons_succ])
  refine wpAnyH_done (by kernel_rfl) ?_ _
  refine NoPanic.normal ?_
  go_wp2_with fail
  go_end0
  exact ⟨rfl, A6, c6, zJ1 HP⟩
set_option maxRecDepth 100000 in
theorem putP_any (V w : World) (g n c : Nat) (D : Dy.Dyn) (A : Option Addr) (s : ByteArray) (B : Nat) (d : Ds) (h : OutM V w g D A n c) (hd : DsM V B g d d.L) :
  Calls Tryz.prog 107 #[.string s, .pointer (some ⟨V.heap.size + 1, 0, none⟩), .pointer (some ⟨V.heap.size + 1 + 1, 0, none⟩)] w fun e w' => e = .returned (.tuple #[]) /\ OutM V w' g (if (Dy.val d.L 29).isSome = false then { D with run := s } else D) A n c := by
 have hd2 := hd.belowSz h.bel
 have l1 := (yJv hd2 (t := 29) rfl).1
 have x0 := h.bd.cell (i := 0) rfl
 have x1 := h.bo.cell (i := 0) rfl
 have x6 := hd2.cells.2.2.2.2.2.2
 have y0 := h.out.cell (i := 2) rfl
 have y1 := h.out.free 2
 have H := zJ2 (h.setR s)
 have H0 := zJ2 h
 obtain ⟨q, hq⟩ : ∃ q, (Dy.val d.L 29).isSome = q := ⟨_, rfl⟩
 obtain ⟨v, hv⟩ : ∃ q, (Dy.val d.L 29).getD 0 = q := ⟨_, rfl⟩
 obtain ⟨gm, hgm⟩ : ∃ q, d.gm = q := ⟨_, rfl⟩
 rw [hq, hv, hgm] at l1
 have l2 : (Instr.lookup 175 (.map (some gm)) (.int .u64 29) true).run Tryz.prog w = .ok (.tuple #[.int .u64 (v : Nat), .bool q]) w := l1
 rw [hgm] at x6
 rw [hq]
 clear hq hv hgm h hd hd2 l1
 cases q
 case true =>
  go_enter Tryz.func107, Tryz.ntmps107
  go_wp2_with fail
  go_end0
  exact ⟨rfl, by simpa using zJ1 H0⟩
 go_enter Tryz.func107, Tryz.ntmps107
 go_wp2_with fail
 go_end0
 exact ⟨rfl, by simpa using zJ1 H⟩
open Go.RowKit
namespace Dy
theorem texts_skip {t : List UInt8} {run : Bool} {x1 x2 : Nat} {r : List (Nat × Nat)} {D : Dyn} (h : ¬ (x1 = 1 \/ x1 = 14 \/ x1 = 15 \/ x1 = 29)) : texts t run ((x1, x2) :: r) D = texts t run r D := by
 rw [texts, if_neg h]
theorem texts_no {t : List UInt8} {run : Bool} {x1 x2 : Nat} {r : List (Nat × Nat)} {D : Dyn} (h : x1 = 1 \/ x1 = 14 \/ x1 = 15 \/ x1 = 29) (ht : text t x2 = none) : texts t run ((x1, x2) :: r) D = none := by
 rw [texts, if_pos h, ht]
theorem texts_yes {t : List UInt8} {run : Bool} {x1 x2 : Nat} {r : List (Nat × Nat)} {D : Dyn} {s : ByteArray} (h : x1 = 1 \/ x1 = 14 \/ x1 = 15 \/ x1 = 29) (ht : text t x2 = some s) : texts t run ((x1, x2) :: r) D = texts t run r (if x1 = 1 then { D with needed := D.needed ++ [s] } else if x1 = 14 then { D with soname := s } else if x1 = 29 \/ run = false then { D with run := s } else D) := by
 rw [texts, if_pos h, ht]
end Dy
def TextsE (o : Option Dy.Dyn) (V : World) (g : Nat) (e : Ending) (w' : World) : Prop :=
 ∃ q, e = .returned (.bool q) /\ ((q = false /\ o = none) \/ (q = true /\ ∃ D A n c, o = some D /\ OutM V w' g D A n c)) /\ Below V.heap.size V w'
set_option maxRecDepth 100000 in
set_option maxHeartbeats 4000000 in
theorem texts_any (V : World) (B g : Nat) (d : Ds) (At : Option Addr) (mt ct : Nat) (t : List UInt8) (hd : DsM V B g d d.L) (ho : DsOk d) (hkm : d.k <= 4294967296) (hT : Rd V B 1 At mt (bys t)) (hmt : mt <= 4294967296) (hmc : mt <= ct) :
  Calls Tryz.prog 59 #[.pointer (some ⟨g, 0, none⟩), .slice At mt ct, .pointer (some ⟨V.heap.size, 0, none⟩)] (V.alloc (.cells #[.slice none 0 0, .string ⟨#[]⟩, .string ⟨#[]⟩, .slice none 0 0, .slice none 0 0] 29)) (TextsE (Dy.texts t (Dy.val d.L 29).isSome d.L Dy.zero) V g) := by
 have hsz : B <= V.heap.size := hd.sz
 have KT := zJ2 (fun (p : Nat) (hp : p < 18446744073709551616) w' (hb : Below V.heap.size V w') => text_any At mt ct B t p w' (Nat.le_trans hsz hb.size) (hT.below (hb.mono hsz)) hmt hmc hp)
 have KP := zJ2 (fun (w : World) (n c : Nat) (D : Dy.Dyn) (A : Option Addr) (s : ByteArray) (h : OutM V w g D A n c) => putP_any V w g n c D A s B d h hd)
 have hlen := hd.len
 have hlt64 := fun (j : Nat) (x : Nat × Nat) (h : d.L[j]? = some x) => ho.ent x (List.mem_of_getElem? h)
 obtain ⟨kk, hkk⟩ : ∃ k, d.k = k := ⟨_, rfl⟩
 obtain ⟨Al, hAl⟩ : ∃ k, d.Al = k := ⟨_, rfl⟩
 obtain ⟨cl, hcl⟩ : ∃ k, d.cl = k := ⟨_, rfl⟩
 have hcell : ∀ wr, Below V.heap.size V wr -> wr.cell? ⟨g, 5, none⟩ = some (.slice Al kk cl) := by
  intro wr h
  have h5 := (hd.belowSz h).cells.2.2.2.2.2.1
  rw [hAl, hkk, hcl] at h5
  exact h5
 have hents : ∀ wr j e, Below V.heap.size V wr -> d.L[j]? = some e -> ∃ b off, Al = some ⟨b, off, none⟩ /\ wr.cell? ⟨b, off + j * 2, none⟩ = some (.int .u64 (e.1 : Nat)) /\ wr.cell? ⟨b, off + j * 2 + 1, none⟩ = some (.int .u64 (e.2 : Nat)) := by
  intro wr j e h he
  obtain ⟨b, off, h1, _, h2⟩ := ent_at (Rd.of_own (hd.belowSz h).list) he
  exact ⟨b, off, hAl ▸ h1, h2⟩
 rw [hkk] at hlen hkm
 obtain ⟨run, hrun⟩ : ∃ k, (Dy.val d.L 29).isSome = k := ⟨_, rfl⟩
 have kp := zJ1 KP
 rw [hrun] at kp ⊢
 have KP2 := zJ2 kp
 obtain ⟨L, hL⟩ : ∃ k, d.L = k := ⟨_, rfl⟩
 rw [hL] at hlen hlt64 hents ⊢
 have W0 : Hid (OutM V (((V.alloc (.cells #[.slice none 0 0, .string ⟨#[]⟩, .string ⟨#[]⟩, .slice none 0 0, .slice none 0 0] 29)).alloc (.cells #[.pointer (some ⟨g, 0, none⟩)] 122)).alloc (.cells #[.pointer (some ⟨V.heap.size, 0, none⟩)] 130)) g Dy.zero none 0 0) := zJ2 (by
  have e1 : (V.alloc (.cells #[.slice none 0 0, .string ⟨#[]⟩, .string ⟨#[]⟩, .slice none 0 0, .slice none 0 0] 29)).heap.size = V.heap.size + 1 := by simp
  have e2 : ((V.alloc (.cells #[.slice none 0 0, .string ⟨#[]⟩, .string ⟨#[]⟩, .slice none 0 0, .slice none 0 0] 29)).alloc (.cells #[.pointer (some ⟨g, 0, none⟩)] 122)).heap.size = V.heap.size + 1 + 1 := by simp
  have h1 := Blk.new V 29 [.slice none 0 0, .string ⟨#[]⟩, .string ⟨#[]⟩, .slice none 0 0, .slice none 0 0]
  have h2 := Blk.new (V.alloc (.cells #[.slice none 0 0, .string ⟨#[]⟩, .string ⟨#[]⟩, .slice none 0 0, .slice none 0 0] 29)) 122 [.pointer (some ⟨g, 0, none⟩)]
  have h3 := Blk.new ((V.alloc (.cells #[.slice none 0 0, .string ⟨#[]⟩, .string ⟨#[]⟩, .slice none 0 0, .slice none 0 0] 29)).alloc (.cells #[.pointer (some ⟨g, 0, none⟩)] 122)) 130 [.pointer (some ⟨V.heap.size, 0, none⟩)]
  rw [e1] at h2
  rw [e2] at h3
  exact ⟨(((Below.refl _ _).alloc (Nat.le_refl _) _).alloc (by simp) _).alloc (by simp; omega) _, (h1.alloc _).alloc _, h2.alloc _, h3, World.ownsRow_nil _ _ _ _, rfl⟩)
 have Hlen := zJ2 hlen
 have Hcell := zJ2 hcell
 have Hents := zJ2 hents
 have H64 := zJ2 hlt64
 have hgs : g < V.heap.size := hd.blk.lt
 clear hlen hcell hents hlt64 hd ho hT hkk hAl hcl KP kp hrun hL
 go_enter Tryz.func59, Tryz.ntmps59
 have x3 := (zJ1 W0).bd.cell (i := 0) rfl
 have x5 := (zJ1 Hcell) _ (zJ1 W0).bel
 go_wp2_with fail
 clear x3 x5
 go_loopg [17] kk (fun gk iv wr => ∃ (j : Nat) (D : Dy.Dyn) (A : Option Addr) (n c : Nat), gk = kk - j /\ j <= kk /\ n <= j /\ iv = .int .i64 j /\ OutM V wr g D A n c /\ Dy.texts t run L Dy.zero = Dy.texts t run (L.drop j) D)
 case atStart => exact ⟨0, Dy.zero, none, 0, 0, by omega, Nat.zero_le _, Nat.le_refl _, rfl, zJ1 W0, rfl⟩
 case round =>
 obtain ⟨j, D, A, n, c, hgk, hj, hnj, rfl, hO, hT⟩ := hrel
 have HO := zJ2 hO
 have HT := zJ2 hT
 clear hO hT W0
 by_cases hlt : j < kk
 case neg =>
  have ige : ¬ (j : Int) < (kk : Int) := by omega
  have Hend : Hid (Dy.texts t run L Dy.zero = some D) := zJ2 (by rw [zJ1 HT, List.drop_of_length_le (by rw [<- zJ1 Hlen]; omega)]; rfl)
  clear HT KT KP2 Hcell Hents H64
  go_wp2_with fail
  go_ret
  exact ⟨true, rfl, .inr ⟨rfl, D, A, n, c, zJ1 Hend, zJ1 HO⟩, (zJ1 HO).bel⟩
 have ilt : (j : Int) < (kk : Int) := by omega
 obtain ⟨⟨y1, x2⟩, hx⟩ : ∃ x, L[j]? = some x := ⟨_, List.getElem?_eq_getElem (by rw [<- zJ1 Hlen]; exact hlt)⟩
 have hx2 : x2 < 18446744073709551616 := ((zJ1 H64) j _ hx).2
 have hT := zJ1 HT
 rw [List.drop_eq_getElem_cons (by rw [<- zJ1 Hlen]; exact hlt), show L[j]'(by rw [<- zJ1 Hlen]; exact hlt) = (y1, x2) from (List.getElem?_eq_some_iff.1 hx).2] at hT
 obtain ⟨b9, o9, hA9, q0, q1⟩ := (zJ1 Hents) wr j _ (zJ1 HO).bel hx
 subst hA9
 dsimp only at q0 q1
 obtain ⟨xi, hxi⟩ : ∃ x : Int, (y1 : Int) = x := ⟨_, rfl⟩
 rw [hxi] at q0
 have Hxi := zJ2 hxi
 have HT2 := zJ2 hT
 have HO1 : Hid (OutM V (wr.alloc (.cells #[.int .u64 xi, .int .u64 (x2 : Nat)] 182)) g D A n c) := zJ2 ((zJ1 HO).belowSz ((Below.refl _ _).alloc (Nat.le_refl _) _))
 have HE1 : Hid (Blk (wr.alloc (.cells #[.int .u64 xi, .int .u64 (x2 : Nat)] 182)) wr.heap.size 182 [.int .u64 xi, .int .u64 (x2 : Nat)]) := zJ2 (Blk.new wr 182 [.int .u64 xi, .int .u64 (x2 : Nat)])
 clear hxi hT HT hx HO
 by_cases h1 : xi = 1
 ·subst h1
  have hy1 : y1 = 1 := by have := zJ1 Hxi; omega
  have HNo : Hid (Dy.text t x2 = none -> Dy.texts t run L Dy.zero = none) := zJ2 (fun h => by rw [zJ1 HT2, Dy.texts_no (.inl hy1) h])
  have HYes : Hid (∀ nm, Dy.text t x2 = some nm -> Dy.texts t run L Dy.zero = Dy.texts t run (L.drop (j + 1)) { D with needed := D.needed ++ [nm] }) := zJ2 (fun nm h => by rw [zJ1 HT2, Dy.texts_yes (.inl hy1) h, hy1]; simp)
  have K1 := zJ2 ((zJ1 KT) x2 hx2 _ (zJ1 HO1).bel)
  clear HT2 Hxi hy1 Hcell Hents H64
  go_wp2_with fail
  refine (zJ1 K1).mono ?_
  rintro e w5 ⟨nm, tb, rfl, htx, hb5⟩
  have HO5 := zJ2 ((zJ1 HO1).belowSz hb5)
  have Htx := zJ2 htx
  clear htx hb5 K1 HO1 HE1 q0 q1
  cases tb
  ·have Hr : Hid (Dy.texts t run L Dy.zero = none) := zJ2 (by
    rcases zJ1 Htx with ⟨h0, -⟩ | ⟨-, h0⟩
    ·cases h0
    ·exact (zJ1 HNo) h0)
   clear Htx HNo HYes KT KP2
   go_wp2_with fail
   go_ret
   exact ⟨false, rfl, .inl ⟨rfl, zJ1 Hr⟩, (zJ1 HO5).bel⟩
  have Hr : Hid (Dy.texts t run L Dy.zero = Dy.texts t run (L.drop (j + 1)) { D with needed := D.needed ++ [nm] }) := zJ2 (by
   rcases zJ1 Htx with ⟨-, h0⟩ | ⟨h0, -⟩
   ·exact (zJ1 HYes) nm h0
   ·cases h0)
  clear Htx HNo HYes
  have K2 := zJ2 (putN_any V w5 g n c D A nm (zJ1 HO5) (by omega))
  clear HO5
  go_wp2_with fail
  refine (zJ1 K2).mono ?_
  rintro e w6 ⟨rfl, A', c', hO6⟩
  have HO6 := zJ2 hO6
  clear hO6 K2
  go_wp2_with fail
  go_roundg (kk - (j + 1))
  case measure => omega
  case rel => exact ⟨j + 1, _, _, _, _, rfl, by omega, Nat.succ_le_succ hnj, by go_num, zJ1 HO6, zJ1 Hr⟩
 by_cases h14 : xi = 14
 ·subst h14
  have hy1 : y1 = 14 := by have := zJ1 Hxi; omega
  have HNo : Hid (Dy.text t x2 = none -> Dy.texts t run L Dy.zero = none) := zJ2 (fun h => by rw [zJ1 HT2, Dy.texts_no (.inr (.inl hy1)) h])
  have HYes : Hid (∀ nm, Dy.text t x2 = some nm -> Dy.texts t run L Dy.zero = Dy.texts t run (L.drop (j + 1)) { D with soname := nm }) := zJ2 (fun nm h => by rw [zJ1 HT2, Dy.texts_yes (.inr (.inl hy1)) h, hy1]; simp)
  have K1 := zJ2 ((zJ1 KT) x2 hx2 _ (zJ1 HO1).bel)
  clear HT2 Hxi hy1 Hcell Hents H64
  go_wp2_with fail
  refine (zJ1 K1).mono ?_
  rintro e w5 ⟨nm, tb, rfl, htx, hb5⟩
  have HO5 := zJ2 ((zJ1 HO1).belowSz hb5)
  have Htx := zJ2 htx
  clear htx hb5 K1 HO1 HE1 q0 q1
  cases tb
  ·have Hr : Hid (Dy.texts t run L Dy.zero = none) := zJ2 (by
    rcases zJ1 Htx with ⟨h0, -⟩ | ⟨-, h0⟩
    ·cases h0
    ·exact (zJ1 HNo) h0)
   clear Htx HNo HYes KT KP2
   go_wp2_with fail
   go_ret
   exact ⟨false, rfl, .inl ⟨rfl, zJ1 Hr⟩, (zJ1 HO5).bel⟩
  have Hr : Hid (Dy.texts t run L Dy.zero = Dy.texts t run (L.drop (j + 1)) { D with soname := nm }) := zJ2 (by
   rcases zJ1 Htx with ⟨-, h0⟩ | ⟨h0, -⟩
   ·exact (zJ1 HYes) nm h0
   ·cases h0)
  clear Htx HNo HYes
  have K2 := zJ2 (putS_any V w5 g n c D A nm (zJ1 HO5))
  clear HO5
  go_wp2_with fail
  refine (zJ1 K2).mono ?_
  rintro e w6 ⟨rfl, hO6⟩
  have HO6 := zJ2 hO6
  clear hO6 K2
  go_wp2_with fail
  go_roundg (kk - (j + 1))
  case measure => omega
  case rel => exact ⟨j + 1, _, _, _, _, rfl, by omega, by omega, by go_num, zJ1 HO6, zJ1 Hr⟩
 by_cases h29 : xi = 29
 ·subst h29
  have hy1 : y1 = 29 := by have := zJ1 Hxi; omega
  have HNo : Hid (Dy.text t x2 = none -> Dy.texts t run L Dy.zero = none) := zJ2 (fun h => by rw [zJ1 HT2, Dy.texts_no (.inr (.inr (.inr hy1))) h])
  have HYes : Hid (∀ nm, Dy.text t x2 = some nm -> Dy.texts t run L Dy.zero = Dy.texts t run (L.drop (j + 1)) { D with run := nm }) := zJ2 (fun nm h => by rw [zJ1 HT2, Dy.texts_yes (.inr (.inr (.inr hy1))) h, hy1]; simp)
  have K1 := zJ2 ((zJ1 KT) x2 hx2 _ (zJ1 HO1).bel)
  clear HT2 Hxi hy1 Hcell Hents H64
  go_wp2_with fail
  refine (zJ1 K1).mono ?_
  rintro e w5 ⟨nm, tb, rfl, htx, hb5⟩
  have HO5 := zJ2 ((zJ1 HO1).belowSz hb5)
  have Htx := zJ2 htx
  clear htx hb5 K1 HO1 HE1 q0 q1
  cases tb
  ·have Hr : Hid (Dy.texts t run L Dy.zero = none) := zJ2 (by
    rcases zJ1 Htx with ⟨h0, -⟩ | ⟨-, h0⟩
    ·cases h0
    ·exact (zJ1 HNo) h0)
   clear Htx HNo HYes KT KP2
   go_wp2_with fail
   go_ret
   exact ⟨false, rfl, .inl ⟨rfl, zJ1 Hr⟩, (zJ1 HO5).bel⟩
  have Hr : Hid (Dy.texts t run L Dy.zero = Dy.texts t run (L.drop (j + 1)) { D with run := nm }) := zJ2 (by
   rcases zJ1 Htx with ⟨-, h0⟩ | ⟨h0, -⟩
   ·exact (zJ1 HYes) nm h0
   ·cases h0)
  clear Htx HNo HYes
  have K2 := zJ2 (putR_any V w5 g n c D A nm (zJ1 HO5))
  clear HO5
  go_wp2_with fail
  refine (zJ1 K2).mono ?_
  rintro e w6 ⟨rfl, hO6⟩
  have HO6 := zJ2 hO6
  clear hO6 K2
  go_wp2_with fail
  go_roundg (kk - (j + 1))
  case measure => omega
  case rel => exact ⟨j + 1, _, _, _, _, rfl, by omega, by omega, by go_num, zJ1 HO6, zJ1 Hr⟩
 by_cases h15 : xi = 15
 ·subst h15
  have hy1 : y1 = 15 := by have := zJ1 Hxi; omega
  have HNo : Hid (Dy.text t x2 = none -> Dy.texts t run L Dy.zero = none) := zJ2 (fun h => by rw [zJ1 HT2, Dy.texts_no (.inr (.inr (.inl hy1))) h])
  have HYes : Hid (∀ nm, Dy.text t x2 = some nm -> Dy.texts t run L Dy.zero = Dy.texts t run (L.drop (j + 1)) (if run = false then { D with run := nm } else D)) := zJ2 (fun nm h => by rw [zJ1 HT2, Dy.texts_yes (.inr (.inr (.inl hy1))) h, hy1]; simp)
  have K1 := zJ2 ((zJ1 KT) x2 hx2 _ (zJ1 HO1).bel)
  clear HT2 Hxi hy1 Hcell Hents H64
  go_wp2_with fail
  refine (zJ1 K1).mono ?_
  rintro e w5 ⟨nm, tb, rfl, htx, hb5⟩
  have HO5 := zJ2 ((zJ1 HO1).belowSz hb5)
  have Htx := zJ2 htx
  clear htx hb5 K1 HO1 HE1 q0 q1
  cases tb
  ·have Hr : Hid (Dy.texts t run L Dy.zero = none) := zJ2 (by
    rcases zJ1 Htx with ⟨h0, -⟩ | ⟨-, h0⟩
    ·cases h0
    ·exact (zJ1 HNo) h0)
   clear Htx HNo HYes KT KP2
   go_wp2_with fail
   go_ret
   exact ⟨false, rfl, .inl ⟨rfl, zJ1 Hr⟩, (zJ1 HO5).bel⟩
  have Hr : Hid (Dy.texts t run L Dy.zero = Dy.texts t run (L.drop (j + 1)) (if run = false then { D with run := nm } else D)) := zJ2 (by
   rcases zJ1 Htx with ⟨-, h0⟩ | ⟨h0, -⟩
   ·exact (zJ1 HYes) nm h0
   ·cases h0)
  clear Htx HNo HYes
  have K2 := zJ2 ((zJ1 KP2) w5 n c D A nm (zJ1 HO5))
  clear HO5
  go_wp2_with fail
  refine (zJ1 K2).mono ?_
  rintro e w6 ⟨rfl, hO6⟩
  have HO6 := zJ2 hO6
  clear hO6 K2
  go_wp2_with fail
  go_roundg (kk - (j + 1))
  case measure => omega
  case rel => exact ⟨j + 1, _, _, _, _, rfl, by omega, by omega, by go_num, zJ1 HO6, zJ1 Hr⟩
 have HSk : Hid (Dy.texts t run L Dy.zero = Dy.texts t run (L.drop (j + 1)) D) := zJ2 (by rw [zJ1 HT2, Dy.texts_skip (by have := zJ1 Hxi; omega)])
 clear HT2 Hxi KT KP2 Hcell Hents H64
 go_wp2_with fail
 go_roundg (kk - (j + 1))
 case measure => omega
 case rel => exact ⟨j + 1, _, _, _, _, rfl, by omega, by omega, by go_num, zJ1 HO1, zJ1 HSk⟩
open Go.RowKit
theorem reInfo : (Tryz.prog.info? 141).map (·.size) = some 4 := by kernel_rfl
theorem reOne (a b c d : Int) : (#[.int .u64 a, .int .u32 b, .int .i64 c, .int .i64 d] : Array Value).all (·.oneCell') = true := by simp [Value.oneCell']
set_option maxRecDepth 100000 in
set_option maxHeartbeats 2000000 in
theorem relOf_any (A : Option Addr) (c B gt : Nat) (b : List UInt8) (As : Option Addr) (ns cs : Nat) (w : World) (hB : B <= w.heap.size) (h : Rd w B 1 A 24 (bys b)) (hgt : gt < w.heap.size) (hs : w.cell? ⟨gt, 3, none⟩ = some (.slice As ns cs)) (hns : ns <= 4294967296) :
  Calls Tryz.prog 65 #[.slice A 24 c, .pointer (some ⟨gt, 0, none⟩)] w (reRowE (Dy.relOf ns b 0) w) := by
 have Hb0 : Hid (Below w.heap.size w (w.alloc (.cells #[.int .u64 0, .int .u32 0, .int .i64 0, .int .i64 0] 141))) := zJ2 ((Below.refl _ _).alloc (Nat.le_refl _) _)
 have Hk0 : Hid (Blk (w.alloc (.cells #[.int .u64 0, .int .u32 0, .int .i64 0, .int .i64 0] 141)) w.heap.size 141 [.int .u64 0, .int .u32 0, .int .i64 0, .int .i64 0]) := zJ2 (Blk.new w 141 [.int .u64 0, .int .u32 0, .int .i64 0, .int .i64 0])
 have KN := zJ2 (fun (p s : Nat) (hs : s = 1 \/ s = 2 \/ s = 4 \/ s = 8) (hin : p + s <= 24) w' (hb : Below w.heap.size w w') => yJ8 A 24 c B b p s w' (Nat.le_trans hB hb.size) (h.below (hb.mono hB)) (by unfold maxLen; omega) hs hin)
 have Hsc := zJ2 (fun (w' : World) (hb : Below w.heap.size w w') => (World.cell?_of_block (a := ⟨gt, 3, none⟩) (hb.block gt hgt)).trans hs)
 have hx0 := Wd.num_lt b 0 8
 have hx8 := Wd.num_lt b 8 4
 have hx12 := Wd.num_lt b 12 4
 have hx16 := Wd.num_lt b 16 8
 have hrel : Dy.relOf ns b 0 = if ns < Wd.num b 12 4 then none else some ⟨Wd.num b 0 8, Wd.num b 8 4, Wd.num b 12 4, Wd.num b 16 8⟩ := by
  unfold Dy.relOf Dy.relAt
  simp only [Nat.zero_add]
 have k0 : ∀ W, Below w.heap.size w W -> Calls Tryz.prog 63 #[.slice A 24 c, .int .u64 0, .int .i64 8] W (fun e w' => e = .returned (.int .u64 (Wd.num b 0 8 : Nat)) /\ Below W.heap.size W w') := fun W h => (zJ1 KN) 0 8 (by omega) (by omega) W h
 have k8 : ∀ W, Below w.heap.size w W -> Calls Tryz.prog 63 #[.slice A 24 c, .int .u64 8, .int .i64 4] W (fun e w' => e = .returned (.int .u64 (Wd.num b 8 4 : Nat)) /\ Below W.heap.size W w') := fun W h => (zJ1 KN) 8 4 (by omega) (by omega) W h
 have k12 : ∀ W, Below w.heap.size w W -> Calls Tryz.prog 63 #[.slice A 24 c, .int .u64 12, .int .i64 4] W (fun e w' => e = .returned (.int .u64 (Wd.num b 12 4 : Nat)) /\ Below W.heap.size W w') := fun W h => (zJ1 KN) 12 4 (by omega) (by omega) W h
 have k16 : ∀ W, Below w.heap.size w W -> Calls Tryz.prog 63 #[.slice A 24 c, .int .u64 16, .int .i64 8] W (fun e w' => e = .returned (.int .u64 (Wd.num b 16 8 : Nat)) /\ Below W.heap.size W w') := fun W h => (zJ1 KN) 16 8 (by omega) (by omega) W h
 obtain ⟨n0, hn0⟩ : ∃ x, Wd.num b 0 8 = x := ⟨_, rfl⟩
 obtain ⟨n8, hn8⟩ : ∃ x, Wd.num b 8 4 = x := ⟨_, rfl⟩
 obtain ⟨n12, hn12⟩ : ∃ x, Wd.num b 12 4 = x := ⟨_, rfl⟩
 obtain ⟨n16, hn16⟩ : ∃ x, Wd.num b 16 8 = x := ⟨_, rfl⟩
 rw [hn0] at k0 hx0 hrel
 rw [hn8] at k8 hx8 hrel
 rw [hn12] at k12 hx12 hrel
 rw [hn16] at k16 hx16 hrel
 simp at hx0 hx8 hx12 hx16
 have K0 := zJ2 k0
 have K8 := zJ2 k8
 have K12 := zJ2 (k12 _ (zJ1 Hb0))
 have K16 := zJ2 k16
 obtain ⟨ad, had⟩ : ∃ x : Int, IntKind.i64.wrap (n16 : Int) = x := ⟨_, rfl⟩
 have wu : IntKind.u32.wrap (n8 : Int) = (n8 : Int) := by rw [IntKind.wrap_u32]; omega
 have wn : IntKind.u64.wrap (ns : Int) = (ns : Int) := by rw [IntKind.wrap_u64]; omega
 have wi : IntKind.i64.wrap (n12 : Int) = (n12 : Int) := by rw [IntKind.wrap_i64]; omega
 have HRes : Hid (∀ W, Below w.heap.size w W -> reRowE (Dy.relOf ns b 0) w (.returned (.tuple #[.agg #[.int .u64 (n0 : Nat), .int .u32 (n8 : Nat), .int .i64 (n12 : Nat), .int .i64 ad], .bool (decide (n12 <= ns))])) W) := zJ2 (by
  intro W hW
  refine ⟨hW, ?_⟩
  rw [hrel]
  by_cases h2 : ns < n12
  ·rw [if_pos h2, decide_eq_false (by omega)]
   exact ⟨_, _, _, _, rfl⟩
  ·rw [if_neg h2, decide_eq_true (by omega)]
   dsimp only
   unfold adI
   rw [had])
 clear KN h hs hn0 hn8 hn12 hn16 k0 k8 k12 k16 hrel
 go_enter Tryz.func65, Tryz.ntmps65
 go_wp2_with fail
 refine (zJ1 K12).mono ?_
 rintro e w1 ⟨rfl, hb1⟩
 have HB1 := zJ2 ((zJ1 Hb0).trans (hb1.mono (zJ1 Hb0).size))
 have HK1 := zJ2 ((zJ1 Hk0).belowSz hb1)
 clear hb1 K12 Hb0 Hk0
 go_wp2_with fail
 refine wp_region_held_drew (S := fun w' => w'.cell? ⟨gt, 3, none⟩ = some (.slice As ns cs)) (by kernel_rfl) ((zJ1 Hsc) _ (zJ5 (zJ1 HB1))) (fun HS0 => ?_)
 refine takeD (i := 0) (d := some 8) (v := ?_) rfl rfl (by kernel_rfl) (by kernel_rfl) (by kernel_rfl) (fun _ _ _ h => h) (Or.inl ⟨by rfl, ?y0⟩) HS0 ?_
 case y0 => (intro w' hSw; (try dsimp only at hSw); go_simp; (try with_reducible rfl))
 simp only [Act.put, List.setIfInBounds_toArray, List.set_cons_zero, List.set_cons_succ]
 refine takeD (i := 2) (d := some 10) (v := ?_) rfl rfl (by kernel_rfl) (by kernel_rfl) (by kernel_rfl) (fun _ _ _ h => h) (Or.inl ⟨by rfl, ?y2⟩) HS0 ?_
 case y2 => (intro w' hSw; (try dsimp only at hSw); go_simp; (try with_reducible rfl))
 simp only [Act.put, List.setIfInBounds_toArray, List.set_cons_zero, List.set_cons_succ]
 refine takeD (i := 5) (d := some 13) (v := ?_) rfl rfl (by kernel_rfl) (by kernel_rfl) (by kernel_rfl) (fun _ _ _ h => h) (Or.inl ⟨by rfl, ?y5⟩) HS0 ?_
 case y5 => (intro w' hSw; (try dsimp only at hSw); go_simp; (try with_reducible rfl))
 simp only [Act.put, List.setIfInBounds_toArray, List.set_cons_zero, List.set_cons_succ]
 refine takeD (i := 6) (d := some 14) (v := ?_) rfl rfl (by kernel_rfl) (by kernel_rfl) (by kernel_rfl) (fun _ _ _ h => h) (Or.inl ⟨by rfl, ?y6⟩) HS0 ?_
 case y6 => (intro w' hSw; (try dsimp only at hSw); go_simp; (try with_reducible rfl))
 simp only [Act.put, List.setIfInBounds_toArray, List.set_cons_zero, List.set_cons_succ]
 refine takeD (i := 7) (d := some 15) (v := ?_) rfl rfl (by kernel_rfl) (by kernel_rfl) (by kernel_rfl) (fun _ _ _ h => h) (Or.inl ⟨by rfl, ?y7⟩) HS0 ?_
 case y7 => (intro w' hSw; (try dsimp only at hSw); go_simp; (try with_reducible rfl))
 simp only [Act.put, List.setIfInBounds_toArray, List.set_cons_zero, List.set_cons_succ]
 refine takeD (i := 11) (d := some 19) (v := ?_) rfl rfl (by kernel_rfl) (by kernel_rfl) (by kernel_rfl) (fun _ _ _ h => h) (Or.inl ⟨by rfl, ?y11⟩) HS0 ?_
 case y11 => (intro w' hSw; (try dsimp only at hSw); go_simp; (try with_reducible rfl))
 simp only [Act.put, List.setIfInBounds_toArray, List.set_cons_zero, List.set_cons_succ]
 refine takeD (i := 12) (d := some 20) (v := ?_) rfl rfl (by kernel_rfl) (by kernel_rfl) (by kernel_rfl) (fun _ _ _ h => h) (Or.inl ⟨by rfl, ?y12⟩) HS0 ?_
 case y12 => (intro w' hSw; (try dsimp only at hSw); go_simp; (try with_reducible rfl))
 simp only [Act.put, List.setIfInBounds_toArray, List.set_cons_zero, List.set_cons_succ]
 refine takeD (i := 13) (d := some 21) (v := ?_) rfl rfl (by kernel_rfl) (by kernel_rfl) (by kernel_rfl) (fun _ _ _ h => h) (Or.inl ⟨by rfl, ?y13⟩) HS0 ?_
 case y13 => (intro w' hSw; (try dsimp only at hSw); go_simp; (try with_reducible rfl))
 simp only [Act.put, List.setIfInBounds_toArray, List.set_cons_zero, List.set_cons_succ]
 refine takeD (i := 14) (d := some 22) (v := ?_) rfl rfl (by kernel_rfl) (by kernel_rfl) (by kernel_rfl) (fun _ _ _ h => h) (Or.inl ⟨by rfl, ?y14⟩) HS0 ?_
 case y14 => (intro w' hSw; (try dsimp only at hSw); go_simp; (try with_reducible rfl))
 simp only [Act.put, List.setIfInBounds_toArray, List.set_cons_zero, List.set_cons_succ]
 refine takeD (i := 15) (d := some 23) (v := ?_) rfl rfl (by kernel_rfl) (by kernel_rfl) (by kernel_rfl) (fun _ _ _ h => h) (Or.inl ⟨by rfl, ?y15⟩) HS0 ?_
 case y15 => (intro w' hSw; (try dsimp only at hSw); go_simp; (try with_reducible rfl))
 simp only [Act.put, List.setIfInBounds_toArray, List.set_cons_zero, List.set_cons_succ]
 refine takeD (i := 16) (d := some 24) (v := ?_) rfl rfl (by kernel_rfl) (by kernel_rfl) (by kernel_rfl) (fun _ _ _ h => h) (Or.inl ⟨by rfl, ?y16⟩) HS0 ?_
 case y16 => (intro w' hSw; (try dsimp only at hSw); go_simp; (try with_reducible rfl))
 simp only [Act.put, List.setIfInBounds_toArray, List.set_cons_zero, List.set_cons_succ]
 refine wpAnyH_ready (rs := [1]) (by kernel_rfl) (by simp) ?_
 refine AllReadyH.cons (i := 1) rfl (fun K hK => ?_) AllReadyH.nil
 rw [if_pos (by rfl)]
 go_simp
 go_at_call 63
 with_reducible refine ((zJ1 K0) _ (zJ5 (zJ1 HB1))).mono ?_
 rintro e w2 ⟨rfl, hb2⟩
 have HB2 := zJ2 ((zJ5 (zJ1 HB1)).trans (hb2.mono (zJ5 (zJ1 HB1)).size))
 have HK2 := zJ2 ((zJ1 HK1).drew.belowSz hb2)
 clear hb2
 refine hK.out _ _ ((zJ1 Hsc) _ (zJ1 HB2)) (fun hHeld => ?_)
 clear hK K HS0
 have HS0 := hHeld
 clear hHeld
 (try simp only [Act.put, List.setIfInBounds_toArray, List.set_cons_zero, List.set_cons_succ])
 refine wpAnyH_ready (rs := [3]) (by kernel_rfl) (by simp) ?_
 refine AllReadyH.cons (i := 3) rfl (fun K hK => ?_) AllReadyH.nil
 rw [if_pos (by rfl)]
 go_simp
 go_at_call 63
 with_reducible refine ((zJ1 K8) _ (zJ1 HB2)).mono ?_
 rintro e w3 ⟨rfl, hb3⟩
 have HB3 := zJ2 ((zJ1 HB2).trans (hb3.mono (zJ1 HB2).size))
 have HK3 := zJ2 ((zJ1 HK2).belowSz hb3)
 clear hb3
 refine hK.out _ _ ((zJ1 Hsc) _ (zJ1 HB3)) (fun hHeld => ?_)
 clear hK K HS0
 have HS0 := hHeld
 clear hHeld
 (try simp only [Act.put, List.setIfInBounds_toArray, List.set_cons_zero, List.set_cons_succ])
 refine takeD (i := 4) (d := some 12) (v := ?_) rfl rfl (by kernel_rfl) (by kernel_rfl) (by kernel_rfl) (fun _ _ _ h => h) (Or.inl ⟨by rfl, ?y4⟩) HS0 ?_
 case y4 => (intro w' hSw; (try dsimp only at hSw); go_simp; (try with_reducible rfl))
 simp only [Act.put, List.setIfInBounds_toArray, List.set_cons_zero, List.set_cons_succ]
 refine wpAnyH_ready (rs := [8]) (by kernel_rfl) (by simp) ?_
 refine AllReadyH.cons (i := 8) rfl (fun K hK => ?_) AllReadyH.nil
 rw [if_pos (by rfl)]
 go_simp
 go_at_call 63
 with_reducible refine ((zJ1 K16) _ (zJ1 HB3)).mono ?_
 rintro e w4 ⟨rfl, hb4⟩
 have HB4 := zJ2 ((zJ1 HB3).trans (hb4.mono (zJ1 HB3).size))
 have HK4 := zJ2 ((zJ1 HK3).belowSz hb4)
 clear hb4
 refine hK.out _ _ ((zJ1 Hsc) _ (zJ1 HB4)) (fun hHeld => ?_)
 clear hK K HS0
 have HS0 := hHeld
 clear hHeld
 (try simp only [Act.put, List.setIfInBounds_toArray, List.set_cons_zero, List.set_cons_succ])
 refine takeD (i := 9) (d := some 17) (v := ?_) rfl rfl (by kernel_rfl) (by kernel_rfl) (by kernel_rfl) (fun _ _ _ h => h) (Or.inl ⟨by rfl, ?y9⟩) HS0 ?_
 case y9 => (intro w' hSw; (try dsimp only at hSw); go_simp; (try with_reducible rfl))
 simp only [Act.put, List.setIfInBounds_toArray, List.set_cons_zero, List.set_cons_succ]
 refine takeD (i := 10) (d := some 18) (v := ?_) rfl rfl (by kernel_rfl) (by kernel_rfl) (by kernel_rfl) (fun _ _ _ h => h) (Or.inl ⟨by rfl, ?y10⟩) HS0 ?_
 case y10 => (intro w' hSw; (try dsimp only at hSw); go_simp; (try with_reducible rfl))
 simp only [Act.put, List.setIfInBounds_toArray, List.set_cons_zero, List.set_cons_succ]
 refine wpAnyH_ready (rs := [17]) (by kernel_rfl) (by simp) ?_
 refine AllReadyH.cons (i := 17) rfl (fun K hK => ?_) AllReadyH.nil
 rw [if_pos (by rfl)]
 refine wp_store_row 141 (.tmp 3) (.tmp 18) rfl w.heap.size #[.int .u64 (n0 : Nat), .int .u32 (n8 : Nat), .int .i64 (n12 : Nat), .int .i64 ad] rfl rfl 141 _ (zJ1 HK4) reInfo rfl (reOne _ _ _ _) ?_
 refine hK.out _ _ ((zJ1 Hsc) _ (below_setRow (zJ1 HB4) (Nat.le_refl _) _)) (fun hHeld => ?_)
 clear hK K HS0
 have HS0 := hHeld
 clear hHeld
 (try simp only [Act.put, List.setIfInBounds_toArray, List.set_cons_zero, List.set_cons_succ])
 refine takeD (i := 18) (d := some 4) (v := ?_) rfl rfl (by kernel_rfl) (by kernel_rfl) (by kernel_rfl) (fun _ _ _ h => h) (Or.inl ⟨by rfl, ?y18⟩) HS0 ?_
 case y18 => (intro w' hSw; (try dsimp only at hSw); go_simp; (try with_reducible rfl))
 simp only [Act.put, List.setIfInBounds_toArray, List.set_cons_zero, List.set_cons_succ]
 refine wpAnyH_done (by kernel_rfl) ?_ _
 go_wp2_with fail
 refine bodyPost_ret (results_cell_tmp (P := Tryz.prog) rfl _ _ w.heap.size 141 #[.int .u64 (n0 : Nat), .int .u32 (n8 : Nat), .int .i64 (n12 : Nat), .int .i64 ad] (0, 0) _ rfl (setRow_heap _ _ _ _ _ _ (zJ1 HK4)) Tryz.underlying141 rfl reInfo) rfl ?_
 exact (zJ1 HRes) _ (below_setRow (zJ1 HB4) (Nat.le_refl _) _)
theorem vJ0 {α : Type} {f g : Nat -> Option α} : ∀ (n k : Nat), (∀ j, k <= j -> j < k + n -> f j = g j) -> rowsOf f n k = rowsOf g n k
 | 0, _, _ => rfl
 | n + 1, k, h => by
  rw [rowsOf, rowsOf, h k (Nat.le_refl _) (by omega), vJ0 n (k + 1) (fun j h1 h2 => h j (by omega) (by omega))]
theorem vJh (A : Option Addr) (n c B q gt m : Nat) (b : List UInt8) (At : Option Addr) (mt ct : Nat) (t : List UInt8) (w : World) (hB : B <= w.heap.size) (hnm : n = 24 * m) (h : Rd w B 1 A n (bys (Dy.cut b q n))) (hn : n <= 4294967296) (hc : n <= c)
  (hgt : gt < w.heap.size) (ht : w.cell? ⟨gt, 0, none⟩ = some (.slice At mt ct)) (hT : Rd w B 1 At mt (bys t)) (hmt : mt <= 4294967296) (hmc : mt <= ct) :
  Calls Tryz.prog 60 #[.slice A n c, .int .i64 24, .func (.func 61) #[] #[.pointer (some ⟨gt, 0, none⟩)]] w (syRowsE (Dy.symsFrom t b m q) w) := by
 have K := sy_rows A n c B (Dy.cut b q n) gt (fun k => if k < m then Dy.symAt t b (q + k * 24) else none) w hB h hn hc (by
  intro k A2 c2 w' hk hb hr hc2
  have K2 := symOf_any A2 c2 B gt (Dy.cut (Dy.cut b q n) (k * 24) 24) At mt ct t w' (Nat.le_trans hB hb.size) hr (Nat.lt_of_lt_of_le hgt hb.size) ((World.cell?_of_block (a := ⟨gt, 0, none⟩) (hb.block gt hgt)).trans ht) (hT.below (hb.mono hB)) hmt hmc
  rw [Dy.symAt_cut (q := k * 24) (m := 24) (p := 0) (by omega), Dy.symAt_cut (q := q) (m := n) (p := k * 24 + 0) (by omega), Nat.add_zero] at K2
  show Calls _ _ _ _ (syRowE (if k < m then Dy.symAt t b (q + k * 24) else none) w')
  rw [if_pos (by omega)]
  exact K2)
 rw [show n / 24 = m from by omega] at K
 have e1 : rowsOf (fun k => if k < m then Dy.symAt t b (q + k * 24) else none) m 0 = Dy.symsFrom t b m q := by
  have := Dy.syms_rows (t := t) (b := b) (q := q) m 0
  rw [Nat.zero_mul, Nat.add_zero] at this
  rw [<- this]
  exact vJ0 m 0 (fun k h1 h2 => if_pos (by omega))
 rw [e1] at K
 exact K
theorem vJp (A : Option Addr) (n c B gt : Nat) (b : List UInt8) (As : Option Addr) (ns cs : Nat) (w : World) (hB : B <= w.heap.size) (h : Rd w B 1 A n (bys b)) (hn : n <= 4294967296) (hc : n <= c)
  (hgt : gt < w.heap.size) (hs : w.cell? ⟨gt, 3, none⟩ = some (.slice As ns cs)) (hns : ns <= 4294967296) :
  Calls Tryz.prog 64 #[.slice A n c, .int .i64 24, .func (.func 65) #[] #[.pointer (some ⟨gt, 0, none⟩)]] w (reRowsE (Dy.relsFrom ns b (n / 24) 0) w) := by
 have K := re_rows A n c B b gt (fun k => Dy.relOf ns b (k * 24)) w hB h hn hc (by
  intro k A2 c2 w' hk hb hr hc2
  have K2 := relOf_any A2 c2 B gt (Dy.cut b (k * 24) 24) As ns cs w' (Nat.le_trans hB hb.size) hr (Nat.lt_of_lt_of_le hgt hb.size) ((World.cell?_of_block (a := ⟨gt, 3, none⟩) (hb.block gt hgt)).trans hs) hns
  rw [Dy.relOf_cut] at K2
  exact K2)
 rw [Dy.rels_rows, Nat.zero_mul] at K
 exact K
theorem wJy {o : Option (List Dy.Sym)} {w w' : World} {e : Ending} (h : syRowsE o w e w') : ∃ A n c q, e = .returned (.tuple #[.slice A n c, .bool q]) /\ ((q = false /\ o = none) \/ (q = true /\ ∃ l, o = some l /\ n = l.length /\ w'.ownsRow w.heap.size 48 5 (.slice A n c) n (symC l))) /\ Below w.heap.size w w' := by
 rcases h with ⟨⟨h1, rfl⟩ | ⟨l, A, c, h1, rfl, h2⟩, hb⟩
 ·exact ⟨none, 0, 0, false, rfl, .inl ⟨rfl, h1⟩, hb⟩
 ·exact ⟨A, _, c, true, rfl, .inr ⟨rfl, l, h1, rfl, h2⟩, hb⟩
theorem vJ1 {o : Option (List Dy.Rel)} {w w' : World} {e : Ending} (h : reRowsE o w e w') : ∃ A n c q, e = .returned (.tuple #[.slice A n c, .bool q]) /\ ((q = false /\ o = none) \/ (q = true /\ ∃ l, o = some l /\ n = l.length /\ w'.ownsRow w.heap.size 141 4 (.slice A n c) n (relC l))) /\ Below w.heap.size w w' := by
 rcases h with ⟨⟨h1, rfl⟩ | ⟨l, A, c, h1, rfl, h2⟩, hb⟩
 ·exact ⟨none, 0, 0, false, rfl, .inl ⟨rfl, h1⟩, hb⟩
 ·exact ⟨A, _, c, true, rfl, .inr ⟨rfl, l, h1, rfl, h2⟩, hb⟩
structure DynM (w : World) (B : Nat) (D : Dy.Dyn) (A1 : Option Addr) (c1 : Nat) (A2 : Option Addr) (c2 : Nat) (A3 : Option Addr) (c3 : Nat) : Prop where
 needed : w.ownsRow B 9 1 (.slice A1 D.needed.length c1) D.needed.length (D.needed.map Value.string)
 syms : w.ownsRow B 48 5 (.slice A2 D.syms.length c2) D.syms.length (symC D.syms)
 relas : w.ownsRow B 141 4 (.slice A3 D.relas.length c3) D.relas.length (relC D.relas)
theorem DynM.belowSz {w w' : World} {B : Nat} {D : Dy.Dyn} {A1 A2 A3 : Option Addr} {c1 c2 c3 : Nat} (h : DynM w B D A1 c1 A2 c2 A3 c3) (hb : Below w.heap.size w w') : DynM w' B D A1 c1 A2 c2 A3 c3 := ⟨own_below h.needed hb, own_below h.syms hb, own_below h.relas hb⟩
def ParseE (p : Dy.Dyn × Int) (w : World) (e : Ending) (w' : World) : Prop := Below w.heap.size w w' /\ ∃ A1 c1 A2 c2 A3 c3, e = .returned (.tuple #[.agg #[.slice A1 p.1.needed.length c1, .string p.1.soname, .string p.1.run, .slice A2 p.1.syms.length c2, .slice A3 p.1.relas.length c3], .int .i64 p.2]) /\ DynM w' w.heap.size p.1 A1 c1 A2 c2 A3 c3
theorem zJz {w w' : World} {p : Dy.Dyn × Int} {x : Int} (hp : p = (Dy.zero, x)) (hb : Below w.heap.size w w') : ParseE p w (.returned (.tuple #[.agg #[.slice none 0 0, .string ⟨#[]⟩, .string ⟨#[]⟩, .slice none 0 0, .slice none 0 0], .int .i64 x])) w' := by
 subst hp
 exact ⟨hb, none, 0, none, 0, none, 0, rfl, World.ownsRow_nil _ _ _ _, World.ownsRow_nil _ _ _ _, World.ownsRow_nil _ _ _ _⟩
namespace Dy
def pBody (b : List UInt8) (run : Bool) (L : List (Nat × Nat)) (T : Option (Nat × Nat)) (N : Int × Names) (R : Int × List UInt8) : Dyn × Int :=
  match T with
  | none => (zero, 25)
  | some t =>
   if N.1 ≠ 0 then (zero, N.1)
   else if R.1 ≠ 0 then (zero, R.1)
   else match texts (cut b t.1 t.2) run L zero with
    | none => (zero, 25)
    | some d =>
     match symsFrom (cut b t.1 t.2) b (N.2.chain - 1) (N.2.syms + 24) with
     | none => (zero, 25)
     | some ss =>
      match relsFrom ss.length R.2 (R.2.length / 24) 0 with
      | none => (zero, 25)
      | some rs => ({ d with syms := ss, relas := rs }, 0)
theorem parse_no {b : List UInt8} {segs : List El.Sg} {x : Int} (h : open_ b segs = (x, none)) : parse b segs = (zero, x) := by
 unfold parse
 rw [h]
theorem parse_some {b : List UInt8} {segs : List El.Sg} {L : List (Nat × Nat)} (h : open_ b segs = (0, some L)) : parse b segs = pBody b (val L 29).isSome L (table b.length (El.loads segs) L 5 10) (names b (El.loads segs) L) (relaB b (El.loads segs) L) := by
 unfold parse pBody
 rw [h]
 rfl
section
variable {b : List UInt8} {run : Bool} {L : List (Nat × Nat)} {T : Option (Nat × Nat)} {t : Nat × Nat} {N : Int × Names} {R : Int × List UInt8} {d : Dyn} {ss : List Sym} {rs : List Rel}
theorem pBody_1 : pBody b run L none N R = (zero, 25) := rfl
theorem pBody_2 (h : N.1 ≠ 0) : pBody b run L (some t) N R = (zero, N.1) := by unfold pBody; dsimp only; rw [if_pos h]
theorem pBody_3 (h : N.1 = 0) (h2 : R.1 ≠ 0) : pBody b run L (some t) N R = (zero, R.1) := by unfold pBody; dsimp only; rw [if_neg (by simpa using h), if_pos h2]
theorem pBody_4 (h : N.1 = 0) (h2 : R.1 = 0) (h3 : texts (cut b t.1 t.2) run L zero = none) : pBody b run L (some t) N R = (zero, 25) := by unfold pBody; dsimp only; rw [if_neg (by simpa using h), if_neg (by simpa using h2), h3]
theorem pBody_5 (h : N.1 = 0) (h2 : R.1 = 0) (h3 : texts (cut b t.1 t.2) run L zero = some d) (h4 : symsFrom (cut b t.1 t.2) b (N.2.chain - 1) (N.2.syms + 24) = none) : pBody b run L (some t) N R = (zero, 25) := by unfold pBody; dsimp only; rw [if_neg (by simpa using h), if_neg (by simpa using h2), h3]; dsimp only; rw [h4]
theorem pBody_6 (h : N.1 = 0) (h2 : R.1 = 0) (h3 : texts (cut b t.1 t.2) run L zero = some d) (h4 : symsFrom (cut b t.1 t.2) b (N.2.chain - 1) (N.2.syms + 24) = some ss) (h5 : relsFrom ss.length R.2 (R.2.length / 24) 0 = none) : pBody b run L (some t) N R = (zero, 25) := by unfold pBody; dsimp only; rw [if_neg (by simpa using h), if_neg (by simpa using h2), h3]; dsimp only; rw [h4]; dsimp only; rw [h5]
theorem pBody_7 (h : N.1 = 0) (h2 : R.1 = 0) (h3 : texts (cut b t.1 t.2) run L zero = some d) (h4 : symsFrom (cut b t.1 t.2) b (N.2.chain - 1) (N.2.syms + 24) = some ss) (h5 : relsFrom ss.length R.2 (R.2.length / 24) 0 = some rs) : pBody b run L (some t) N R = ({ d with syms := ss, relas := rs }, 0) := by unfold pBody; dsimp only; rw [if_neg (by simpa using h), if_neg (by simpa using h2), h3]; dsimp only; rw [h4]; dsimp only; rw [h5]
end
end Dy
theorem own_len {w : World} {base n c size : Nat} {A : Option Addr} {e : TypeId} {xs : List Value} (h : w.ownsRow base e size (.slice A n c) n xs) : n <= c := by
 rcases h.2 with ⟨_, hn⟩ | ⟨q, cap, cur, hv, _, _, h1, _⟩
 ·omega
 ·injection hv with _ _ hc
  omega
theorem own_setNQ {w : World} {base n c size : Nat} {A : Option Addr} {e : TypeId} {xs : List Value} (h : w.ownsRow base e size (.slice A n c) n xs) {p : Addr} (hp : ∀ k, (Value.slice A n c).ownBlock = some k -> k ≠ p.block) (u : Value) : (w.setCell p u).ownsRow base e size (.slice A n c) n xs := by
 obtain ⟨hl, hn | ⟨g', cap, cur, hv, hb, hg, h1, h2, h3, h4⟩⟩ := h
 ·exact ⟨hl, .inl hn⟩
 ·exact ⟨hl, .inr ⟨g', cap, cur, hv, hb, (heap_setCell_other _ _ _ _ (hp g' (by rw [hv]; rfl))).trans hg, h1, h2, h3, h4⟩⟩
theorem zJs {w : World} {base n c size k : Nat} {A : Option Addr} {e : TypeId} {xs : List Value} (h : w.ownsRow base e size (.slice A n c) n xs) (hk : k < base) (cs : Array Value) : (w.setRow k cs).ownsRow base e size (.slice A n c) n xs := by
 obtain ⟨hl, hn | ⟨g', cap, cur, hv, hb, hg, h1, h2, h3, h4⟩⟩ := h
 ·exact ⟨hl, .inl hn⟩
 ·exact ⟨hl, .inr ⟨g', cap, cur, hv, hb, (setRow_other _ _ _ _ (by omega)).trans hg, h1, h2, h3, h4⟩⟩
namespace Dy
theorem xJb {b : List UInt8} : ∀ {k p : Nat} {l : List (Nat × Nat)}, ents b k p = some l -> l.length <= k
 | 0, _, _, h => by cases h
 | k + 1, p, l, h => by
  unfold ents at h
  split at h
  ·injection h with h
   subst h
   exact Nat.zero_le _
  ·cases hr : ents b k (p + 16) with
   | none => rw [hr] at h; cases h
   | some r =>
    rw [hr] at h
    injection h with h
    subst h
    have := xJb hr
    simpa using this
theorem open_len {b : List UInt8} {segs : List El.Sg} {L : List (Nat × Nat)} (h : open_ b segs = (0, some L)) : L.length <= b.length := by
 cases hf : segs.find? (fun s => s.kind == 2) with
 | none => rw [open_none hf] at h; injection h with _ h; cases h
 | some s =>
  rw [open_some hf] at h
  split at h
  ·injection h with _ h; cases h
  ·rename_i hs
   have hs2 : ¬ b.length < s.off + s.fsz := fun h => hs (.inr h)
   cases he : ents b (s.fsz / 16) s.off with
   | none => rw [he] at h; injection h with _ h; cases h
   | some L2 =>
    rw [he] at h
    have h2 := xJb he
    have : L2 = L := by
     dsimp only at h
     split at h
     ·injection h with _ h; injection h
     ·injection h with _ h; cases h
    subst this
    omega
theorem table_le {n : Nat} {l : List El.Sg} {L : List (Nat × Nat)} {a s : Nat} {t : Nat × Nat} (h : table n l L a s = some t) : t.2 <= n := by
 unfold table at h
 split at h
 ·injection h with h; subst h; exact Nat.zero_le _
 ·rename_i v hv
  cases hl : laid n l v ((val L s).getD 0) with
  | none => rw [hl] at h; cases h
  | some o =>
   rw [hl] at h
   injection h with h
   subst h
   have := (laid_in hl).1
   dsimp only
   omega
theorem relaB_len {b : List UInt8} {l : List El.Sg} {L : List (Nat × Nat)} : (relaB b l L).2.length <= 1536 := by
 unfold relaB
 split
 ·exact Nat.zero_le _
 ·split
  ·exact Nat.zero_le _
  ·rename_i h1 h2
   cases ha : table b.length l L 7 8 with
   | none => exact Nat.zero_le _
   | some x =>
    cases hb : table b.length l L 23 2 with
    | none => exact Nat.zero_le _
    | some y =>
     dsimp only
     have e1 := wJ2 (p := x.1) (k := x.2) ha
     have e2 := wJ2 (p := y.1) (k := y.2) hb
     rw [List.length_append]
     unfold cut
     rw [List.length_take, List.length_take]
     omega
theorem symsFrom_len {t b : List UInt8} : ∀ {n p : Nat} {l : List Sym}, symsFrom t b n p = some l -> l.length = n
 | 0, _, _, h => by unfold symsFrom at h; injection h with h; subst h; rfl
 | n + 1, p, l, h => by
  unfold symsFrom at h
  cases hs : symAt t b p with
  | none => rw [hs] at h; cases h
  | some s =>
   rw [hs] at h
   cases hr : symsFrom t b n (p + 24) with
   | none => rw [hr] at h; cases h
   | some r =>
    rw [hr] at h
    injection h with h
    subst h
    have := symsFrom_len hr
    simpa using this
end Dy
theorem parse_good {w w' : World} {p : Dy.Dyn × Int} {D : Dy.Dyn} {ss : List Dy.Sym} {rs : List Dy.Rel} {A7 A9 A11 : Option Addr} {n7 c7 n9 c9 n11 c11 : Nat} (hp : p = ({ D with syms := ss, relas := rs }, 0)) (hb : Below w.heap.size w w') (h7 : D.needed.length = n7) (h9 : n9 = ss.length) (h11 : n11 = rs.length)
  (o7 : w'.ownsRow w.heap.size 9 1 (.slice A7 n7 c7) n7 (D.needed.map Value.string)) (o9 : w'.ownsRow w.heap.size 48 5 (.slice A9 n9 c9) n9 (symC ss)) (o11 : w'.ownsRow w.heap.size 141 4 (.slice A11 n11 c11) n11 (relC rs)) :
  ParseE p w (.returned (.tuple #[.agg #[.slice A7 n7 c7, .string D.soname, .string D.run, .slice A9 n9 c9, .slice A11 n11 c11], .int .i64 0])) w' := by
 subst hp h7 h9 h11
 exact ⟨hb, A7, c7, A9, c9, A11, c11, rfl, o7, o9, o11⟩
theorem zJj : (Tryz.prog.info? 29).map (·.size) = some 5 := by kernel_rfl
theorem wJk (A1 A2 A3 : Option Addr) (n1 c1 n2 c2 n3 c3 : Nat) (s1 s2 : ByteArray) : (#[.slice A1 n1 c1, .string s1, .string s2, .slice A2 n2 c2, .slice A3 n3 c3] : Array Value).all (·.oneCell') = true := by simp [Value.oneCell']
open Go.RowKit
def El.firstK (l : List El.Sg) (q : Nat) : Option El.Sg := l.find? fun s => s.kind == q
def El.zeroSg : El.Sg := ⟨0, 0, 0, 0, 0, 0⟩
def FirstEnd (l : List El.Sg) (q : Nat) (w : World) (e : Ending) (w' : World) : Prop :=
 e = .returned (.tuple #[segVal ((El.firstK l q).getD El.zeroSg), .bool (El.firstK l q).isSome]) /\ Below w.heap.size w w'
theorem first_yes {l : List El.Sg} {q : Nat} {w w' : World} {k fl o a f z : Nat} (h : El.firstK l q = some ⟨k, fl, o, a, f, z⟩) (hb : Below w.heap.size w w') :
  FirstEnd l q w (.returned (.tuple #[.agg #[.int .u32 k, .int .u8 fl, .int .u64 o, .int .u64 a, .int .u64 f, .int .u64 z], .bool true])) w' := by
 unfold FirstEnd
 rw [h]
 exact ⟨rfl, hb⟩
theorem first_no {l : List El.Sg} {q : Nat} {w w' : World} (h : El.firstK l q = none) (hb : Below w.heap.size w w') :
  FirstEnd l q w (.returned (.tuple #[.agg #[.int .u32 0, .int .u8 0, .int .u64 0, .int .u64 0, .int .u64 0, .int .u64 0], .bool false])) w' := by
 unfold FirstEnd
 rw [h]
 exact ⟨rfl, hb⟩
set_option maxHeartbeats 2000000 in
theorem first_any (A : Option Addr) (n c B : Nat) (l : List El.Sg) (ty en ph : Int) (q : Nat) (w : World) (hB : B <= w.heap.size) (hl : Rd w B 6 A n (segCells l)) (hn : n <= 4294967296) :
  Calls Tryz.prog 52 #[.agg #[.int .u16 ty, .int .u64 en, .int .u64 ph, .slice A n c], .int .u32 q] w (FirstEnd l q w) := by
 have hln : l.length = n := by have := hl.1; rw [yJ4] at this; omega
 have Hl := zJ2 hl
 have Hln := zJ2 hln
 clear hl hln
 go_enter Tryz.func52, Tryz.ntmps52
 go_wp2
 go_loopw [11] (fun i wr => ∃ k : Nat, k <= n /\ i = .int .i64 k /\ (l.take k).find? (fun s => s.kind == q) = none /\ Below w.heap.size w wr /\ wr.heap[w.heap.size + 1]? = some (.cells #[.int .u32 0, .int .u8 0, .int .u64 0, .int .u64 0, .int .u64 0, .int .u64 0] 58 (0, 0))) (fun i _ => n - (intOf i).toNat)
 case atStart => exact ⟨0, Nat.zero_le _, rfl, rfl, ((Below.refl _ _).alloc (Nat.le_refl _) _).alloc (by simp) _, heap_alloc2_new _ _ _⟩
 case round =>
  obtain ⟨k, hk, rfl, hno, hbl, hx⟩ := hrel
  have hsz := hbl.size
  have hsz1 := lt_of_block hx
  have Hno := zJ2 hno
  have Hbl := zJ2 hbl
  have Hx := zJ2 hx
  clear hno hbl hx
  by_cases hlt : k < n
  ·obtain ⟨s, hs⟩ : ∃ s, l[k]? = some s := ⟨_, List.getElem?_eq_getElem (by rw [zJ1 Hln]; exact hlt)⟩
   obtain ⟨b1, o1, rfl, hbb, c0, c1, c2, c3, c4, c5⟩ := wJz ((zJ1 Hl).below ((zJ1 Hbl).mono hB)) hs
   obtain ⟨sk, sfl, so, sa, sf, sm⟩ := s
   simp only at c0 c1 c2 c3 c4 c5
   by_cases he : sk = q
   ·have hh : El.firstK l q = some ⟨sk, sfl, so, sa, sf, sm⟩ := find_hit (zJ1 Hno) hs (by simp [he])
    have he' : (((sk : Nat) : Int) == ((q : Nat) : Int)) = true := by simp; omega
    have Hh := zJ2 hh
    clear hh hs he
    go_wp2_with ((with_reducible refine (@id (wpList _ _ _ (Oper.mk none (Op.store 58 (.tmp 4) (.tmp 19)) _ _ _ none :: _) _ _) ?_)); refine wpList_store_row rfl 58 (.tmp 4) (.tmp 19) rfl (w.heap.size + 1) #[.int .u32 sk, .int .u8 sfl, .int .u64 so, .int .u64 sa, .int .u64 sf, .int .u64 sm] rfl rfl 58 _ ((Below.heap_alloc _ _ _ hsz1).trans (zJ1 Hx)) yJy rfl (vJj _ _ _ _ _ _) ?_)
    refine bodyPost_ret (results_cell_tmp (P := Tryz.prog) rfl _ _ (w.heap.size + 1) 58 #[.int .u32 sk, .int .u8 sfl, .int .u64 so, .int .u64 sa, .int .u64 sf, .int .u64 sm] (0, 0) _ rfl (setRow_heap _ _ _ _ _ _ ((Below.heap_alloc _ _ _ hsz1).trans (zJ1 Hx))) Tryz.underlying58 rfl yJy) rfl ?_
    exact first_yes (zJ1 Hh) (below_setRow ((zJ1 Hbl).alloc hsz _) (by omega) _)
   ·have he' : (((sk : Nat) : Int) == ((q : Nat) : Int)) = false := by simp; omega
    have hno2 := yJz (zJ1 Hno) hs (by simp [he])
    have Hno2 := zJ2 hno2
    clear hno2 hs he
    go_wp2
    go_roundw
    case rel => exact ⟨k + 1, by omega, by go_num, zJ1 Hno2, (zJ1 Hbl).alloc hsz _, (Below.heap_alloc _ _ _ hsz1).trans (zJ1 Hx)⟩
    case measure => simp [intOf]; omega
  ·have hno2 : El.firstK l q = none := by
    have := zJ1 Hno
    rwa [List.take_of_length_le (by have := zJ1 Hln; omega)] at this
   have Hno2 := zJ2 hno2
   clear hno2
   go_wp2_with ((with_reducible refine (@id (wpList _ _ _ (Oper.mk none (Op.store 58 (.tmp 4) (.tmp 21)) _ _ _ none :: _) _ _) ?_)); refine wpList_store_row rfl 58 (.tmp 4) (.tmp 21) rfl (w.heap.size + 1) #[.int .u32 0, .int .u8 0, .int .u64 0, .int .u64 0, .int .u64 0, .int .u64 0] rfl rfl 58 _ (zJ1 Hx) yJy rfl (vJj _ _ _ _ _ _) ?_)
   refine bodyPost_ret (results_cell_tmp (P := Tryz.prog) rfl _ _ (w.heap.size + 1) 58 #[.int .u32 0, .int .u8 0, .int .u64 0, .int .u64 0, .int .u64 0, .int .u64 0] (0, 0) _ rfl (setRow_heap _ _ _ _ _ _ (zJ1 Hx)) Tryz.underlying58 rfl yJy) rfl ?_
   exact first_no (zJ1 Hno2) (below_setRow (zJ1 Hbl) (by omega) _)
theorem conv_rd {P : Program} {w : World} {B n c : Nat} {b1 o1 : Nat} {l : List UInt8} {src dst e : TypeId} (h : Rd w B 1 (some ⟨b1, o1, none⟩) n (bys l)) (hs : P.underlying src = some (.slice e)) (he : P.underlying e = some (.int .u8)) (hd : P.underlying dst = some .string) :
  (convert src dst (.slice (some ⟨b1, o1, none⟩) n c)).run P w = .ok (.string ⟨l.toArray⟩) w := by
 have hl : l.length = n := by simpa [bys] using h.len1
 subst hl
 refine run_convert_bytes_back w src dst e ⟨b1, o1, none⟩ c l hs he hd fun j hj => ?_
 obtain ⟨b, o, e1, _, hc⟩ := h.at_ (k := j) (u := .int .u8 (l[j].toNat : Nat)) (uJ4 (List.getElem?_eq_getElem hj))
 obtain ⟨rfl, rfl⟩ : b1 = b /\ o1 = o := by injection e1 with e; injection e with h1 h2 h3; exact ⟨h1, h2⟩
 rw [Addr.add_lit]
 exact hc
theorem xJx (l : List UInt8) (k : Nat) (hk : l.length = k + 1) : Lib.hasSuffix l [0] = (l[k]? == some 0) := by
 rw [<- Lib.hasSuffix_of_drop, hk]
 have e : l.drop (k + 1 - [(0 : UInt8)].length) = [l[k]'(by omega)] := by
  show l.drop k = _
  rw [List.drop_eq_getElem_cons (by omega), List.drop_eq_nil_of_le (by omega)]
 rw [e, List.getElem?_eq_getElem (by omega)]
 simp
theorem cutZero_yes (b1 o1 n1 n c d : Nat) (l : List UInt8) (B p2 : Nat) (w : World) (hn1 : n1 = n + 1) (hr : Rd w B 1 (some ⟨b1, o1, none⟩) n1 (bys l)) (hz : Rd w B 1 (some ⟨p2, 0, none⟩) 1 (bys [0])) (hnc : n1 <= c) (hn : n <= 4294967296) (h : l[n]? = some 0) :
  Calls Tryz.prog 53 #[.slice (some ⟨b1, o1, none⟩) n1 c, .slice (some ⟨p2, 0, none⟩) 1 d] w fun e w' => e = .returned (.tuple #[.slice (some ⟨b1, o1, none⟩) n c, .bool true]) /\ w = w' := by
 subst hn1
 have hl : l.length = n + 1 := by simpa [bys] using hr.len1
 have hc := Tryz.bytes_CutSuffix_all (some ⟨b1, o1, none⟩) (some ⟨p2, 0, none⟩) (n + 1) c 1 d (l.map fun c => ((c.toNat : Nat) : Int)) ([0].map fun c : UInt8 => ((c.toNat : Nat) : Int)) w (by simpa using hl) rfl hnc (by omega) (yJi hr) (yJi hz)
 have hs : Lib.hasSuffix l [0] = true := by rw [xJx l n hl, h]; rfl
 have ht : Lib.trimSuffixV (some ⟨b1, o1, none⟩) (n + 1) c (l.map fun c => ((c.toNat : Nat) : Int)) ([0].map fun c : UInt8 => ((c.toNat : Nat) : Int)) = .slice (some ⟨b1, o1, none⟩) n c := by
  show Lib.bytesTrimSuffix b1 o1 (n + 1) c _ _ = _
  unfold Lib.bytesTrimSuffix
  rw [bytesOf_map, bytesOf_map, hs]
  rfl
 rw [bytesOf_map, bytesOf_map, hs, ht] at hc
 exact hc.mono fun e w' ⟨a, b⟩ => ⟨a, b.symm⟩
theorem cutZero_no (b1 o1 n1 n c d : Nat) (l : List UInt8) (B p2 : Nat) (w : World) (hn1 : n1 = n + 1) (hr : Rd w B 1 (some ⟨b1, o1, none⟩) n1 (bys l)) (hz : Rd w B 1 (some ⟨p2, 0, none⟩) 1 (bys [0])) (hnc : n1 <= c) (hn : n <= 4294967296) (h : ¬ l[n]? = some 0) :
  Calls Tryz.prog 53 #[.slice (some ⟨b1, o1, none⟩) n1 c, .slice (some ⟨p2, 0, none⟩) 1 d] w fun e w' => e = .returned (.tuple #[.slice (some ⟨b1, o1, none⟩) n1 c, .bool false]) /\ w = w' := by
 subst hn1
 have hl : l.length = n + 1 := by simpa [bys] using hr.len1
 have hc := Tryz.bytes_CutSuffix_all (some ⟨b1, o1, none⟩) (some ⟨p2, 0, none⟩) (n + 1) c 1 d (l.map fun c => ((c.toNat : Nat) : Int)) ([0].map fun c : UInt8 => ((c.toNat : Nat) : Int)) w (by simpa using hl) rfl hnc (by omega) (yJi hr) (yJi hz)
 have hs : Lib.hasSuffix l [0] = false := by rw [xJx l n hl]; simpa using h
 have ht : Lib.trimSuffixV (some ⟨b1, o1, none⟩) (n + 1) c (l.map fun c => ((c.toNat : Nat) : Int)) ([0].map fun c : UInt8 => ((c.toNat : Nat) : Int)) = .slice (some ⟨b1, o1, none⟩) (n + 1) c := by
  show Lib.bytesTrimSuffix b1 o1 (n + 1) c _ _ = _
  unfold Lib.bytesTrimSuffix
  rw [bytesOf_map, bytesOf_map, hs]
  rfl
 rw [bytesOf_map, bytesOf_map, hs, ht] at hc
 exact hc.mono fun e w' ⟨a, b⟩ => ⟨a, b.symm⟩
def El.interpS (b : List UInt8) (s : El.Sg) : ByteArray × Bool × Int :=
 if s.fsz = 0 \/ b.length < s.off + s.fsz then (⟨#[]⟩, false, 25)
 else if ((b.drop s.off).take s.fsz)[s.fsz - 1]? = some 0 /\ Pth.chk ⟨((b.drop s.off).take (s.fsz - 1)).toArray⟩ = 0 then (⟨((b.drop s.off).take (s.fsz - 1)).toArray⟩, true, 0) else (⟨#[]⟩, false, 25)
def El.interpOf (b : List UInt8) (l : List El.Sg) : ByteArray × Bool × Int :=
 match El.firstK l 3 with
 | some s => El.interpS b s
 | none => (⟨#[]⟩, false, 0)
def InterpEnd (b : List UInt8) (l : List El.Sg) (w : World) (e : Ending) (w' : World) : Prop :=
 e = .returned (.tuple #[.string (El.interpOf b l).1, .bool (El.interpOf b l).2.1, .int .i64 (El.interpOf b l).2.2]) /\ Below w.heap.size w w'
theorem yJh {b : List UInt8} {l : List El.Sg} {w w' : World} {s : ByteArray} {q : Bool} {x : Int} (h : El.interpOf b l = (s, q, x)) (hb : Below w.heap.size w w') : InterpEnd b l w (.returned (.tuple #[.string s, .bool q, .int .i64 x])) w' := by
 unfold InterpEnd
 rw [h]
 exact ⟨rfl, hb⟩
set_option maxHeartbeats 4000000 in
theorem interp_any (Ab : Option Addr) (m cb : Nat) (b : List UInt8) (A : Option Addr) (n c B : Nat) (l : List El.Sg) (ty en ph : Int) (w : World) (hB : B <= w.heap.size) (hb : Rd w B 1 Ab m (bys b)) (hl : Rd w B 6 A n (segCells l)) (hm : m <= 4294967296) (hmc : m <= cb) (hn : n <= 4294967296) (hf : ∀ x ∈ l, SgFit x) :
  Calls Tryz.prog 16 #[.slice Ab m cb, .agg #[.int .u16 ty, .int .u64 en, .int .u64 ph, .slice A n c]] w (InterpEnd b l w) := by
 have hbl : b.length = m := by simpa [bys] using hb.len1
 have hfst := fun (w' : World) (hx : Below w.heap.size w w') => first_any A n c B l ty en ph 3 w' (Nat.le_trans hB hx.size) (hl.below (hx.mono hB)) hn
 unfold FirstEnd at hfst
 have hio : El.interpOf b l = match El.firstK l 3 with
  | some s => El.interpS b s
  | none => (⟨#[]⟩, false, 0) := rfl
 have hmem : ∀ s, El.firstK l 3 = some s -> SgFit s := fun s hs => hf s (List.mem_of_find?_eq_some hs)
 cases hfk : El.firstK l 3 with
 | none =>
  rw [hfk] at hio
  simp only [hfk, Option.getD_none, Option.isSome_none, segVal, El.zeroSg] at hfst
  have Hfst := zJ2 hfst
  have Hio := zJ2 hio
  clear hfst hio hfk hmem hl hb hf hbl
  go_enter Tryz.func16, Tryz.ntmps16
  go_wp2_with (go_at_call 52; refine ((zJ1 Hfst) _ ((Below.refl _ _).alloc (Nat.le_refl _) _)).mono ?_; rintro e w1 ⟨rfl, hb1⟩; have hb2 := zJd hb1; have hsz := hb2.size; have Hb2 := zJ2 hb2; clear hb1 hb2)
  go_ret3
  exact yJh (zJ1 Hio) ((zJ1 Hb2).alloc hsz _)
 | some s =>
  rw [hfk] at hio
  obtain ⟨i1, i2, i3, i4, i5, i6⟩ := hmem s hfk
  simp only [hfk, Option.getD_some, Option.isSome_some, segVal] at hfst
  obtain ⟨sk, sfl, so, sa, sf, sm⟩ := s
  simp only at i1 i2 i3 i4 i5 i6 hfst hio
  have Hfst := zJ2 hfst
  clear hfst hfk hmem hl hf
  by_cases h1 : sf = 0
  ·have hfin : El.interpOf b l = (⟨#[]⟩, false, 25) := by rw [hio]; simp [El.interpS, h1]
   have Hfin := zJ2 hfin
   have q1 : (((sf : Nat) : Int) == 0) = true := beq_iff_eq.2 (by omega)
   clear hio hfin hb hbl h1
   go_enter Tryz.func16, Tryz.ntmps16
   go_wp2_with (go_at_call 52; refine ((zJ1 Hfst) _ ((Below.refl _ _).alloc (Nat.le_refl _) _)).mono ?_; rintro e w1 ⟨rfl, hb1⟩; have hb2 := zJd hb1; have hsz := hb2.size; have Hb2 := zJ2 hb2; clear hb1 hb2)
   go_ret3
   exact yJh (zJ1 Hfin) ((zJ1 Hb2).alloc hsz _)
  have q1 : (((sf : Nat) : Int) == 0) = false := beq_eq_false_iff_ne.2 (by omega)
  by_cases h2 : so + sf <= m
  case neg =>
   have hfin : El.interpOf b l = (⟨#[]⟩, false, 25) := by rw [hio]; unfold El.interpS; rw [if_pos (.inr (by simp only; omega))]
   have Hfin := zJ2 hfin
   have q2 : decide (((so : Nat) : Int) + ((sf : Nat) : Int) <= ((m : Nat) : Int)) = false := by simp; omega
   clear hio hfin hb hbl h2
   go_enter Tryz.func16, Tryz.ntmps16
   go_wp2_with (first
    | (go_at_call 52; refine ((zJ1 Hfst) _ ((Below.refl _ _).alloc (Nat.le_refl _) _)).mono ?_; rintro e w1 ⟨rfl, hb1⟩; have hb2 := zJd hb1; have hsz := hb2.size; have Hb2 := zJ2 hb2; clear hb1 hb2)
    | (go_at_call 46; refine (zJk _ _ _ _ (by omega) (by omega) (by omega) (by omega) (by omega)).mono ?_; rintro e w1 ⟨rfl, rfl⟩))
   go_ret3
   exact yJh (zJ1 Hfin) ((zJ1 Hb2).alloc hsz _)
  have q2 : decide (((so : Nat) : Int) + ((sf : Nat) : Int) <= ((m : Nat) : Int)) = true := by simp; omega
  obtain ⟨k, hk⟩ : ∃ k, sf = k + 1 := ⟨sf - 1, by omega⟩
  have hk1 : k < sf := by omega
  have hio2 : El.interpOf b l = if ((b.drop so).take sf)[k]? = some 0 /\ Pth.chk ⟨((b.drop so).take k).toArray⟩ = 0 then (⟨((b.drop so).take k).toArray⟩, true, 0) else (⟨#[]⟩, false, 25) := by
   rw [hio]; unfold El.interpS; rw [if_neg (by simp only; omega)]; simp only [hk, Nat.add_sub_cancel]
  obtain ⟨b1, o1, rfl, hb1, _⟩ := hb.open_ (by intro e; have := hb.len1; rw [e] at this; simp at this; omega)
  have hsub := hb.sub (off := so) (k := sf) h2
  have hsub2 := hb.sub (off := so) (k := k) (by omega)
  have e1 : ((bys b).drop so).take sf = bys ((b.drop so).take sf) := by simp [bys]
  have e2 : ((bys b).drop so).take k = bys ((b.drop so).take k) := by simp [bys]
  rw [e1] at hsub
  rw [e2] at hsub2
  have hts : (⟨((b.drop so).take k).toArray⟩ : ByteArray).size = k := by
   have := hsub2.len1
   rw [bys_len] at this
   simpa [ByteArray.size] using this
  have hbs : b1 < w.heap.size := by omega
  generalize (b.drop so).take sf = lx at *
  generalize (b.drop so).take k = ly at *
  have Hio := zJ2 hio2
  have Hk := zJ2 hk
  have Hsub := zJ2 hsub
  have Hsub2 := zJ2 hsub2
  clear hio hio2 hk hsub hsub2 e1 e2 hb hbl
  generalize ht : (⟨ly.toArray⟩ : ByteArray) = t at *
  have Ht := zJ2 ht
  clear ht
  go_enter Tryz.func16, Tryz.ntmps16
  go_wp2_with (first
   | (go_at_call 52; refine ((zJ1 Hfst) _ ((Below.refl _ _).alloc (Nat.le_refl _) _)).mono ?_; rintro e w1 ⟨rfl, hb1⟩; have hb2 := zJd hb1; have hsz := hb2.size; have Hb2 := zJ2 hb2; clear hb1 hb2)
   | (go_at_call 46; refine (zJk _ _ _ _ (by omega) (by omega) (by omega) (by omega) (by omega)).mono ?_; rintro e w1 ⟨rfl, rfl⟩))
  obtain ⟨WB, hWB⟩ : ∃ WB, WB = (w1.alloc (.cells #[.int .u32 sk, .int .u8 sfl, .int .u64 so, .int .u64 sa, .int .u64 sf, .int .u64 sm] 58)).alloc (.cells #[.int .u8 0] 5) := ⟨_, rfl⟩
  have hbw : Below w.heap.size w WB := by rw [hWB]; exact ((zJ1 Hb2).alloc hsz _).alloc (by simp; omega) _
  have hszW : WB.heap.size = w1.heap.size + 2 := by rw [hWB]; simp
  have hz : Rd WB (w1.heap.size + 2) 1 (some ⟨w1.heap.size + 1, 0, none⟩) 1 (bys [0]) := by
   rw [hWB]
   have := Rd.row (w := w1.alloc (.cells #[.int .u32 sk, .int .u8 sfl, .int .u64 so, .int .u64 sa, .int .u64 sf, .int .u64 sm] 58)) (cs := #[.int .u8 0]) (e := 5) (size := 1) rfl
   simp only [World.size_alloc] at this
   exact this
  have hr := ((zJ1 Hsub).below (hbw.mono hB)).more (B' := w1.heap.size + 2) (by omega)
  have hr2 := (zJ1 Hsub2).below (hbw.mono hB)
  have hcv := conv_rd (P := Tryz.prog) (c := cb - so) hr2 Tryz.underlying24 Tryz.underlying5 Tryz.underlying9
  rw [zJ1 Ht] at hcv
  rw [<- hWB]
  have hs1 := hbw.size
  have Hbw := zJ2 hbw
  have Hz := zJ2 hz
  have Hr := zJ2 hr
  have Hr2 := zJ2 hr2
  clear hWB hbw hz hr hr2 Hsub Hsub2 Hb2
  by_cases h3 : lx[k]? = some 0
  case neg =>
   have hfin : El.interpOf b l = (⟨#[]⟩, false, 25) := by rw [zJ1 Hio, if_neg (fun h => h3 h.1)]
   have Hfin := zJ2 hfin
   have hc := cutZero_no b1 (o1 + so) sf k (cb - so) 1 lx (w1.heap.size + 2) (w1.heap.size + 1) WB (zJ1 Hk) (zJ1 Hr) (zJ1 Hz) (by omega) (by omega) h3
   have Hc := zJ2 hc
   clear hfin hc h3
   refine (zJ1 Hc).mono ?_
   rintro e w2 ⟨rfl, rfl⟩
   go_wp2_with fail
   go_ret3
   exact yJh (zJ1 Hfin) (zJ1 Hbw)
  have hc := cutZero_yes b1 (o1 + so) sf k (cb - so) 1 lx (w1.heap.size + 2) (w1.heap.size + 1) WB (zJ1 Hk) (zJ1 Hr) (zJ1 Hz) (by omega) (by omega) h3
  refine hc.mono ?_
  rintro e w2 ⟨rfl, rfl⟩
  have hck := fun (w' : World) => check_any t (by unfold maxLen; omega) w'
  have Hck := zJ2 hck
  clear hc hck
  by_cases h4 : Pth.chk t = 0
  case neg =>
   have hfin : El.interpOf b l = (⟨#[]⟩, false, 25) := by rw [zJ1 Hio, if_neg (fun h => h4 h.2)]
   have Hfin := zJ2 hfin
   have q4 : (Pth.chk t != 0) = true := by simpa using h4
   clear hfin h3 h4
   go_wp2_with (go_at_call 54; refine ((zJ1 Hck) _).mono ?_; rintro e w3 ⟨rfl, hb3⟩; have Hb3 := zJ2 hb3; clear hb3)
   go_ret3
   exact yJh (zJ1 Hfin) ((zJ1 Hbw).trans ((zJ1 Hb3).mono hs1))
  have hfin : El.interpOf b l = (t, true, 0) := by rw [zJ1 Hio, if_pos ⟨h3, h4⟩]
  have Hfin := zJ2 hfin
  rw [h4] at Hck
  clear hfin h3 h4
  go_wp2_with (go_at_call 54; refine ((zJ1 Hck) _).mono ?_; rintro e w3 ⟨rfl, hb3⟩; have hcv3 := conv_rd (P := Tryz.prog) (c := cb - so) ((zJ1 Hr2).below (hb3.mono (by omega))) Tryz.underlying24 Tryz.underlying5 Tryz.underlying9; rw [zJ1 Ht] at hcv3; have Hb3 := zJ2 hb3; clear hb3)
  go_ret3
  exact yJh (zJ1 Hfin) ((zJ1 Hbw).trans ((zJ1 Hb3).mono hs1))
end Go.Proofs.YtnbecdahfgkffaaGreat
namespace Go.Proofs.YtnbecdahfgkffaaGreat
theorem Mk.size_list (s : ByteArray) : s.data.toList.length = s.size := by rw [Array.length_toList]; rfl
theorem Mk.interp_file {x : Mk.Spec} (h : Mk.Made x) : El.interpOf (Mk.file x) (Mk.segs x) = (x.interp, Mk.isInterp x, 0) := by
 unfold El.interpOf El.firstK
 rw [Mk.find_interp]
 by_cases hi : Mk.isInterp x = true
 ·rw [if_pos hi]
  have hat := Mk.interp_at hi
  have hlen := hat.1
  have hcut := hat.cut
  have hcut2 := hat.left.cut
  have hne : x.interp.size ≠ 0 := by unfold Mk.isInterp at hi; exact of_decide_eq_true hi
  rw [List.length_append, Mk.size_list] at hlen hcut
  rw [Mk.size_list] at hcut2
  unfold Dy.cut at hcut hcut2
  simp only [List.length_cons, List.length_nil, Nat.zero_add] at hlen hcut
  show El.interpS (Mk.file x) ⟨3, 4, (Mk.pad 8 (Mk.front0 x)).length, Mk.base x + (Mk.pad 8 (Mk.front0 x)).length, x.interp.size + 1, x.interp.size + 1⟩ = _
  unfold El.interpS
  dsimp only
  have c1 : (x.interp.data.toList ++ [0])[x.interp.size]? = some 0 := by
   rw [List.getElem?_append_right (by rw [Mk.size_list]; exact Nat.le_refl _), Mk.size_list, Nat.sub_self]
   rfl
  have c2 : Pth.chk ⟨x.interp.data.toList.toArray⟩ = 0 := by
   rw [Array.toArray_toList]
   exact h.ok.interp hne
  rw [if_neg (by omega), Nat.add_sub_cancel, hcut, hcut2, if_pos ⟨c1, c2⟩, hi]
 ·rw [if_neg hi]
  have hz : x.interp.size = 0 := by
   unfold Mk.isInterp at hi
   rw [decide_eq_true_eq] at hi
   omega
  have he : x.interp = ⟨#[]⟩ := by
   apply ByteArray.ext
   exact Array.eq_empty_of_size_eq_zero hz
  have hf : Mk.isInterp x = false := by simpa using hi
  show ((⟨#[]⟩ : ByteArray), false, (0 : Int)) = _
  rw [hf, he]
theorem Mk.adI_word {a : Int} (h : -9223372036854775808 <= a /\ a <= 9223372036854775807) : adI (Mk.word a) = a := by
 unfold adI Mk.word
 rw [IntKind.wrap_i64]
 omega
theorem Mk.relC_toRel : ∀ (l : List Mk.Rel), (∀ r ∈ l, 0 <= r.sym) -> (∀ r ∈ l, -9223372036854775808 <= r.add /\ r.add <= 9223372036854775807) -> relC (l.map Mk.toRel) = mrC l := by
 intro l
 induction l with
 | nil => intro _ _; rfl
 | cons r t ih =>
  intro h1 h2
  unfold relC mrC
  rw [List.map_cons, List.flatMap_cons, List.flatMap_cons]
  have h3 := ih (fun y hy => h1 y (List.mem_cons_of_mem _ hy)) (fun y hy => h2 y (List.mem_cons_of_mem _ hy))
  unfold relC mrC at h3
  rw [h3]
  congr 1
  unfold relV mrV Mk.toRel
  dsimp only
  rw [Mk.adI_word (h2 r List.mem_cons_self), Int.toNat_of_nonneg (h1 r List.mem_cons_self)]
theorem Mk.dq_of {x : Mk.Spec} (h : Mk.Made x) (had : ∀ r ∈ x.dyn.relas, -9223372036854775808 <= r.add /\ r.add <= 9223372036854775807) {w : World} {B : Nat} {A1 A2 A3 : Option Addr} {c1 c2 c3 : Nat} (hd : DynM w B (Mk.toDyn x.dyn) A1 c1 A2 c2 A3 c3) : DqM w w.heap.size ⟨x.dyn, A1, c1, A2, c2, A3, c3⟩ := by
 refine ⟨Rd.of_own hd.needed, Rd.of_own hd.syms, ?_⟩
 have h3 := Rd.of_own hd.relas
 have e : (Mk.toDyn x.dyn).relas.length = x.dyn.relas.length := by unfold Mk.toDyn; rw [List.length_map]
 rw [e] at h3
 have e2 : relC (Mk.toDyn x.dyn).relas = mrC x.dyn.relas := Mk.relC_toRel _ (fun r hr => (h.ok.rel r hr).1) had
 rw [e2] at h3
 exact h3
end Go.Proofs.YtnbecdahfgkffaaGreat
namespace Go.Proofs.YtnbecdahfgkffaaGreat
open Go.RowKit
set_option maxRecDepth 100000 in
set_option maxHeartbeats 8000000 in
theorem holds_none (Ab : Option Addr) (m cb : Nat) (Aw : Option Addr) (cw : Nat) (fl : Int) (w : World) :
  Calls Tryz.prog 19 #[.slice Ab m cb, .agg #[.int .u32 0, .int .u8 0, .int .u64 0, .int .u64 0, .int .u64 0, .int .u64 0], .slice Aw 0 cw, .int .u64 0, .int .u8 fl] w fun e w' => e = .returned (.bool true) /\ Below w.heap.size w w' := by
 have hb := zJ3 w (.cells #[.int .u32 0, .int .u8 0, .int .u64 0, .int .u64 0, .int .u64 0, .int .u64 0] 58)
 have Hb := zJ2 hb
 clear hb
 go_enter Tryz.func19, Tryz.ntmps19
 go_wp2_with fail
 go_ret
 exact ⟨rfl, zJ1 Hb⟩
set_option maxRecDepth 100000 in
set_option maxHeartbeats 8000000 in
theorem uJi (Ab : Option Addr) (m cb B : Nat) (b : List UInt8) (k off ad n more : Nat) (fl : Int) (Aw : Option Addr) (cw : Nat) (l : List UInt8) (w : World) (hB : B <= w.heap.size) (hb : Rd w B 1 Ab m (bys b)) (hw : Rd w B 1 Aw n (bys l)) (hm : m <= 4294967296) (hmc : m <= cb) (hn : n <= 4294967296) (hmo : more <= 4294967296) (hne : n ≠ 0 \/ more ≠ 0) (hat : Mk.At b off l) :
  Calls Tryz.prog 19 #[.slice Ab m cb, .agg #[.int .u32 k, .int .u8 fl, .int .u64 off, .int .u64 ad, .int .u64 n, .int .u64 ((n + more : Nat) : Int)], .slice Aw n cw, .int .u64 more, .int .u8 fl] w fun e w' => e = .returned (.bool true) /\ Below w.heap.size w w' := by
 have hbl : b.length = m := by simpa [bys] using hb.len1
 have hll : l.length = n := by simpa [bys] using hw.len1
 have hin := hat.1
 rw [hbl, hll] at hin
 have hbx := zJ3 w (.cells #[.int .u32 k, .int .u8 fl, .int .u64 off, .int .u64 ad, .int .u64 n, .int .u64 ((n + more : Nat) : Int)] 58)
 have hblk := Blk.new w 58 [.int .u32 k, .int .u8 fl, .int .u64 off, .int .u64 ad, .int .u64 n, .int .u64 ((n + more : Nat) : Int)]
 have z1 := hblk.cell (i := 1) rfl
 have z2 := hblk.cell (i := 2) rfl
 have z4 := hblk.cell (i := 4) rfl
 have z5 := hblk.cell (i := 5) rfl
 have kf := fun (w' : World) => wJ0 (P := Tryz.prog) Tryz.underlying24 (e := 5) (by kernel_rfl) .u64 .u64 Ab m cb off (off + n) (by omega) (by omega) w'
 rw [show ((off + n : Nat) : Int) = (off : Int) + (n : Int) from by omega, Nat.add_sub_cancel_left] at kf
 have hcut := hb.cut (k := off) (j := off + n) (by omega) hin hmc
 rw [Nat.add_sub_cancel_left] at hcut
 have hcv : ((bys b).drop off).take n = bys l := by
  have h9 := hat.cut
  unfold Dy.cut at h9
  rw [hll] at h9
  unfold bys at *
  rw [<- List.map_drop, <- List.map_take, h9]
 rw [hcv] at hcut
 have KE : Hid (∀ W, Below (w.alloc (.cells #[.int .u32 k, .int .u8 fl, .int .u64 off, .int .u64 ad, .int .u64 n, .int .u64 ((n + more : Nat) : Int)] 58)).heap.size (w.alloc (.cells #[.int .u32 k, .int .u8 fl, .int .u64 off, .int .u64 ad, .int .u64 n, .int .u64 ((n + more : Nat) : Int)] 58)) W -> Calls Tryz.prog 11 #[.slice (fromA Ab cb off) n (cb - off), .slice Aw n cw] W fun e w' => e = .returned (.bool true) /\ ∃ j, w' = W.drewN j) := zJ2 (fun W hW => by
  have h9 := eqBytes_any (fromA Ab cb off) Aw n n (cb - off) cw B l l W (hcut.below ((hbx.trans (hW.mono hbx.size)).mono hB)) (hw.below ((hbx.trans (hW.mono hbx.size)).mono hB)) (by unfold maxLen; omega) (by unfold maxLen; omega)
  rw [decide_eq_true rfl] at h9
  exact h9)
 have Hb := zJ2 hbx
 have KW := zJ2 ((zJ1 KE) _ (Below.refl _ _))
 have Kf := zJ2 kf
 generalize fromA Ab cb off = A' at *
 have i1 : ¬ ((m : Int) < (off : Int)) := by omega
 have i2 : ¬ ((m : Int) - (off : Int) < (n : Int)) := by omega
 have i3 : (((n + more : Nat) : Int) != (n : Int) + (more : Int)) = false := by simp
 generalize ((n + more : Nat) : Int) = mz at *
 have hll2 : off <= 4294967296 := by omega
 clear hbl hll hblk hcut hcv hat hb hw hbx KE kf hin
 have kf := zJ1 Kf
 clear Kf
 by_cases h0 : n = 0
 ·have i0 : ((more : Int) == 0) = false := by rw [beq_eq_false_iff_ne]; omega
  have i4 : ((n : Int) == 0) = true := by rw [beq_iff_eq]; omega
  clear h0 hne
  go_enter Tryz.func19, Tryz.ntmps19
  go_wp2_with fail
  refine (zJ1 KW).mono ?_
  rintro e w2 ⟨rfl, j, rfl⟩
  have Hb2 := zJ2 (below_drewN' (zJ1 Hb) j)
  go_wp2_with fail
  go_ret
  exact ⟨rfl, zJ1 Hb2⟩
 ·have i0 : ((n : Int) == 0) = false := by rw [beq_eq_false_iff_ne]; omega
  go_enter Tryz.func19, Tryz.ntmps19
  go_wp2_with fail
  refine (zJ1 KW).mono ?_
  rintro e w2 ⟨rfl, j, rfl⟩
  have Hb2 := zJ2 (below_drewN' (zJ1 Hb) j)
  go_wp2_with fail
  go_ret
  exact ⟨rfl, zJ1 Hb2⟩
theorem holds_text (s : Xq) (hm : Mk.Made s.x) (Ab : Option Addr) (m cb B : Nat) (w : World) (hB : B <= w.heap.size) (hb : Rd w B 1 Ab m (bys (Mk.file s.x))) (hw : Rd w B 1 s.At s.x.text.length (bys s.x.text)) (h1 : m <= 4294967296) (h2 : m <= cb) :
  Calls Tryz.prog 19 #[.slice Ab m cb, .agg (sgVals (Mk.textSg s.x)).toArray, .slice s.At s.x.text.length s.ct, .int .u64 0, .int .u8 5] w fun e w' => e = .returned (.bool true) /\ Below w.heap.size w w' := by
 have hl := hm.ok.text
 by_cases hi : Mk.isText s.x = true
 ·have h9 := uJi Ab m cb B (Mk.file s.x) 1 (Mk.pad 4096 (Mk.front2 s.x)).length (Mk.base s.x + 65536) s.x.text.length 0 5 s.At s.ct s.x.text w hB hb hw h1 h2 (by omega) (by omega) (by unfold Mk.isText at hi; have := of_decide_eq_true hi; omega) (Mk.text_file hi)
  unfold Mk.textSg
  rw [if_pos hi]
  exact h9
 ·have h0 : s.x.text.length = 0 := by unfold Mk.isText at hi; rw [decide_eq_true_eq] at hi; omega
  unfold Mk.textSg
  rw [if_neg hi, h0]
  exact holds_none Ab m cb s.At s.ct 5 w
theorem holds_data (s : Xq) (hm : Mk.Made s.x) (Ab : Option Addr) (m cb B : Nat) (w : World) (hB : B <= w.heap.size) (hb : Rd w B 1 Ab m (bys (Mk.file s.x))) (hw : Rd w B 1 s.Ad s.x.data.length (bys s.x.data)) (h1 : m <= 4294967296) (h2 : m <= cb) (h3 : s.x.data.length <= 1048576) :
  Calls Tryz.prog 19 #[.slice Ab m cb, .agg (sgVals (Mk.dataSg s.x)).toArray, .slice s.Ad s.x.data.length s.cd, .int .u64 (s.x.more : Nat), .int .u8 6] w fun e w' => e = .returned (.bool true) /\ Below w.heap.size w w' := by
 have hl := hm.ok.more
 by_cases hi : Mk.isData s.x = true
 ·have hne : s.x.data.length ≠ 0 \/ s.x.more ≠ 0 := by
   unfold Mk.isData at hi
   rw [Bool.or_eq_true, decide_eq_true_eq, decide_eq_true_eq] at hi
   omega
  have h9 := uJi Ab m cb B (Mk.file s.x) 1 (Mk.pad 4096 (Mk.out1 s.x)).length (Mk.base s.x + 131072) s.x.data.length s.x.more 6 s.Ad s.cd s.x.data w hB hb hw h1 h2 (by omega) (by omega) hne (Mk.data_file hi)
  unfold Mk.dataSg
  rw [if_pos hi]
  exact h9
 ·have h0 : s.x.data.length = 0 /\ s.x.more = 0 := by
   unfold Mk.isData at hi
   rw [Bool.or_eq_true, decide_eq_true_eq, decide_eq_true_eq] at hi
   omega
  unfold Mk.dataSg
  rw [if_neg hi, h0.1, h0.2]
  exact holds_none Ab m cb s.Ad s.cd 6 w
theorem Mk.lastAt_step {a k : Nat} {L : List El.Sg} {s : El.Sg} (h : L[k]? = some s) : Mk.lastAt a (L.take (k + 1)) = if s.addr = a then s else Mk.lastAt a (L.take k) := by
 unfold Mk.lastAt
 rw [List.take_add_one, h, List.foldl_append]
 rfl
end Go.Proofs.YtnbecdahfgkffaaGreat
