/- Texts of the claim LawMakerParsed (MkP16, MkP17, MkP18, MkP19): what the functions that the statement reaches compute, and plain laws of it. Conditions: those that each theorem states. -/
import Derived.Test.YtnbecdahfgkffaaGreatMpK5
import Derived.Laws.EntriesVeiled
import Derived.Deep.DeepCutAuto
import Derived.Deep.CutBlock
set_option linter.unusedVariables false
set_option linter.unusedSimpArgs false
namespace Go.Proofs.YtnbecdahfgkffaaGreat
open Go.RowKit
def BhE (gF gl : Nat) (s : Xq) (w : World) (fs : List UInt8) (rs : List Mk.Row) (H : List (Nat × TypeId × List Value)) (Ad : Option Addr) (nd cd : Nat) (ds : List Mk.Row) (b : List UInt8) (fl ad mo : Nat) (e : Ending) (w' : World) : Prop :=
 e = .returned (.tuple #[]) /\ ∃ Af nf cf Al cl, PmS gF gl w w' Af nf cf (Mk.pad 4096 fs ++ b) Al cl (rs ++ [⟨1, fl, (Mk.pad 4096 fs).length, Mk.base s.x + ad, b.length, b.length + mo, 4096⟩]) H Ad nd cd ds
set_option maxRecDepth 100000 in
set_option maxHeartbeats 60000000 in
theorem vJr (s : Xq) (gF gl go_ gx nf cf cl nd cd B nb cb fl ad mo : Nat) (Af Al Ad Ab : Option Addr) (fs b : List UInt8) (rs ds : List Mk.Row) (H : List (Nat × TypeId × List Value)) (w wr : World)
  (hr0 : Rd w B 1 Ab nb (bys b)) (h : PmS gF gl w wr Af nf cf fs Al cl rs H Ad nd cd ds) (hgo : (go_, 69, [.pointer (some ⟨gF, 0, none⟩)]) ∈ H) (hgx : (gx, 66, s.l) ∈ H)
  (hB : B <= w.heap.size) (hfs : fs.length <= 4294967296) (hnb : nb <= 4294967296) (had : ad <= 4294967296) (hmo : mo <= 4294967296) (hrs : rs.length <= 64) :
  Calls Tryz.prog 30 #[.slice Ab nb cb, .int .u64 (fl : Nat), .int .u64 (ad : Nat), .int .u64 (mo : Nat), .pointer (some ⟨go_, 0, none⟩), .pointer (some ⟨gl, 0, none⟩), .pointer (some ⟨gx, 0, none⟩)] wr (BhE gF gl s w fs rs H Ad nd cd ds b fl ad mo) := by
 have hr := hr0.below (h.below.mono hB)
 have hbl : b.length = nb := by have := hr.1; simpa [bys] using this
 have hfl := h.fi.len
 have g0 := h.cell hgo (i := 0) rfl
 have KP := zJ2 (ppad_any _ gF 0 _ w.heap.size Af nf cf 4096 fs wr h.fi h.size (by omega) (by omega) (by omega))
 have Hh := zJ2 h
 have Hr := zJ2 hr
 clear h hr
 go_enter Tryz.func30, Tryz.ntmps30
 go_wp2_with fail
 refine (zJ1 KP).mono ?_
 rintro e w1 ⟨rfl, A1, n1, c1, hE⟩
 have hP1 := (zJ1 Hh).front hE
 have hr1 : Rd w1 B 1 Ab nb (bys b) := (zJ1 Hr).below (hE.below (by have := (zJ1 Hh).hF; omega) (fun k hk => by have := ((zJ1 Hh).fi.lt k hk).1; omega) (by have := (zJ1 Hh).size; omega))
 have hpl := xJj 4096 (by omega) fs
 have hpn := hP1.fi.len
 obtain ⟨ps, hps⟩ : ∃ ps, Mk.pad 4096 fs = ps := ⟨_, rfl⟩
 rw [hps] at hP1 hpl hpn
 have Hps := zJ2 hps
 have y0 := hP1.cell hgo (i := 0) rfl
 have y1 := hP1.fi.cell
 obtain ⟨a0, a1, a2, a3, a4, a5, a6, a7, a8, a9, a10, a11, a12⟩ := zJ6 (hP1.held _ hgx).1
 have HP1 := zJ2 hP1
 have Hr1 := zJ2 hr1
 have Hbl := zJ2 hbl
 have Hpn := zJ2 hpn
 obtain ⟨bs, hbs⟩ : ∃ bs, Mk.base s.x = bs := ⟨_, rfl⟩
 have hbs2 : bs <= 4194304 := by rw [<- hbs]; unfold Mk.base; split <;> omega
 have KB : Hid (∀ W, Calls Tryz.prog 27 #[.agg #[.int .u16 (s.x.type : Nat), .int .u64 (s.x.entry : Nat), .string s.x.interp, .slice s.At s.x.text.length s.ct, .slice s.Ad s.x.data.length s.cd, .int .u64 (s.x.more : Nat), .bool s.x.dynamic, .slice s.A1 s.x.dyn.needed.length s.c1, .string s.x.dyn.soname, .string s.x.dyn.run, .slice s.A2 s.x.dyn.syms.length s.c2, .slice s.A3 s.x.dyn.relas.length s.c3, .int .i64 s.x.apart]] W fun e w' => e = .returned (.int .u64 (bs : Nat)) /\ Below W.heap.size W w') := zJ2 (fun W => by have h9 := wJ7 s W; rw [hbs] at h9; exact h9)
 have Hbs := zJ2 hbs
 have hwn : IntKind.u64.wrap (nb : Int) = (nb : Int) := by rw [IntKind.wrap_u64]; omega
 clear hE hP1 hr1 hps hpn hbl KP Hh Hr g0 hbs
 go_wp2_with fail
 have hw1 : IntKind.u64.wrap ((bs : Int) + (ad : Int)) = (bs : Int) + (ad : Int) := by rw [IntKind.wrap_u64]; omega
 have hw2 : IntKind.u64.wrap ((nb : Int) + (mo : Int)) = (nb : Int) + (mo : Int) := by rw [IntKind.wrap_u64]; omega
 have hw3 : IntKind.u64.wrap (n1 : Int) = (n1 : Int) := by rw [IntKind.wrap_u64]; have := zJ1 Hpn; omega
 have Hw := zJ2 (And.intro hw1 (And.intro hw2 hw3))
 go_cut [] (fun wx => ∃ (Al : Option Addr) (cl : Nat), PmS gF gl w wx A1 n1 c1 ps Al cl (rs ++ [⟨1, fl, n1, bs + ad, nb, nb + mo, 4096⟩]) H Ad nd cd ds)
 case first =>
  refine wp_region_noPanic ?_
  refine wp_region_held_drew (S := fun W => W.cell? ⟨go_, 0, none⟩ = some (.pointer (some ⟨gF, 0, none⟩)) /\ W.cell? ⟨gF, 0, none⟩ = some (.slice A1 n1 c1) /\ W.cell? ⟨gx, 0, none⟩ = some (.int .u16 (s.x.type : Nat)) /\ W.cell? ⟨gx, 1, none⟩ = some (.int .u64 (s.x.entry : Nat)) /\ W.cell? ⟨gx, 2, none⟩ = some (.string s.x.interp) /\ W.cell? ⟨gx, 3, none⟩ = some (.slice s.At s.x.text.length s.ct) /\ W.cell? ⟨gx, 4, none⟩ = some (.slice s.Ad s.x.data.length s.cd) /\ W.cell? ⟨gx, 5, none⟩ = some (.int .u64 (s.x.more : Nat)) /\ W.cell? ⟨gx, 6, none⟩ = some (.bool s.x.dynamic) /\ W.cell? ⟨gx, 7, none⟩ = some (.slice s.A1 s.x.dyn.needed.length s.c1) /\ W.cell? ⟨gx, 8, none⟩ = some (.string s.x.dyn.soname) /\ W.cell? ⟨gx, 9, none⟩ = some (.string s.x.dyn.run) /\ W.cell? ⟨gx, 10, none⟩ = some (.slice s.A2 s.x.dyn.syms.length s.c2) /\ W.cell? ⟨gx, 11, none⟩ = some (.slice s.A3 s.x.dyn.relas.length s.c3) /\ W.cell? ⟨gx, 12, none⟩ = some (.int .i64 s.x.apart)) (by kernel_rfl) (⟨y0, y1, a0, a1, a2, a3, a4, a5, a6, a7, a8, a9, a10, a11, a12⟩) (fun HS0 => ?_)
  refine takeD (i := 1) (d := some 18) (v := ?_) rfl rfl (by kernel_rfl) (by kernel_rfl) (by kernel_rfl) (fun _ _ _ h => h) (Or.inl ⟨by rfl, ?y1⟩) HS0 ?_
  case y1 => (intro w' hSw; (try dsimp only at hSw); go_simp; (try with_reducible rfl))
  simp only [Act.put, List.setIfInBounds_toArray, List.set_cons_zero, List.set_cons_succ]
  refine takeD (i := 2) (d := some 19) (v := ?_) rfl rfl (by kernel_rfl) (by kernel_rfl) (by kernel_rfl) (fun _ _ _ h => h) (Or.inl ⟨by rfl, ?y2⟩) HS0 ?_
  case y2 => (intro w' hSw; (try dsimp only at hSw); go_simp; (try with_reducible rfl))
  simp only [Act.put, List.setIfInBounds_toArray, List.set_cons_zero, List.set_cons_succ]
  refine takeD (i := 3) (d := some 20) (v := ?_) rfl rfl (by kernel_rfl) (by kernel_rfl) (by kernel_rfl) (fun _ _ _ h => h) (Or.inl ⟨by rfl, ?y3⟩) HS0 ?_
  case y3 => (intro w' hSw; (try dsimp only at hSw); go_simp; (try with_reducible rfl))
  simp only [Act.put, List.setIfInBounds_toArray, List.set_cons_zero, List.set_cons_succ]
  refine takeD (i := 4) (d := some 21) (v := ?_) rfl rfl (by kernel_rfl) (by kernel_rfl) (by kernel_rfl) (fun _ _ _ h => h) (Or.inl ⟨by rfl, ?y4⟩) HS0 ?_
  case y4 => (intro w' hSw; (try dsimp only at hSw); go_simp; (try with_reducible rfl))
  simp only [Act.put, List.setIfInBounds_toArray, List.set_cons_zero, List.set_cons_succ]
  refine takeD (i := 5) (d := some 22) (v := ?_) rfl rfl (by kernel_rfl) (by kernel_rfl) (by kernel_rfl) (fun _ _ _ h => h) (Or.inl ⟨by rfl, ?y5⟩) HS0 ?_
  case y5 => (intro w' hSw; (try dsimp only at hSw); go_simp; (try with_reducible rfl))
  simp only [Act.put, List.setIfInBounds_toArray, List.set_cons_zero, List.set_cons_succ]
  refine takeD (i := 6) (d := some 23) (v := ?_) rfl rfl (by kernel_rfl) (by kernel_rfl) (by kernel_rfl) (fun _ _ _ h => h) (Or.inl ⟨by rfl, ?y6⟩) HS0 ?_
  case y6 => (intro w' hSw; (try dsimp only at hSw); go_simp; (try with_reducible rfl))
  simp only [Act.put, List.setIfInBounds_toArray, List.set_cons_zero, List.set_cons_succ]
  refine takeD (i := 7) (d := some 24) (v := .int .u64 (n1 : Int)) rfl rfl (by kernel_rfl) (by kernel_rfl) (by kernel_rfl) (fun _ _ _ h => h) (Or.inl ⟨by rfl, ?y7⟩) HS0 ?_
  case y7 => (intro w' hSw; (try dsimp only at hSw); go_simp; (try rw [hw3]))
  simp only [Act.put, List.setIfInBounds_toArray, List.set_cons_zero, List.set_cons_succ]
  refine takeD (i := 8) (d := some 25) (v := ?_) rfl rfl (by kernel_rfl) (by kernel_rfl) (by kernel_rfl) (fun _ _ _ h => h) (Or.inl ⟨by rfl, ?y8⟩) HS0 ?_
  case y8 => (intro w' hSw; (try dsimp only at hSw); go_simp; (try with_reducible rfl))
  simp only [Act.put, List.setIfInBounds_toArray, List.set_cons_zero, List.set_cons_succ]
  refine takeD (i := 10) (d := some 27) (v := ?_) rfl rfl (by kernel_rfl) (by kernel_rfl) (by kernel_rfl) (fun _ _ _ h => h) (Or.inl ⟨by rfl, ?y10⟩) HS0 ?_
  case y10 => (intro w' hSw; (try dsimp only at hSw); go_simp; (try with_reducible rfl))
  simp only [Act.put, List.setIfInBounds_toArray, List.set_cons_zero, List.set_cons_succ]
  refine takeD (i := 12) (d := some 29) (v := ?_) rfl rfl (by kernel_rfl) (by kernel_rfl) (by kernel_rfl) (fun _ _ _ h => h) (Or.inl ⟨by rfl, ?y12⟩) HS0 ?_
  case y12 => (intro w' hSw; (try dsimp only at hSw); go_simp; (try with_reducible rfl))
  simp only [Act.put, List.setIfInBounds_toArray, List.set_cons_zero, List.set_cons_succ]
  refine takeD (i := 13) (d := some 30) (v := ?_) rfl rfl (by kernel_rfl) (by kernel_rfl) (by kernel_rfl) (fun _ _ _ h => h) (Or.inl ⟨by rfl, ?y13⟩) HS0 ?_
  case y13 => (intro w' hSw; (try dsimp only at hSw); go_simp; (try with_reducible rfl))
  simp only [Act.put, List.setIfInBounds_toArray, List.set_cons_zero, List.set_cons_succ]
  refine takeD (i := 14) (d := some 31) (v := ?_) rfl rfl (by kernel_rfl) (by kernel_rfl) (by kernel_rfl) (fun _ _ _ h => h) (Or.inl ⟨by rfl, ?y14⟩) HS0 ?_
  case y14 => (intro w' hSw; (try dsimp only at hSw); go_simp; (try with_reducible rfl))
  simp only [Act.put, List.setIfInBounds_toArray, List.set_cons_zero, List.set_cons_succ]
  refine takeD (i := 15) (d := some 32) (v := .int .u64 ((nb : Int) + (mo : Int))) rfl rfl (by kernel_rfl) (by kernel_rfl) (by kernel_rfl) (fun _ _ _ h => h) (Or.inl ⟨by rfl, ?y15⟩) HS0 ?_
  case y15 => (intro w' hSw; (try dsimp only at hSw); go_simp; (try rw [hw2]))
  simp only [Act.put, List.setIfInBounds_toArray, List.set_cons_zero, List.set_cons_succ]
  refine wpAnyH_ready (rs := [0, 9]) (by kernel_rfl) (by simp) ?_
  refine AllReadyH.cons (i := 0) rfl (fun K hK => ?wayL) (AllReadyH.cons (i := 9) rfl (fun K hK => ?wayN) AllReadyH.nil)
  case wayL =>
   rw [if_pos (by rfl)]
   have zl := (show w1.drew.cell? ⟨gl, 0, none⟩ = some (.slice Al rs.length cl) from (zJ1 HP1).lb.cell (i := 0) rfl)
   go_simp
   refine hK.out _ _ (HS0) (fun hHeld => ?_)
   clear hK K HS0
   have HS0 := hHeld
   clear hHeld
   (try simp only [Act.put, List.setIfInBounds_toArray, List.set_cons_zero, List.set_cons_succ])
   clear zl
   refine wpAnyH_ready (rs := [9]) (by kernel_rfl) (by simp) ?_
   refine AllReadyH.cons (i := 9) rfl (fun K hK => ?_) AllReadyH.nil
   rw [if_pos (by rfl)]
   go_simp
   go_at_call 27
   with_reducible refine ((zJ1 KB) _).mono ?_
   rintro e w7 ⟨rfl, hb7⟩
   have hP7 := (zJ1 HP1).calm (zJn hb7)
   refine hK.out _ _ (⟨hP7.cell hgo (i := 0) rfl, hP7.fi.cell, zJ6 (hP7.held _ hgx).1⟩) (fun hHeld => ?_)
   clear hK K HS0
   have HS0 := hHeld
   clear hHeld
   (try simp only [Act.put, List.setIfInBounds_toArray, List.set_cons_zero, List.set_cons_succ])
   refine takeD (i := 11) (d := some 28) (v := .int .u64 ((bs : Int) + (ad : Int))) rfl rfl (by kernel_rfl) (by kernel_rfl) (by kernel_rfl) (fun _ _ _ h => h) (Or.inl ⟨by rfl, ?y11⟩) HS0 ?_
   case y11 => (intro w' hSw; (try dsimp only at hSw); go_simp; (try rw [hw1]))
   simp only [Act.put, List.setIfInBounds_toArray, List.set_cons_zero, List.set_cons_succ]
   refine takeD (i := 16) (d := some 33) (v := ?_) rfl rfl (by kernel_rfl) (by kernel_rfl) (by kernel_rfl) (fun _ _ _ h => h) (Or.inl ⟨by rfl, ?y16⟩) HS0 ?_
   case y16 => (intro w' hSw; (try dsimp only at hSw); go_simp; (try with_reducible rfl))
   simp only [Act.put, List.setIfInBounds_toArray, List.set_cons_zero, List.set_cons_succ]
   refine wpAnyH_ready (rs := [17]) (by kernel_rfl) (by simp) ?_
   refine AllReadyH.cons (i := 17) rfl (fun K hK => ?_) AllReadyH.nil
   rw [if_pos (by rfl)]
   go_simp
   refine hK.out _ _ (⟨(hP7.calm (zJ3 _ _)).cell hgo (i := 0) rfl, (hP7.calm (zJ3 _ _)).fi.cell, zJ6 ((hP7.calm (zJ3 _ _)).held _ hgx).1⟩) (fun hHeld => ?_)
   clear hK K HS0
   have HS0 := hHeld
   clear hHeld
   (try simp only [Act.put, List.setIfInBounds_toArray, List.set_cons_zero, List.set_cons_succ])
   refine wpAnyH_ready (rs := [18]) (by kernel_rfl) (by simp) ?_
   refine AllReadyH.cons (i := 18) rfl (fun K hK => ?_) AllReadyH.nil
   rw [if_pos (by rfl)]
   refine yJ1 yJu _ _ rfl w.heap.size (.slice Al rs.length cl) rs.length (rowC rs) rfl hP7.row _ _ rfl (by simp) rfl (by intro u hu; simp at hu; rcases hu with rfl | rfl | rfl | rfl | rfl | rfl | rfl <;> rfl) (by omega) hP7.size ?_
   intro A5 c5 w5 ho5 hg5 ha5
   have hP9 := hP7.push ⟨1, fl, n1, bs + ad, nb, nb + mo, 4096⟩ ho5 hg5 ha5
   have zs := (hP7.midL hg5).cell (i := 0) rfl
   have zf := (hP7.midL hg5).free 0
   show K (Act.put _ (some 35) _) _
   refine hK.out _ _ (⟨(hP7.midBlk hg5 hgo).cell (i := 0) rfl, (hP7.midF hg5).cell (i := 0) rfl, zJ6 (hP7.midBlk hg5 hgx)⟩) (fun hHeld => ?_)
   clear hK K HS0
   have HS0 := hHeld
   clear hHeld
   (try simp only [Act.put, List.setIfInBounds_toArray, List.set_cons_zero, List.set_cons_succ])
   refine wpAnyH_ready (rs := [19]) (by kernel_rfl) (by simp) ?_
   refine AllReadyH.cons (i := 19) rfl (fun K hK => ?_) AllReadyH.nil
   rw [if_pos (by rfl)]
   go_simp
   refine hK.out _ _ (⟨hP9.cell hgo (i := 0) rfl, hP9.fi.cell, zJ6 (hP9.held _ hgx).1⟩) (fun hHeld => ?_)
   clear hK K HS0
   have HS0 := hHeld
   clear hHeld
   (try simp only [Act.put, List.setIfInBounds_toArray, List.set_cons_zero, List.set_cons_succ])
   refine wpAnyH_done (by kernel_rfl) ?_ _
   refine NoPanic.normal ?_
   go_wp2_with fail
   go_meet
   case rel => exact ⟨A5, c5, hP9⟩
  case wayN =>
   rw [if_pos (by rfl)]
   go_simp
   go_at_call 27
   with_reducible refine ((zJ1 KB) _).mono ?_
   rintro e w7 ⟨rfl, hb7⟩
   have hP7 := (zJ1 HP1).calm (zJn hb7)
   refine hK.out _ _ (⟨hP7.cell hgo (i := 0) rfl, hP7.fi.cell, zJ6 (hP7.held _ hgx).1⟩) (fun hHeld => ?_)
   clear hK K HS0
   have HS0 := hHeld
   clear hHeld
   (try simp only [Act.put, List.setIfInBounds_toArray, List.set_cons_zero, List.set_cons_succ])
   refine takeD (i := 11) (d := some 28) (v := .int .u64 ((bs : Int) + (ad : Int))) rfl rfl (by kernel_rfl) (by kernel_rfl) (by kernel_rfl) (fun _ _ _ h => h) (Or.inl ⟨by rfl, ?y11⟩) HS0 ?_
   case y11 => (intro w' hSw; (try dsimp only at hSw); go_simp; (try rw [hw1]))
   simp only [Act.put, List.setIfInBounds_toArray, List.set_cons_zero, List.set_cons_succ]
   refine takeD (i := 16) (d := some 33) (v := ?_) rfl rfl (by kernel_rfl) (by kernel_rfl) (by kernel_rfl) (fun _ _ _ h => h) (Or.inl ⟨by rfl, ?y16⟩) HS0 ?_
   case y16 => (intro w' hSw; (try dsimp only at hSw); go_simp; (try with_reducible rfl))
   simp only [Act.put, List.setIfInBounds_toArray, List.set_cons_zero, List.set_cons_succ]
   refine wpAnyH_ready (rs := [0, 17]) (by kernel_rfl) (by simp) ?_
   refine AllReadyH.cons (i := 0) rfl (fun K hK => ?wayL) (AllReadyH.cons (i := 17) rfl (fun K hK => ?wayN) AllReadyH.nil)
   case wayL =>
    rw [if_pos (by rfl)]
    have zl := hP7.lb.cell (i := 0) rfl
    go_simp
    refine hK.out _ _ (HS0) (fun hHeld => ?_)
    clear hK K HS0
    have HS0 := hHeld
    clear hHeld
    (try simp only [Act.put, List.setIfInBounds_toArray, List.set_cons_zero, List.set_cons_succ])
    clear zl
    refine wpAnyH_ready (rs := [17]) (by kernel_rfl) (by simp) ?_
    refine AllReadyH.cons (i := 17) rfl (fun K hK => ?_) AllReadyH.nil
    rw [if_pos (by rfl)]
    go_simp
    refine hK.out _ _ (⟨(hP7.calm (zJ3 _ _)).cell hgo (i := 0) rfl, (hP7.calm (zJ3 _ _)).fi.cell, zJ6 ((hP7.calm (zJ3 _ _)).held _ hgx).1⟩) (fun hHeld => ?_)
    clear hK K HS0
    have HS0 := hHeld
    clear hHeld
    (try simp only [Act.put, List.setIfInBounds_toArray, List.set_cons_zero, List.set_cons_succ])
    refine wpAnyH_ready (rs := [18]) (by kernel_rfl) (by simp) ?_
    refine AllReadyH.cons (i := 18) rfl (fun K hK => ?_) AllReadyH.nil
    rw [if_pos (by rfl)]
    refine yJ1 yJu _ _ rfl w.heap.size (.slice Al rs.length cl) rs.length (rowC rs) rfl hP7.row _ _ rfl (by simp) rfl (by intro u hu; simp at hu; rcases hu with rfl | rfl | rfl | rfl | rfl | rfl | rfl <;> rfl) (by omega) hP7.size ?_
    intro A5 c5 w5 ho5 hg5 ha5
    have hP9 := hP7.push ⟨1, fl, n1, bs + ad, nb, nb + mo, 4096⟩ ho5 hg5 ha5
    have zs := (hP7.midL hg5).cell (i := 0) rfl
    have zf := (hP7.midL hg5).free 0
    show K (Act.put _ (some 35) _) _
    refine hK.out _ _ (⟨(hP7.midBlk hg5 hgo).cell (i := 0) rfl, (hP7.midF hg5).cell (i := 0) rfl, zJ6 (hP7.midBlk hg5 hgx)⟩) (fun hHeld => ?_)
    clear hK K HS0
    have HS0 := hHeld
    clear hHeld
    (try simp only [Act.put, List.setIfInBounds_toArray, List.set_cons_zero, List.set_cons_succ])
    refine wpAnyH_ready (rs := [19]) (by kernel_rfl) (by simp) ?_
    refine AllReadyH.cons (i := 19) rfl (fun K hK => ?_) AllReadyH.nil
    rw [if_pos (by rfl)]
    go_simp
    refine hK.out _ _ (⟨hP9.cell hgo (i := 0) rfl, hP9.fi.cell, zJ6 (hP9.held _ hgx).1⟩) (fun hHeld => ?_)
    clear hK K HS0
    have HS0 := hHeld
    clear hHeld
    (try simp only [Act.put, List.setIfInBounds_toArray, List.set_cons_zero, List.set_cons_succ])
    refine wpAnyH_done (by kernel_rfl) ?_ _
    refine NoPanic.normal ?_
    go_wp2_with fail
    go_meet
    case rel => exact ⟨A5, c5, hP9⟩
   case wayN =>
    rw [if_pos (by rfl)]
    go_simp
    refine hK.out _ _ (⟨(hP7.calm (zJ3 _ _)).cell hgo (i := 0) rfl, (hP7.calm (zJ3 _ _)).fi.cell, zJ6 ((hP7.calm (zJ3 _ _)).held _ hgx).1⟩) (fun hHeld => ?_)
    clear hK K HS0
    have HS0 := hHeld
    clear hHeld
    (try simp only [Act.put, List.setIfInBounds_toArray, List.set_cons_zero, List.set_cons_succ])
    refine wpAnyH_ready (rs := [0]) (by kernel_rfl) (by simp) ?_
    refine AllReadyH.cons (i := 0) rfl (fun K hK => ?_) AllReadyH.nil
    rw [if_pos (by rfl)]
    have zl := fun c => (hP7.calm (zJ3 w7 c)).lb.cell (i := 0) rfl
    go_simp
    refine hK.out _ _ (HS0) (fun hHeld => ?_)
    clear hK K HS0
    have HS0 := hHeld
    clear hHeld
    (try simp only [Act.put, List.setIfInBounds_toArray, List.set_cons_zero, List.set_cons_succ])
    clear zl
    refine wpAnyH_ready (rs := [18]) (by kernel_rfl) (by simp) ?_
    refine AllReadyH.cons (i := 18) rfl (fun K hK => ?_) AllReadyH.nil
    rw [if_pos (by rfl)]
    refine yJ1 yJu _ _ rfl w.heap.size (.slice Al rs.length cl) rs.length (rowC rs) rfl hP7.row _ _ rfl (by simp) rfl (by intro u hu; simp at hu; rcases hu with rfl | rfl | rfl | rfl | rfl | rfl | rfl <;> rfl) (by omega) hP7.size ?_
    intro A5 c5 w5 ho5 hg5 ha5
    have hP9 := hP7.push ⟨1, fl, n1, bs + ad, nb, nb + mo, 4096⟩ ho5 hg5 ha5
    have zs := (hP7.midL hg5).cell (i := 0) rfl
    have zf := (hP7.midL hg5).free 0
    show K (Act.put _ (some 35) _) _
    refine hK.out _ _ (⟨(hP7.midBlk hg5 hgo).cell (i := 0) rfl, (hP7.midF hg5).cell (i := 0) rfl, zJ6 (hP7.midBlk hg5 hgx)⟩) (fun hHeld => ?_)
    clear hK K HS0
    have HS0 := hHeld
    clear hHeld
    (try simp only [Act.put, List.setIfInBounds_toArray, List.set_cons_zero, List.set_cons_succ])
    refine wpAnyH_ready (rs := [19]) (by kernel_rfl) (by simp) ?_
    refine AllReadyH.cons (i := 19) rfl (fun K hK => ?_) AllReadyH.nil
    rw [if_pos (by rfl)]
    go_simp
    refine hK.out _ _ (⟨hP9.cell hgo (i := 0) rfl, hP9.fi.cell, zJ6 (hP9.held _ hgx).1⟩) (fun hHeld => ?_)
    clear hK K HS0
    have HS0 := hHeld
    clear hHeld
    (try simp only [Act.put, List.setIfInBounds_toArray, List.set_cons_zero, List.set_cons_succ])
    refine wpAnyH_done (by kernel_rfl) ?_ _
    refine NoPanic.normal ?_
    go_wp2_with fail
    go_meet
    case rel => exact ⟨A5, c5, hP9⟩
 case rest =>
  obtain ⟨Al5, cl5, hP5⟩ := hcut
  have y0 := hP5.cell hgo (i := 0) rfl
  have y2 : wc.drew.cell? ⟨gF, 0, none⟩ = some (.slice A1 n1 c1) := hP5.fi.cell
  have hPd := hP5.calm (zJ5 (Below.refl _ _))
  have hr5 : Rd wc.drew B 1 Ab nb (bys b) := hr0.below (hPd.below.mono hB)
  have hnn := zJ1 Hpn
  have HP5 := zJ2 hP5
  have HPd := zJ2 hPd
  have Hr5 := zJ2 hr5
  have hpb := hPd.size
  clear hP5 hPd hr5 HP1 Hw hw1 hw2 hw3 hwn KB y1 a0 a1 a2 a3 a4 a5 a6 a7 a8 a9 a10 a11 a12 Hr1
  go_wp2_with fail
  refine wp_region_noPanic ?_
  refine wp_region_held_drew (S := fun W => W.cell? ⟨go_, 0, none⟩ = some (.pointer (some ⟨gF, 0, none⟩))) (by kernel_rfl) (y0) (fun HS0 => ?_)
  refine takeD (i := 0) (d := some 36) (v := ?_) rfl rfl (by kernel_rfl) (by kernel_rfl) (by kernel_rfl) (fun _ _ _ h => h) (Or.inl ⟨by rfl, ?y0⟩) HS0 ?_
  case y0 => (intro w' hSw; (try dsimp only at hSw); go_simp; (try with_reducible rfl))
  simp only [Act.put, List.setIfInBounds_toArray, List.set_cons_zero, List.set_cons_succ]
  refine takeD (i := 1) (d := some 37) (v := ?_) rfl rfl (by kernel_rfl) (by kernel_rfl) (by kernel_rfl) (fun _ _ _ h => h) (Or.inl ⟨by rfl, ?y1⟩) HS0 ?_
  case y1 => (intro w' hSw; (try dsimp only at hSw); go_simp; (try with_reducible rfl))
  simp only [Act.put, List.setIfInBounds_toArray, List.set_cons_zero, List.set_cons_succ]
  refine takeD (i := 2) (d := some 38) (v := ?_) rfl rfl (by kernel_rfl) (by kernel_rfl) (by kernel_rfl) (fun _ _ _ h => h) (Or.inl ⟨by rfl, ?y2⟩) HS0 ?_
  case y2 => (intro w' hSw; (try dsimp only at hSw); go_simp; (try with_reducible rfl))
  simp only [Act.put, List.setIfInBounds_toArray, List.set_cons_zero, List.set_cons_succ]
  refine takeD (i := 3) (d := some 39) (v := ?_) rfl rfl (by kernel_rfl) (by kernel_rfl) (by kernel_rfl) (fun _ _ _ h => h) (Or.inl ⟨by rfl, ?y3⟩) HS0 ?_
  case y3 => (intro w' hSw; (try dsimp only at hSw); go_simp; (try with_reducible rfl))
  simp only [Act.put, List.setIfInBounds_toArray, List.set_cons_zero, List.set_cons_succ]
  refine takeD (i := 5) (d := some 41) (v := ?_) rfl rfl (by kernel_rfl) (by kernel_rfl) (by kernel_rfl) (fun _ _ _ h => h) (Or.inl ⟨by rfl, ?y5⟩) HS0 ?_
  case y5 => (intro w' hSw; (try dsimp only at hSw); go_simp; (try with_reducible rfl))
  simp only [Act.put, List.setIfInBounds_toArray, List.set_cons_zero, List.set_cons_succ]
  refine wpAnyH_ready (rs := [4]) (by kernel_rfl) (by simp) ?_
  refine AllReadyH.cons (i := 4) rfl (fun K hK => ?_) AllReadyH.nil
  rw [if_pos (by rfl)]
  go_simp
  refine hK.out _ _ (HS0) (fun hHeld => ?_)
  clear hK K HS0
  have HS0 := hHeld
  clear hHeld
  (try simp only [Act.put, List.setIfInBounds_toArray, List.set_cons_zero, List.set_cons_succ])
  refine wpAnyH_ready (rs := [6]) (by kernel_rfl) (by simp) ?_
  refine AllReadyH.cons (i := 6) rfl (fun K hK => ?_) AllReadyH.nil
  rw [if_pos (by rfl)]
  refine wp_app vJ3 _ _ rfl w.heap.size (.slice A1 n1 c1) n1 (bys ps) rfl (zJ1 HPd).fi.row B Ab nb cb (bys b) rfl (zJ1 Hr5) (xJc _) (by omega) hpb fun v6 w6 h62 h63 h64 => ?_
  obtain ⟨A6, c6, rfl⟩ := yJt h62
  have hG : Grew wc.drew w6 w.heap.size (.slice A1 n1 c1) (.slice A6 (n1 + nb) c6) (n1 + nb) (ps ++ b) := ⟨by rw [xJ0]; exact h62, h63, h64⟩
  obtain ⟨hb6, hE6⟩ := (zJ1 HPd).fi.app hG
  have zs := hb6.cell (i := 0) rfl
  have zf := hb6.free 0
  have hP6 := (zJ1 HPd).front hE6
  have yg : w6.cell? ⟨go_, 0, none⟩ = some (.pointer (some ⟨gF, 0, none⟩)) := (zJ4 (hG.kept.block go_ ((zJ1 HPd).held _ hgo).1.lt (fun e => ((zJ1 HPd).held _ hgo).2.2.2.1 (by rw [zJr] at e; exact e.symm))) 0).trans y0
  refine hK.out _ _ (yg) (fun hHeld => ?_)
  clear hK K HS0
  have HS0 := hHeld
  clear hHeld
  (try simp only [Act.put, List.setIfInBounds_toArray, List.set_cons_zero, List.set_cons_succ])
  refine takeD (i := 7) (d := some 43) (v := ?_) rfl rfl (by kernel_rfl) (by kernel_rfl) (by kernel_rfl) (fun _ _ _ h => h) (Or.inl ⟨by rfl, ?y7⟩) HS0 ?_
  case y7 => (intro w' hSw; (try dsimp only at hSw); go_simp; (try with_reducible rfl))
  simp only [Act.put, List.setIfInBounds_toArray, List.set_cons_zero, List.set_cons_succ]
  refine takeD (i := 8) (d := some 44) (v := ?_) rfl rfl (by kernel_rfl) (by kernel_rfl) (by kernel_rfl) (fun _ _ _ h => h) (Or.inl ⟨by rfl, ?y8⟩) HS0 ?_
  case y8 => (intro w' hSw; (try dsimp only at hSw); go_simp; (try with_reducible rfl))
  simp only [Act.put, List.setIfInBounds_toArray, List.set_cons_zero, List.set_cons_succ]
  refine wpAnyH_ready (rs := [9]) (by kernel_rfl) (by simp) ?_
  refine AllReadyH.cons (i := 9) rfl (fun K hK => ?_) AllReadyH.nil
  rw [if_pos (by rfl)]
  go_simp
  refine hK.out _ _ (hP6.cell hgo (i := 0) rfl) (fun hHeld => ?_)
  clear hK K HS0
  have HS0 := hHeld
  clear hHeld
  (try simp only [Act.put, List.setIfInBounds_toArray, List.set_cons_zero, List.set_cons_succ])
  refine wpAnyH_done (by kernel_rfl) ?_ _
  refine NoPanic.normal ?_
  go_wp2_with fail
  go_end0
  refine ⟨rfl, A6, n1 + nb, c6, Al5, cl5, ?_⟩
  rw [zJ1 Hps, zJ1 Hpn, zJ1 Hbl, zJ1 Hbs]
  exact hP6
set_option maxRecDepth 100000 in
set_option maxHeartbeats 60000000 in
theorem pmakeD (s : Xq) (gO gl go_ gx nf cf cl nd cd : Nat) (Af Al Ad : Option Addr) (rs ds : List Mk.Row) (H : List (Nat × TypeId × List Value)) (w wc : World)
  (h : PmS gO gl w wc Af nf cf (Mk.out2 s.x) Al cl rs H Ad nd cd ds) (hgo : (go_, 69, [.pointer (some ⟨gO, 0, none⟩)]) ∈ H) (hgx : (gx, 66, s.l) ∈ H) (hrs : rs ++ ds = Mk.rows s.x)
  (hmay : Mk.may s.x = 0) (hfr : (Mk.front2 s.x).length <= 65536) (hf : MkFit s) (hm : MayOk s.x)
  (u0 u1 u2 u3 u5 u6 u7 u8 u9 u11 u12 u14 u15 u17 u18 u19 u20 u21 u22 u23 u24 u25 u26 u27 u28 u29 u30 u31 u32 u33 u34 u35 u36 u37 u38 u39 u40 u41 u42 u43 u44 u45 u46 u47 u48 u49 u50 u51 u52 u53 u54 u55 u56 u57 u58 u59 u60 u61 u62 u63 u64 u65 u66 u67 u68 u69 u70 u71 u72 u73 u74 u75 u76 u77 u78 u79 u80 u81 u82 u83 u84 u85 u86 u87 u88 u89 u90 u91 u92 u93 u94 u95 u96 u97 u98 u99 u100 u101 u102 u103 u104 u105 u106 u107 u108 u109 u110 u111 u112 u113 u114 u115 u116 u117 u118 u119 u120 u121 u122 u123 u124 u125 u126 u127 u128 u129 u130 u131 u132 u133 u134 u135 u136 u137 u138 u139 u140 u141 u142 u143 u144 u145 u146 u147 u148 u149 u150 u151 u152 u153 u154 u155 u156 u157 u158 u159 u160 u161 u162 u163 u164 u165 u166 u167 u168 : Value) :
  (dropC 18 (Tryz.f9.body.getD .skip)).wp Tryz.prog (bodyPost Tryz.prog Tryz.f9 (MkE s.x w)) ⟨#[u0, u1, u2, u3, .pointer (some ⟨gx, 0, none⟩), u5, u6, u7, u8, u9, .pointer (some ⟨gl, 0, none⟩), u11, u12, .slice Ad nd cd, u14, u15, .pointer (some ⟨go_, 0, none⟩), u17, u18, u19, u20, u21, u22, u23, u24, u25, u26, u27, u28, u29, u30, u31, u32, u33, u34, u35, u36, u37, u38, u39, u40, u41, u42, u43, u44, u45, u46, u47, u48, u49, u50, u51, u52, u53, u54, u55, u56, u57, u58, u59, u60, u61, u62, u63, u64, u65, u66, u67, u68, u69, u70, u71, u72, u73, u74, u75, u76, u77, u78, u79, u80, u81, u82, u83, u84, u85, u86, u87, u88, u89, u90, u91, u92, u93, u94, u95, u96, u97, u98, u99, u100, u101, u102, u103, u104, u105, u106, u107, u108, u109, u110, u111, u112, u113, u114, u115, u116, u117, u118, u119, u120, u121, u122, u123, u124, u125, u126, u127, u128, u129, u130, u131, u132, u133, u134, u135, u136, u137, u138, u139, u140, u141, u142, u143, u144, u145, u146, u147, u148, u149, u150, u151, u152, u153, u154, u155, u156, u157, u158, u159, u160, u161, u162, u163, u164, u165, u166, u167, u168], []⟩ wc := by
 conv => arg 2; whnf
 have hmany := xJm s.x
 have hrl := yJd s.x
 have hlen : rs.length + ds.length = Mk.many s.x := by rw [<- hrl, <- hrs, List.length_append]
 have hnd : ds.length = nd := by have h9 := h.dyn.1; have h8 : (rowC ds).length = 7 * ds.length := rowC_len ds; omega
 have hn6 : rs.length + nd <= 6 := by omega
 have hnf := h.fi.len
 have y0 := h.cell hgo (i := 0) rfl
 have y1 := h.fi.cell
 have y2 := h.lb.cell (i := 0) rfl
 obtain ⟨a0, a1, a2, a3, a4, a5, a6, a7, a8, a9, a10, a11, a12⟩ := zJ6 (h.held _ hgx).1
 have hmn : 64 + 56 * Mk.many s.x <= nf := by
  have h1 := yJ9 s.x
  have h2 := (xJ4 s.x).1
  have h3 := xJs s.x
  have h4 := uJz s.x
  have h5 := uJy s.x
  omega
 have hmake : Mk.make s.x = if 65536 < nf then ([], 12) else (Mk.file s.x, 0) := by
  unfold Mk.make
  rw [if_neg (by rw [hmay]; decide), hnf]
  by_cases e : 65536 < nf
  ·rw [if_pos (Or.inr e), if_pos e]
  ·rw [if_neg (by omega), if_neg e]
 have hrok := rows_ok s.x 102000000 (by omega) (by omega) (by have h1 := text_up s.x; omega) (by have h1 := text_up s.x; have h2 := data_up s.x; have := hm.text; omega) (by have := hm.text; omega) (by have := hf.data; omega) (by have := hm.more; omega) (by have := hf.interp; omega) (by have := room_le s.x hm.n1; omega)
 have hty := hf.ok.type
 have hen := hf.ok.entry
 have Hh := zJ2 h
 have Hrs := zJ2 hrs
 have Hrok := zJ2 hrok
 have Hmk := zJ2 hmake
 have Hnf := zJ2 hnf
 have Hnd := zJ2 hnd
 have Hhl := zJ2 (wJf s.x (Mk.rows s.x))
 have Hrl := zJ2 hrl
 clear h hrs hrok hmake hfr hmay hf hm hnf hnd hrl
 by_cases hbig : 65536 < nf
 ·have hbi : (65536 : Int) < (nf : Int) := by omega
  have Hm2 : Hid (Mk.make s.x = ([], 12)) := zJ2 (by rw [zJ1 Hmk, if_pos hbig])
  clear hbig
  go_wp2_with fail
  go_ret2
  refine ⟨(zJ1 Hh).below, none, 0, 0, ?_, ?_⟩
  ·rw [zJ1 Hm2]; rfl
  ·rw [zJ1 Hm2]; exact World.ownsRow_nil _ _ _ _
 have hbi : ¬ (65536 : Int) < (nf : Int) := by omega
 have Hm2 : Hid (Mk.make s.x = (Mk.file s.x, 0)) := zJ2 (by rw [zJ1 Hmk, if_neg hbig])
 obtain ⟨kf, hkf, -, hkf2⟩ := xJ9 (zJ1 Hh).fi.row (by omega)
 subst hkf
 have hPd := (zJ1 Hh).calm (zJ5 (Below.refl _ _))
 have HPd := zJ2 hPd
 have hpds := hPd.size
 clear hPd Hmk hbig
 go_wp2_with fail
 refine wp_region_noPanic ?_
 refine wp_region_held_drew (S := fun W => W.cell? ⟨go_, 0, none⟩ = some (.pointer (some ⟨gO, 0, none⟩)) /\ W.cell? ⟨gO, 0, none⟩ = some (.slice (some ⟨kf, 0, none⟩) nf cf) /\ W.cell? ⟨gl, 0, none⟩ = some (.slice Al rs.length cl) /\ W.cell? ⟨gx, 0, none⟩ = some (.int .u16 (s.x.type : Nat)) /\ W.cell? ⟨gx, 1, none⟩ = some (.int .u64 (s.x.entry : Nat)) /\ W.cell? ⟨gx, 2, none⟩ = some (.string s.x.interp) /\ W.cell? ⟨gx, 3, none⟩ = some (.slice s.At s.x.text.length s.ct) /\ W.cell? ⟨gx, 4, none⟩ = some (.slice s.Ad s.x.data.length s.cd) /\ W.cell? ⟨gx, 5, none⟩ = some (.int .u64 (s.x.more : Nat)) /\ W.cell? ⟨gx, 6, none⟩ = some (.bool s.x.dynamic) /\ W.cell? ⟨gx, 7, none⟩ = some (.slice s.A1 s.x.dyn.needed.length s.c1) /\ W.cell? ⟨gx, 8, none⟩ = some (.string s.x.dyn.soname) /\ W.cell? ⟨gx, 9, none⟩ = some (.string s.x.dyn.run) /\ W.cell? ⟨gx, 10, none⟩ = some (.slice s.A2 s.x.dyn.syms.length s.c2) /\ W.cell? ⟨gx, 11, none⟩ = some (.slice s.A3 s.x.dyn.relas.length s.c3) /\ W.cell? ⟨gx, 12, none⟩ = some (.int .i64 s.x.apart)) (by kernel_rfl) (⟨y0, y1, y2, a0, a1, a2, a3, a4, a5, a6, a7, a8, a9, a10, a11, a12⟩) (fun HS0 => ?_)
 refine takeD (i := 0) (d := some 155) (v := ?_) rfl rfl (by kernel_rfl) (by kernel_rfl) (by kernel_rfl) (fun _ _ _ h => h) (Or.inl ⟨by rfl, ?y0⟩) HS0 ?_
 case y0 => (intro w' hSw; (try dsimp only at hSw); go_simp; (try with_reducible rfl))
 simp only [Act.put, List.setIfInBounds_toArray, List.set_cons_zero, List.set_cons_succ]
 refine takeD (i := 1) (d := some 156) (v := ?_) rfl rfl (by kernel_rfl) (by kernel_rfl) (by kernel_rfl) (fun _ _ _ h => h) (Or.inl ⟨by rfl, ?y1⟩) HS0 ?_
 case y1 => (intro w' hSw; (try dsimp only at hSw); go_simp; (try with_reducible rfl))
 simp only [Act.put, List.setIfInBounds_toArray, List.set_cons_zero, List.set_cons_succ]
 refine takeD (i := 2) (d := some 157) (v := ?_) rfl rfl (by kernel_rfl) (by kernel_rfl) (by kernel_rfl) (fun _ _ _ h => h) (Or.inl ⟨by rfl, ?y2⟩) HS0 ?_
 case y2 => (intro w' hSw; (try dsimp only at hSw); go_simp; (try with_reducible rfl))
 simp only [Act.put, List.setIfInBounds_toArray, List.set_cons_zero, List.set_cons_succ]
 refine takeD (i := 3) (d := some 158) (v := ?_) rfl rfl (by kernel_rfl) (by kernel_rfl) (by kernel_rfl) (fun _ _ _ h => h) (Or.inl ⟨by rfl, ?y3⟩) HS0 ?_
 case y3 => (intro w' hSw; (try dsimp only at hSw); go_simp; (try with_reducible rfl))
 simp only [Act.put, List.setIfInBounds_toArray, List.set_cons_zero, List.set_cons_succ]
 refine takeD (i := 4) (d := some 159) (v := ?_) rfl rfl (by kernel_rfl) (by kernel_rfl) (by kernel_rfl) (fun _ _ _ h => h) (Or.inl ⟨by rfl, ?y4⟩) HS0 ?_
 case y4 => (intro w' hSw; (try dsimp only at hSw); go_simp; (try with_reducible rfl))
 simp only [Act.put, List.setIfInBounds_toArray, List.set_cons_zero, List.set_cons_succ]
 refine takeD (i := 5) (d := some 160) (v := ?_) rfl rfl (by kernel_rfl) (by kernel_rfl) (by kernel_rfl) (fun _ _ _ h => h) (Or.inl ⟨by rfl, ?y5⟩) HS0 ?_
 case y5 => (intro w' hSw; (try dsimp only at hSw); go_simp; (try with_reducible rfl))
 simp only [Act.put, List.setIfInBounds_toArray, List.set_cons_zero, List.set_cons_succ]
 refine takeD (i := 6) (d := some 161) (v := ?_) rfl rfl (by kernel_rfl) (by kernel_rfl) (by kernel_rfl) (fun _ _ _ h => h) (Or.inl ⟨by rfl, ?y6⟩) HS0 ?_
 case y6 => (intro w' hSw; (try dsimp only at hSw); go_simp; (try with_reducible rfl))
 simp only [Act.put, List.setIfInBounds_toArray, List.set_cons_zero, List.set_cons_succ]
 refine wpAnyH_ready (rs := [7]) (by kernel_rfl) (by simp) ?_
 refine AllReadyH.cons (i := 7) rfl (fun K hK => ?_) AllReadyH.nil
 rw [if_pos (by rfl)]
 refine wp_app yJu _ _ rfl w.heap.size (.slice Al rs.length cl) rs.length (rowC rs) rfl (zJ1 HPd).row _ Ad nd cd (rowC ds) rfl (Rd.of_own (zJ1 HPd).dyn) (rowC_one ds) (by omega) hpds fun v6 w6 h62 h63 h64 => ?_
 obtain ⟨A6, c6, rfl⟩ := yJt h62
 have hL6 := (zJ1 HPd).midL h63
 have hF6 := (zJ1 HPd).midF h63
 have hx6 := (zJ1 HPd).midBlk h63 hgx
 have ho6 := (zJ1 HPd).midBlk h63 hgo
 have hfr6 := (zJ1 HPd).midRow h63
 have hb6 := (zJ1 HPd).below.grown (by rw [zJr] at h63; exact h63) hpds (fun k hk => (zJ7 (zJ1 HPd).row k hk).1)
 refine hK.out _ _ (⟨ho6.cell (i := 0) rfl, hF6.cell (i := 0) rfl, hL6.cell (i := 0) rfl, zJ6 hx6⟩) (fun hHeld => ?_)
 clear hK K HS0
 have HS0 := hHeld
 clear hHeld
 (try simp only [Act.put, List.setIfInBounds_toArray, List.set_cons_zero, List.set_cons_succ])
 refine wpAnyH_ready (rs := [8]) (by kernel_rfl) (by simp) ?_
 refine AllReadyH.cons (i := 8) rfl (fun K hK => ?_) AllReadyH.nil
 rw [if_pos (by rfl)]
 have hR6 : Rd w6 w6.heap.size 7 A6 (rs.length + nd) (rowC (Mk.rows s.x)) := by have h9 := Rd.of_own h62; rw [<- rowC_app, zJ1 Hrs] at h9; exact h9
 have KH := zJ2 (phead_any s A6 (rs.length + nd) c6 w6.heap.size (Mk.rows s.x) w6 (Nat.le_refl _) (by rw [zJ1 Hrl]; have := zJ1 Hnd; omega) (by have := zJ1 Hnd; omega) hR6 (zJ1 Hrok) hty hen)
 go_simp
 go_at_call 32
 refine (zJ1 KH).mono ?_
 rintro e w7 ⟨A7, c7, rfl, hoh, hb7⟩
 have hL7 := hL6.belowSz hb7
 have hF7 := hF6.belowSz hb7
 have hx7 := hx6.belowSz hb7
 have ho7 := ho6.belowSz hb7
 have hfr7 := own_below hfr6 hb7
 have hbw7 := hb6.trans (hb7.mono hb6.size)
 have hbl6 := (zJ7 hfr6 kf rfl).2
 have hbh := zJ7 hoh
 refine hK.out _ _ (⟨ho7.cell (i := 0) rfl, hF7.cell (i := 0) rfl, hL7.cell (i := 0) rfl, zJ6 hx7⟩) (fun hHeld => ?_)
 clear hK K HS0
 have HS0 := hHeld
 clear hHeld
 (try simp only [Act.put, List.setIfInBounds_toArray, List.set_cons_zero, List.set_cons_succ])
 refine wpAnyH_ready (rs := [9]) (by kernel_rfl) (by simp) ?_
 refine AllReadyH.cons (i := 9) rfl (fun K hK => ?_) AllReadyH.nil
 rw [if_pos (by rfl)]
 obtain ⟨kh, hkh, -, hkh2⟩ := xJ9 hoh (by omega)
 subst hkh
 refine wp_copyB (.tmp 158) (.tmp 163) rfl kf 0 nf cf w.heap.size nf cf _ _ rfl hfr7 kh 0 (64 + 56 * (rs.length + nd)) c7 _ rfl (Rd.of_own hoh) (by have := zJ1 Hnd; omega) (by have := zJ1 Hnd; omega) ?_
 rintro w9 ho9 ⟨cs, rfl⟩
 show K (Act.put _ (some 164) _) _
 have q1 := (zJ1 HPd).kne hgo
 have q2 := (zJ1 HPd).kne hgx
 have q3 : gO ≠ kf := fun e => (zJ1 HPd).fi.ne (by rw [e]; rfl)
 have q4 : gl ≠ kf := fun e => (zJ1 HPd).d2 (by rw [e]; rfl)
 have z0 := (zJ4 (setRow_other w7 kf go_ cs (fun e => q1 (by rw [e]; rfl))) 0).trans (ho7.cell (i := 0) rfl)
 have z1 := (zJ4 (setRow_other w7 kf gO cs q3) 0).trans (hF7.cell (i := 0) rfl)
 refine hK.out _ _ (⟨z0, z1, (zJ4 (setRow_other w7 kf gl cs q4) 0).trans (hL7.cell (i := 0) rfl), (zJ4 (setRow_other w7 kf gx cs (fun e => q2 (by rw [e]; rfl))) 0).trans (hx7.cell (i := 0) rfl), (zJ4 (setRow_other w7 kf gx cs (fun e => q2 (by rw [e]; rfl))) 1).trans (hx7.cell (i := 1) rfl), (zJ4 (setRow_other w7 kf gx cs (fun e => q2 (by rw [e]; rfl))) 2).trans (hx7.cell (i := 2) rfl), (zJ4 (setRow_other w7 kf gx cs (fun e => q2 (by rw [e]; rfl))) 3).trans (hx7.cell (i := 3) rfl), (zJ4 (setRow_other w7 kf gx cs (fun e => q2 (by rw [e]; rfl))) 4).trans (hx7.cell (i := 4) rfl), (zJ4 (setRow_other w7 kf gx cs (fun e => q2 (by rw [e]; rfl))) 5).trans (hx7.cell (i := 5) rfl), (zJ4 (setRow_other w7 kf gx cs (fun e => q2 (by rw [e]; rfl))) 6).trans (hx7.cell (i := 6) rfl), (zJ4 (setRow_other w7 kf gx cs (fun e => q2 (by rw [e]; rfl))) 7).trans (hx7.cell (i := 7) rfl), (zJ4 (setRow_other w7 kf gx cs (fun e => q2 (by rw [e]; rfl))) 8).trans (hx7.cell (i := 8) rfl), (zJ4 (setRow_other w7 kf gx cs (fun e => q2 (by rw [e]; rfl))) 9).trans (hx7.cell (i := 9) rfl), (zJ4 (setRow_other w7 kf gx cs (fun e => q2 (by rw [e]; rfl))) 10).trans (hx7.cell (i := 10) rfl), (zJ4 (setRow_other w7 kf gx cs (fun e => q2 (by rw [e]; rfl))) 11).trans (hx7.cell (i := 11) rfl), (zJ4 (setRow_other w7 kf gx cs (fun e => q2 (by rw [e]; rfl))) 12).trans (hx7.cell (i := 12) rfl)⟩) (fun hHeld => ?_)
 clear hK K HS0
 have HS0 := hHeld
 clear hHeld
 (try simp only [Act.put, List.setIfInBounds_toArray, List.set_cons_zero, List.set_cons_succ])
 refine wpAnyH_done (by kernel_rfl) ?_ _
 refine NoPanic.normal ?_
 clear HS0 y0 y1 y2 a0 a1 a2 a3 a4 a5 a6 a7 a8 a9 a10 a11 a12 KH
 go_wp2_with fail
 go_ret2
 refine ⟨below_setRow hbw7 (zJ7 hfr7 kf rfl).1 cs, some ⟨kf, 0, none⟩, nf, cf, ?_, ?_⟩
 ·rw [zJ1 Hm2]; rfl
 ·rw [zJ1 Hm2]; exact ho9
set_option maxRecDepth 100000 in
set_option maxHeartbeats 60000000 in
theorem pmakeC (s : Xq) (gF gl gx nf cf cl nd cd B : Nat) (Af Al Ad : Option Addr) (rs ds : List Mk.Row) (H : List (Nat × TypeId × List Value)) (w wc : World) (hB : B <= w.heap.size) (hx : XqM w B s)
  (h : PmS gF gl w wc Af nf cf (Mk.front2 s.x) Al cl rs H Ad nd cd ds) (hgx : (gx, 66, s.l) ∈ H) (hrs : rs = Mk.rowPhdr s.x ++ Mk.rowInterp s.x) (hds : ds = Mk.rowDyn s.x)
  (hmay : Mk.may s.x = 0) (hf : MkFit s) (hm : MayOk s.x)
  (u0 u1 u2 u3 u5 u6 u7 u8 u12 u14 u15 u16 u17 u18 u19 u20 u21 u22 u23 u24 u25 u26 u27 u28 u29 u30 u31 u32 u33 u34 u35 u36 u37 u38 u39 u40 u41 u42 u43 u44 u45 u46 u47 u48 u49 u50 u51 u52 u53 u54 u55 u56 u57 u58 u59 u60 u61 u62 u63 u64 u65 u66 u67 u68 u69 u70 u71 u72 u73 u74 u75 u76 u77 u78 u79 u80 u81 u82 u83 u84 u85 u86 u87 u88 u89 u90 u91 u92 u93 u94 u95 u96 u97 u98 u99 u100 u101 u102 u103 u104 u105 u106 u107 u108 u109 u110 u111 u112 u113 u114 u115 u116 u117 u118 u119 u120 u121 u122 u123 u124 u125 u126 u127 u128 u129 u130 u131 u132 u133 u134 u135 u136 u137 u138 u139 u140 u141 u142 u143 u144 u145 u146 u147 u148 u149 u150 u151 u152 u153 u154 u155 u156 u157 u158 u159 u160 u161 u162 u163 u164 u165 u166 u167 u168 : Value) :
  (dropC 12 (Tryz.f9.body.getD .skip)).wp Tryz.prog (bodyPost Tryz.prog Tryz.f9 (MkE s.x w)) ⟨#[u0, u1, u2, u3, .pointer (some ⟨gx, 0, none⟩), u5, u6, u7, u8, .pointer (some ⟨gF, 0, none⟩), .pointer (some ⟨gl, 0, none⟩), .func (.func 26) #[] #[.pointer (some ⟨gx, 0, none⟩)], u12, .slice Ad nd cd, u14, u15, u16, u17, u18, u19, u20, u21, u22, u23, u24, u25, u26, u27, u28, u29, u30, u31, u32, u33, u34, u35, u36, u37, u38, u39, u40, u41, u42, u43, u44, u45, u46, u47, u48, u49, u50, u51, u52, u53, u54, u55, u56, u57, u58, u59, u60, u61, u62, u63, u64, u65, u66, u67, u68, u69, u70, u71, u72, u73, u74, u75, u76, u77, u78, u79, u80, u81, u82, u83, u84, u85, u86, u87, u88, u89, u90, u91, u92, u93, u94, u95, u96, u97, u98, u99, u100, u101, u102, u103, u104, u105, u106, u107, u108, u109, u110, u111, u112, u113, u114, u115, u116, u117, u118, u119, u120, u121, u122, u123, u124, u125, u126, u127, u128, u129, u130, u131, u132, u133, u134, u135, u136, u137, u138, u139, u140, u141, u142, u143, u144, u145, u146, u147, u148, u149, u150, u151, u152, u153, u154, u155, u156, u157, u158, u159, u160, u161, u162, u163, u164, u165, u166, u167, u168], []⟩ wc := by
 conv => arg 2; whnf
 have hnf := h.fi.len
 have y1 := h.fi.cell
 have hrl := yJd s.x
 have hmany := xJm s.x
 have hlen : rs.length + (Mk.rowFirst s.x).length + (Mk.rowText s.x).length + (Mk.rowData s.x).length + ds.length <= 6 := by
  rw [hrs, hds]
  unfold Mk.rows at hrl
  simp only [List.length_append] at hrl ⊢
  omega
 have hte := hm.text
 have hmo := hm.more
 have hda := hf.data
 have Hh := zJ2 h
 have Hrs := zJ2 hrs
 have Hds := zJ2 hds
 have Hnf := zJ2 hnf
 have Hf := zJ2 hf
 have Hm := zJ2 hm
 have Hmay := zJ2 hmay
 have Hx := zJ2 hx
 clear h hrs hds hf hm hmay hrl hx
 by_cases hbig : 65536 < nf
 ·have hbi : (65536 : Int) < (nf : Int) := by omega
  have Hm2 : Hid (Mk.make s.x = ([], 12)) := zJ2 (by unfold Mk.make; rw [if_neg (by rw [zJ1 Hmay]; decide), if_pos (Or.inl (by have := zJ1 Hnf; omega))])
  clear hbig hnf
  go_wp2_with fail
  go_ret2
  refine ⟨(zJ1 Hh).below, none, 0, 0, ?_, ?_⟩
  ·rw [zJ1 Hm2]; rfl
  ·rw [zJ1 Hm2]; exact World.ownsRow_nil _ _ _ _
 have hbi : ¬ (65536 : Int) < (nf : Int) := by omega
 have hfr : (Mk.front2 s.x).length <= 65536 := by omega
 have Hfr := zJ2 hfr
 have hnb : nf <= 65536 := by omega
 clear hbig hnf hfr
 have hP1 := (zJ1 Hh).out.lay 69 [.pointer (some ⟨wc.heap.size, 0, none⟩)]
 have e9 : (wc.alloc (.cells #[.slice Af nf cf] 71)).heap.size = wc.heap.size + 1 := by simp
 rw [e9] at hP1
 have HP1 : Hid (PmS wc.heap.size gl w ((wc.alloc (.cells #[.slice Af nf cf] 71)).alloc (.cells #[.pointer (some ⟨wc.heap.size, 0, none⟩)] 69)) Af nf cf (Mk.front2 s.x) Al cl rs ((wc.heap.size + 1, 69, [.pointer (some ⟨wc.heap.size, 0, none⟩)]) :: (gF, 71, [.slice Af nf cf]) :: H) Ad nd cd ds) := zJ2 hP1
 clear hP1 e9
 go_upto_region 26 with fail
 generalize ((wc.alloc (.cells #[.slice Af nf cf] 71)).alloc (.cells #[.pointer (some ⟨wc.heap.size, 0, none⟩)] 69)) = W0 at *
 obtain ⟨H2, hH2⟩ : ∃ H2, ((wc.heap.size + 1, 69, [.pointer (some ⟨wc.heap.size, 0, none⟩)]) :: (gF, 71, [.slice Af nf cf]) :: H) = H2 := ⟨_, rfl⟩
 have hgo : (wc.heap.size + 1, 69, [.pointer (some ⟨wc.heap.size, 0, none⟩)]) ∈ H2 := by rw [<- hH2]; exact List.mem_cons_self
 have hgF : (gF, 71, [.slice Af nf cf]) ∈ H2 := by rw [<- hH2]; exact List.mem_cons_of_mem _ List.mem_cons_self
 have hgx : (gx, 66, s.l) ∈ H2 := by rw [<- hH2]; exact List.mem_cons_of_mem _ (List.mem_cons_of_mem _ hgx)
 rw [hH2] at HP1
 clear hH2 Hh y1
 obtain ⟨gO, hgO⟩ : ∃ gO, wc.heap.size = gO := ⟨_, rfl⟩
 obtain ⟨go_, hgo_⟩ : ∃ go_, wc.heap.size + 1 = go_ := ⟨_, rfl⟩
 rw [hgo_, hgO] at hgo
 rw [hgO] at HP1
 rw [hgo_, hgO]
 clear hgO hgo_
 have y0 := (zJ1 HP1).cell hgF (i := 0) rfl
 have hwn : IntKind.u64.wrap (nf : Int) = (nf : Int) := by rw [IntKind.wrap_u64]; omega
 obtain ⟨r1, hr1⟩ : ∃ r, Mk.inRow s.x 1 0 nf 4096 = r := ⟨_, rfl⟩
 have Kr1 : Hid (∀ W, Blk W gx 66 s.l -> Calls Tryz.prog 26 #[.int .u64 1, .int .u64 0, .int .u64 (nf : Nat), .int .u64 4096, .pointer (some ⟨gx, 0, none⟩)] W fun e w' => e = .returned (.agg #[.int .u64 (r1.kind : Nat), .int .u64 (r1.flags : Nat), .int .u64 (r1.off : Nat), .int .u64 (r1.addr : Nat), .int .u64 (r1.fsz : Nat), .int .u64 (r1.msz : Nat), .int .u64 (r1.align : Nat)]) /\ Below W.heap.size W w') := zJ2 (fun W hW => by have h9 := uJv s gx 1 0 nf 4096 W hW (by omega); rw [hr1] at h9; exact h9)
 have Hr1 := zJ2 hr1
 clear hr1
 go_cut [] (fun wx => ∃ (Al : Option Addr) (cl : Nat), PmS gO gl w wx Af nf cf (Mk.front2 s.x) Al cl (rs ++ [r1]) H2 Ad nd cd ds)
 case first =>
  refine wp_region_noPanic ?_
  refine wp_region_held_drew (S := fun W => W.cell? ⟨gF, 0, none⟩ = some (.slice Af nf cf)) (by kernel_rfl) (y0) (fun HS0 => ?_)
  refine takeD (i := 1) (d := some 115) (v := ?_) rfl rfl (by kernel_rfl) (by kernel_rfl) (by kernel_rfl) (fun _ _ _ h => h) (Or.inl ⟨by rfl, ?y1⟩) HS0 ?_
  case y1 => (intro w' hSw; (try dsimp only at hSw); go_simp; (try with_reducible rfl))
  simp only [Act.put, List.setIfInBounds_toArray, List.set_cons_zero, List.set_cons_succ]
  refine takeD (i := 2) (d := some 116) (v := ?_) rfl rfl (by kernel_rfl) (by kernel_rfl) (by kernel_rfl) (fun _ _ _ h => h) (Or.inl ⟨by rfl, ?y2⟩) HS0 ?_
  case y2 => (intro w' hSw; (try dsimp only at hSw); go_simp; (try with_reducible rfl))
  simp only [Act.put, List.setIfInBounds_toArray, List.set_cons_zero, List.set_cons_succ]
  refine takeD (i := 3) (d := some 117) (v := ?_) rfl rfl (by kernel_rfl) (by kernel_rfl) (by kernel_rfl) (fun _ _ _ h => h) (Or.inl ⟨by rfl, ?y3⟩) HS0 ?_
  case y3 => (intro w' hSw; (try dsimp only at hSw); go_simp; (try with_reducible rfl))
  simp only [Act.put, List.setIfInBounds_toArray, List.set_cons_zero, List.set_cons_succ]
  refine takeD (i := 4) (d := some 118) (v := ?_) rfl rfl (by kernel_rfl) (by kernel_rfl) (by kernel_rfl) (fun _ _ _ h => h) (Or.inl ⟨by rfl, ?y4⟩) HS0 ?_
  case y4 => (intro w' hSw; (try dsimp only at hSw); go_simp; (try with_reducible rfl))
  simp only [Act.put, List.setIfInBounds_toArray, List.set_cons_zero, List.set_cons_succ]
  refine takeD (i := 5) (d := some 119) (v := ?_) rfl rfl (by kernel_rfl) (by kernel_rfl) (by kernel_rfl) (fun _ _ _ h => h) (Or.inl ⟨by rfl, ?y5⟩) HS0 ?_
  case y5 => (intro w' hSw; (try dsimp only at hSw); go_simp; (try with_reducible rfl))
  simp only [Act.put, List.setIfInBounds_toArray, List.set_cons_zero, List.set_cons_succ]
  refine takeD (i := 6) (d := some 120) (v := ?_) rfl rfl (by kernel_rfl) (by kernel_rfl) (by kernel_rfl) (fun _ _ _ h => h) (Or.inl ⟨by rfl, ?y6⟩) HS0 ?_
  case y6 => (intro w' hSw; (try dsimp only at hSw); go_simp; (try with_reducible rfl))
  simp only [Act.put, List.setIfInBounds_toArray, List.set_cons_zero, List.set_cons_succ]
  refine takeD (i := 7) (d := some 121) (v := .int .u64 (nf : Int)) rfl rfl (by kernel_rfl) (by kernel_rfl) (by kernel_rfl) (fun _ _ _ h => h) (Or.inl ⟨by rfl, ?y7⟩) HS0 ?_
  case y7 => (intro w' hSw; (try dsimp only at hSw); go_simp; (try rw [hwn]))
  simp only [Act.put, List.setIfInBounds_toArray, List.set_cons_zero, List.set_cons_succ]
  refine wpAnyH_ready (rs := [0, 8]) (by kernel_rfl) (by simp) ?_
  refine AllReadyH.cons (i := 0) rfl (fun K hK => ?wayL) (AllReadyH.cons (i := 8) rfl (fun K hK => ?wayN) AllReadyH.nil)
  case wayL =>
   rw [if_pos (by rfl)]
   have zl := (show W0.drew.cell? ⟨gl, 0, none⟩ = some (.slice Al rs.length cl) from (zJ1 HP1).lb.cell (i := 0) rfl)
   go_simp
   refine hK.out _ _ (HS0) (fun hHeld => ?_)
   clear hK K HS0
   have HS0 := hHeld
   clear hHeld
   (try simp only [Act.put, List.setIfInBounds_toArray, List.set_cons_zero, List.set_cons_succ])
   clear zl
   refine wpAnyH_ready (rs := [8]) (by kernel_rfl) (by simp) ?_
   refine AllReadyH.cons (i := 8) rfl (fun K hK => ?_) AllReadyH.nil
   rw [if_pos (by rfl)]
   go_simp
   go_at_call 26
   refine ((zJ1 Kr1) _ (show Blk W0.drew gx 66 s.l from ((zJ1 HP1).held _ hgx).1)).mono ?_
   rintro e w7 ⟨rfl, hb7⟩
   have hP7 := (zJ1 HP1).calm (zJn hb7)
   refine hK.out _ _ (hP7.cell hgF (i := 0) rfl) (fun hHeld => ?_)
   clear hK K HS0
   have HS0 := hHeld
   clear hHeld
   (try simp only [Act.put, List.setIfInBounds_toArray, List.set_cons_zero, List.set_cons_succ])
   refine wpAnyH_ready (rs := [9]) (by kernel_rfl) (by simp) ?_
   refine AllReadyH.cons (i := 9) rfl (fun K hK => ?_) AllReadyH.nil
   rw [if_pos (by rfl)]
   go_simp
   refine hK.out _ _ ((hP7.calm (zJ3 _ _)).cell hgF (i := 0) rfl) (fun hHeld => ?_)
   clear hK K HS0
   have HS0 := hHeld
   clear hHeld
   (try simp only [Act.put, List.setIfInBounds_toArray, List.set_cons_zero, List.set_cons_succ])
   refine wpAnyH_ready (rs := [10]) (by kernel_rfl) (by simp) ?_
   refine AllReadyH.cons (i := 10) rfl (fun K hK => ?_) AllReadyH.nil
   rw [if_pos (by rfl)]
   refine yJ1 yJu _ _ rfl w.heap.size (.slice Al rs.length cl) rs.length (rowC rs) rfl hP7.row _ _ rfl (by simp) rfl (yJ5 r1) (by omega) hP7.size ?_
   intro A5 c5 w5 ho5 hg5 ha5
   have hP9 := hP7.push r1 ho5 hg5 ha5
   have zs := (hP7.midL hg5).cell (i := 0) rfl
   have zf := (hP7.midL hg5).free 0
   show K (Act.put _ (some 124) _) _
   refine hK.out _ _ ((hP7.midBlk hg5 hgF).cell (i := 0) rfl) (fun hHeld => ?_)
   clear hK K HS0
   have HS0 := hHeld
   clear hHeld
   (try simp only [Act.put, List.setIfInBounds_toArray, List.set_cons_zero, List.set_cons_succ])
   refine wpAnyH_ready (rs := [11]) (by kernel_rfl) (by simp) ?_
   refine AllReadyH.cons (i := 11) rfl (fun K hK => ?_) AllReadyH.nil
   rw [if_pos (by rfl)]
   go_simp
   refine hK.out _ _ (hP9.cell hgF (i := 0) rfl) (fun hHeld => ?_)
   clear hK K HS0
   have HS0 := hHeld
   clear hHeld
   (try simp only [Act.put, List.setIfInBounds_toArray, List.set_cons_zero, List.set_cons_succ])
   refine wpAnyH_done (by kernel_rfl) ?_ _
   refine NoPanic.normal ?_
   go_wp2_with fail
   go_meet
   case rel => exact ⟨A5, c5, hP9⟩
  case wayN =>
   rw [if_pos (by rfl)]
   go_simp
   go_at_call 26
   refine ((zJ1 Kr1) _ (show Blk W0.drew gx 66 s.l from ((zJ1 HP1).held _ hgx).1)).mono ?_
   rintro e w7 ⟨rfl, hb7⟩
   have hP7 := (zJ1 HP1).calm (zJn hb7)
   refine hK.out _ _ (hP7.cell hgF (i := 0) rfl) (fun hHeld => ?_)
   clear hK K HS0
   have HS0 := hHeld
   clear hHeld
   (try simp only [Act.put, List.setIfInBounds_toArray, List.set_cons_zero, List.set_cons_succ])
   refine wpAnyH_ready (rs := [0, 9]) (by kernel_rfl) (by simp) ?_
   refine AllReadyH.cons (i := 0) rfl (fun K hK => ?wayL) (AllReadyH.cons (i := 9) rfl (fun K hK => ?wayN) AllReadyH.nil)
   case wayL =>
    rw [if_pos (by rfl)]
    have zl := hP7.lb.cell (i := 0) rfl
    go_simp
    refine hK.out _ _ (HS0) (fun hHeld => ?_)
    clear hK K HS0
    have HS0 := hHeld
    clear hHeld
    (try simp only [Act.put, List.setIfInBounds_toArray, List.set_cons_zero, List.set_cons_succ])
    clear zl
    refine wpAnyH_ready (rs := [9]) (by kernel_rfl) (by simp) ?_
    refine AllReadyH.cons (i := 9) rfl (fun K hK => ?_) AllReadyH.nil
    rw [if_pos (by rfl)]
    go_simp
    refine hK.out _ _ ((hP7.calm (zJ3 _ _)).cell hgF (i := 0) rfl) (fun hHeld => ?_)
    clear hK K HS0
    have HS0 := hHeld
    clear hHeld
    (try simp only [Act.put, List.setIfInBounds_toArray, List.set_cons_zero, List.set_cons_succ])
    refine wpAnyH_ready (rs := [10]) (by kernel_rfl) (by simp) ?_
    refine AllReadyH.cons (i := 10) rfl (fun K hK => ?_) AllReadyH.nil
    rw [if_pos (by rfl)]
    refine yJ1 yJu _ _ rfl w.heap.size (.slice Al rs.length cl) rs.length (rowC rs) rfl hP7.row _ _ rfl (by simp) rfl (yJ5 r1) (by omega) hP7.size ?_
    intro A5 c5 w5 ho5 hg5 ha5
    have hP9 := hP7.push r1 ho5 hg5 ha5
    have zs := (hP7.midL hg5).cell (i := 0) rfl
    have zf := (hP7.midL hg5).free 0
    show K (Act.put _ (some 124) _) _
    refine hK.out _ _ ((hP7.midBlk hg5 hgF).cell (i := 0) rfl) (fun hHeld => ?_)
    clear hK K HS0
    have HS0 := hHeld
    clear hHeld
    (try simp only [Act.put, List.setIfInBounds_toArray, List.set_cons_zero, List.set_cons_succ])
    refine wpAnyH_ready (rs := [11]) (by kernel_rfl) (by simp) ?_
    refine AllReadyH.cons (i := 11) rfl (fun K hK => ?_) AllReadyH.nil
    rw [if_pos (by rfl)]
    go_simp
    refine hK.out _ _ (hP9.cell hgF (i := 0) rfl) (fun hHeld => ?_)
    clear hK K HS0
    have HS0 := hHeld
    clear hHeld
    (try simp only [Act.put, List.setIfInBounds_toArray, List.set_cons_zero, List.set_cons_succ])
    refine wpAnyH_done (by kernel_rfl) ?_ _
    refine NoPanic.normal ?_
    go_wp2_with fail
    go_meet
    case rel => exact ⟨A5, c5, hP9⟩
   case wayN =>
    rw [if_pos (by rfl)]
    go_simp
    refine hK.out _ _ ((hP7.calm (zJ3 _ _)).cell hgF (i := 0) rfl) (fun hHeld => ?_)
    clear hK K HS0
    have HS0 := hHeld
    clear hHeld
    (try simp only [Act.put, List.setIfInBounds_toArray, List.set_cons_zero, List.set_cons_succ])
    refine wpAnyH_ready (rs := [0]) (by kernel_rfl) (by simp) ?_
    refine AllReadyH.cons (i := 0) rfl (fun K hK => ?_) AllReadyH.nil
    rw [if_pos (by rfl)]
    have zl := fun c => (hP7.calm (zJ3 w7 c)).lb.cell (i := 0) rfl
    go_simp
    refine hK.out _ _ (HS0) (fun hHeld => ?_)
    clear hK K HS0
    have HS0 := hHeld
    clear hHeld
    (try simp only [Act.put, List.setIfInBounds_toArray, List.set_cons_zero, List.set_cons_succ])
    clear zl
    refine wpAnyH_ready (rs := [10]) (by kernel_rfl) (by simp) ?_
    refine AllReadyH.cons (i := 10) rfl (fun K hK => ?_) AllReadyH.nil
    rw [if_pos (by rfl)]
    refine yJ1 yJu _ _ rfl w.heap.size (.slice Al rs.length cl) rs.length (rowC rs) rfl hP7.row _ _ rfl (by simp) rfl (yJ5 r1) (by omega) hP7.size ?_
    intro A5 c5 w5 ho5 hg5 ha5
    have hP9 := hP7.push r1 ho5 hg5 ha5
    have zs := (hP7.midL hg5).cell (i := 0) rfl
    have zf := (hP7.midL hg5).free 0
    show K (Act.put _ (some 124) _) _
    refine hK.out _ _ ((hP7.midBlk hg5 hgF).cell (i := 0) rfl) (fun hHeld => ?_)
    clear hK K HS0
    have HS0 := hHeld
    clear hHeld
    (try simp only [Act.put, List.setIfInBounds_toArray, List.set_cons_zero, List.set_cons_succ])
    refine wpAnyH_ready (rs := [11]) (by kernel_rfl) (by simp) ?_
    refine AllReadyH.cons (i := 11) rfl (fun K hK => ?_) AllReadyH.nil
    rw [if_pos (by rfl)]
    go_simp
    refine hK.out _ _ (hP9.cell hgF (i := 0) rfl) (fun hHeld => ?_)
    clear hK K HS0
    have HS0 := hHeld
    clear hHeld
    (try simp only [Act.put, List.setIfInBounds_toArray, List.set_cons_zero, List.set_cons_succ])
    refine wpAnyH_done (by kernel_rfl) ?_ _
    refine NoPanic.normal ?_
    go_wp2_with fail
    go_meet
    case rel => exact ⟨A5, c5, hP9⟩
 case rest =>
  obtain ⟨Al2, cl2, hP⟩ := hcut
  obtain ⟨-, -, -, t3, t4, t5, -⟩ := zJ6 (hP.held _ hgx).1
  obtain ⟨r2, hr2⟩ : ∃ r2, rs ++ [r1] = r2 := ⟨_, rfl⟩
  rw [hr2] at hP
  have hr2l : r2.length <= 6 := by
   have h9 : (Mk.rowFirst s.x).length = 1 := rfl
   rw [<- hr2, List.length_append]
   simp only [List.length_cons, List.length_nil]
   omega
  have Hr2 := zJ2 (show r2 = Mk.rowPhdr s.x ++ Mk.rowInterp s.x ++ Mk.rowFirst s.x by
   rw [<- hr2, zJ1 Hrs, <- zJ1 Hr1]
   unfold Mk.rowFirst
   rw [zJ1 Hnf])
  have HP := zJ2 hP
  clear hP hr2 Kr1 y0 HP1 hwn
  go_upto_if 129 with fail
  obtain ⟨bt, hbt⟩ : ∃ bt, decide (0 < s.x.text.length) = bt := ⟨_, rfl⟩
  rw [hbt]
  have Hbt := zJ2 hbt
  clear hbt
  go_cut [] (fun wx => ∃ (Af : Option Addr) (nf cf : Nat) (Al : Option Addr) (cl : Nat) (r3 : List Mk.Row), PmS gO gl w wx Af nf cf (Mk.out1 s.x) Al cl r3 H2 Ad nd cd ds /\ r3 = r2 ++ Mk.rowText s.x)
  case first =>
   cases bt
   case false =>
    have hit : Mk.isText s.x = false := zJ1 Hbt
    have He := zJ2 (show Mk.out1 s.x = Mk.front2 s.x /\ Mk.rowText s.x = [] by unfold Mk.out1 Mk.rowText; rw [hit]; exact ⟨rfl, rfl⟩)
    clear hit
    go_wp2_with fail
    go_meet
    case rel => exact ⟨Af, nf, cf, Al2, cl2, r2, by rw [(zJ1 He).1]; exact zJ1 HP, by rw [(zJ1 He).2, List.append_nil]⟩
   case true =>
    have hit : Mk.isText s.x = true := zJ1 Hbt
    have He := zJ2 (show Mk.out1 s.x = Mk.pad 4096 (Mk.front2 s.x) ++ s.x.text /\ Mk.rowText s.x = [⟨1, 5, (Mk.pad 4096 (Mk.front2 s.x)).length, Mk.base s.x + 65536, s.x.text.length, s.x.text.length, 4096⟩] by unfold Mk.out1 Mk.rowText; rw [hit]; exact ⟨rfl, rfl⟩)
    have KT : Hid (Calls Tryz.prog 30 #[.slice s.At s.x.text.length s.ct, .int .u64 5, .int .u64 65536, .int .u64 0, .pointer (some ⟨go_, 0, none⟩), .pointer (some ⟨gl, 0, none⟩), .pointer (some ⟨gx, 0, none⟩)] wc (BhE gO gl s w (Mk.front2 s.x) r2 H2 Ad nd cd ds s.x.text 5 65536 0)) := zJ2 (vJr s gO gl go_ gx nf cf cl2 nd cd B s.x.text.length s.ct 5 65536 0 Af Al2 Ad s.At (Mk.front2 s.x) s.x.text r2 ds H2 w wc (zJ1 Hx).text (zJ1 HP) hgo hgx hB (by have := zJ1 Hfr; omega) (by omega) (by omega) (by omega) (by omega))
    clear hit
    go_wp2_with fail
    refine (zJ1 KT).mono ?_
    rintro e w5 ⟨rfl, Af5, nf5, cf5, Al5, cl5, hP5⟩
    have HP5 := zJ2 hP5
    clear hP5 KT t3 t4 t5
    go_wp2_with fail
    go_meet
    case rel => exact ⟨Af5, nf5, cf5, Al5, cl5, _, by rw [(zJ1 He).1]; exact zJ1 HP5, by rw [(zJ1 He).2]; rfl⟩
  case rest =>
   obtain ⟨Af3, nf3, cf3, Al3, cl3, r3, hP, hr3⟩ := hcut
   obtain ⟨-, -, -, -, t4, t5, -⟩ := zJ6 (hP.held _ hgx).1
   have hn3 := hP.fi.len
   have hr3l : r3.length + (Mk.rowData s.x).length <= 6 := by
    rw [hr3, zJ1 Hr2, <- zJ1 Hrs]
    simp only [List.length_append] at hlen ⊢
    omega
   have hn3b : (Mk.out1 s.x).length <= 4294967296 := by
    have h1 := zJ1 Hfr
    have h2 := xJj 4096 (by omega) (Mk.front2 s.x)
    unfold Mk.out1
    split
    ·rw [List.length_append]; omega
    ·omega
   have HP3 := zJ2 hP
   have Hr3 := zJ2 hr3
   have Hn3 := zJ2 hn3
   clear hP hr3 hn3 HP t3 Hbt
   go_upto_region 30 with fail
   go_cut [142] (fun v wx => v = .bool (Mk.isData s.x) /\ wx = wc)
   case first =>
    by_cases c1 : 0 < s.x.data.length
    ·have c1i : decide (0 < s.x.data.length) = true := decide_eq_true c1
     have He := zJ2 (show Mk.isData s.x = true by unfold Mk.isData; simp [c1])
     clear c1
     go_wp2_with fail
     go_meet
     case rel => exact ⟨by rw [zJ1 He], rfl⟩
    ·have c1i : decide (0 < s.x.data.length) = false := decide_eq_false c1
     by_cases c2 : 0 < s.x.more
     ·have c2i : decide (0 < s.x.more) = true := decide_eq_true c2
      have He := zJ2 (show Mk.isData s.x = true by unfold Mk.isData; simp [c2])
      clear c1 c2
      go_wp2_with fail
      go_meet
      case rel => exact ⟨by rw [zJ1 He], rfl⟩
     ·have c2i : decide (0 < s.x.more) = false := decide_eq_false c2
      have He := zJ2 (show Mk.isData s.x = false by unfold Mk.isData; simp [c1, c2])
      clear c1 c2
      go_wp2_with fail
      go_meet
      case rel => exact ⟨by rw [zJ1 He], rfl⟩
   case rest =>
    obtain ⟨rfl, rfl⟩ := hcut
    obtain ⟨bd, hbd⟩ : ∃ bd, Mk.isData s.x = bd := ⟨_, rfl⟩
    rw [hbd]
    have Hbd := zJ2 hbd
    clear hbd
    go_upto_if 142 with fail
    go_cut [] (fun wx => ∃ (Af : Option Addr) (nf cf : Nat) (Al : Option Addr) (cl : Nat) (r4 : List Mk.Row), PmS gO gl w wx Af nf cf (Mk.out2 s.x) Al cl r4 H2 Ad nd cd ds /\ r4 = r3 ++ Mk.rowData s.x)
    case first =>
     cases bd
     case false =>
      have He := zJ2 (show Mk.out2 s.x = Mk.out1 s.x /\ Mk.rowData s.x = [] by unfold Mk.out2 Mk.rowData; rw [zJ1 Hbd]; exact ⟨rfl, rfl⟩)
      go_wp2_with fail
      go_meet
      case rel => exact ⟨Af3, nf3, cf3, Al3, cl3, r3, by rw [(zJ1 He).1]; exact zJ1 HP3, by rw [(zJ1 He).2, List.append_nil]⟩
     case true =>
      have He := zJ2 (show Mk.out2 s.x = Mk.pad 4096 (Mk.out1 s.x) ++ s.x.data /\ Mk.rowData s.x = [⟨1, 6, (Mk.pad 4096 (Mk.out1 s.x)).length, Mk.base s.x + 131072, s.x.data.length, s.x.data.length + s.x.more, 4096⟩] by unfold Mk.out2 Mk.rowData; rw [zJ1 Hbd]; exact ⟨rfl, rfl⟩)
      have KD : Hid (Calls Tryz.prog 30 #[.slice s.Ad s.x.data.length s.cd, .int .u64 6, .int .u64 131072, .int .u64 (s.x.more : Nat), .pointer (some ⟨go_, 0, none⟩), .pointer (some ⟨gl, 0, none⟩), .pointer (some ⟨gx, 0, none⟩)] _ (BhE gO gl s w (Mk.out1 s.x) r3 H2 Ad nd cd ds s.x.data 6 131072 s.x.more)) := zJ2 (vJr s gO gl go_ gx nf3 cf3 cl3 nd cd B s.x.data.length s.cd 6 131072 s.x.more Af3 Al3 Ad s.Ad (Mk.out1 s.x) s.x.data r3 ds H2 w _ (zJ1 Hx).data (zJ1 HP3) hgo hgx hB hn3b (by omega) (by omega) (by omega) (by omega))
      go_wp2_with fail
      refine (zJ1 KD).mono ?_
      rintro e w5 ⟨rfl, Af5, nf5, cf5, Al5, cl5, hP5⟩
      have HP5 := zJ2 hP5
      clear hP5 KD t4 t5
      go_wp2_with fail
      go_meet
      case rel => exact ⟨Af5, nf5, cf5, Al5, cl5, _, by rw [(zJ1 He).1]; exact zJ1 HP5, by rw [(zJ1 He).2]⟩
    case rest =>
     obtain ⟨Af4, nf4, cf4, Al4, cl4, r4, hP, hr4⟩ := hcut
     go_step
     exact pmakeD s gO gl go_ gx nf4 cf4 cl4 nd cd Af4 Al4 Ad r4 ds H2 w _ hP hgo hgx (by rw [hr4, zJ1 Hr3, zJ1 Hr2, zJ1 Hds]; rfl) (zJ1 Hmay) (zJ1 Hfr) (zJ1 Hf) (zJ1 Hm) _ _ _ _ _ _ _ _ _ _ _ _ _ _ _ _ _ _ _ _ _ _ _ _ _ _ _ _ _ _ _ _ _ _ _ _ _ _ _ _ _ _ _ _ _ _ _ _ _ _ _ _ _ _ _ _ _ _ _ _ _ _ _ _ _ _ _ _ _ _ _ _ _ _ _ _ _ _ _ _ _ _ _ _ _ _ _ _ _ _ _ _ _ _ _ _ _ _ _ _ _ _ _ _ _ _ _ _ _ _ _ _ _ _ _ _ _ _ _ _ _ _ _ _ _ _ _ _ _ _ _ _ _ _ _ _ _ _ _ _ _ _ _ _ _ _ _ _ _ _ _ _ _ _ _ _ _ _ _ _ _ _ _ _ _
set_option maxRecDepth 100000 in
set_option maxHeartbeats 60000000 in
theorem pmakeB (s : Xq) (gF gl gx nf cf cl B : Nat) (Af Al : Option Addr) (rs : List Mk.Row) (H : List (Nat × TypeId × List Value)) (w wc : World) (hB : B <= w.heap.size) (hx : XqM w B s)
  (h : PmS gF gl w wc Af nf cf (Mk.front1 s.x) Al cl rs H none 0 0 []) (hgx : (gx, 66, s.l) ∈ H) (hrs : rs = Mk.rowPhdr s.x ++ Mk.rowInterp s.x)
  (hmay : Mk.may s.x = 0) (hf : MkFit s) (hm : MayOk s.x)
  (u0 u1 u2 u3 u5 u6 u7 u8 u12 u13 u14 u15 u16 u17 u18 u19 u20 u21 u22 u23 u24 u25 u26 u27 u28 u29 u30 u31 u32 u33 u34 u35 u36 u37 u38 u39 u40 u41 u42 u43 u44 u45 u46 u47 u48 u49 u50 u51 u52 u53 u54 u55 u56 u57 u58 u59 u60 u61 u62 u63 u64 u65 u66 u67 u68 u69 u70 u71 u72 u73 u74 u75 u76 u77 u78 u79 u80 u81 u82 u83 u84 u85 u86 u87 u88 u89 u90 u91 u92 u93 u94 u95 u96 u97 u98 u99 u100 u101 u102 u103 u104 u105 u106 u107 u108 u109 u110 u111 u112 u113 u114 u115 u116 u117 u118 u119 u120 u121 u122 u123 u124 u125 u126 u127 u128 u129 u130 u131 u132 u133 u134 u135 u136 u137 u138 u139 u140 u141 u142 u143 u144 u145 u146 u147 u148 u149 u150 u151 u152 u153 u154 u155 u156 u157 u158 u159 u160 u161 u162 u163 u164 u165 u166 u167 u168 : Value) :
  (dropC 10 (Tryz.f9.body.getD .skip)).wp Tryz.prog (bodyPost Tryz.prog Tryz.f9 (MkE s.x w)) ⟨#[u0, u1, u2, u3, .pointer (some ⟨gx, 0, none⟩), u5, u6, u7, u8, .pointer (some ⟨gF, 0, none⟩), .pointer (some ⟨gl, 0, none⟩), .func (.func 26) #[] #[.pointer (some ⟨gx, 0, none⟩)], u12, u13, u14, u15, u16, u17, u18, u19, u20, u21, u22, u23, u24, u25, u26, u27, u28, u29, u30, u31, u32, u33, u34, u35, u36, u37, u38, u39, u40, u41, u42, u43, u44, u45, u46, u47, u48, u49, u50, u51, u52, u53, u54, u55, u56, u57, u58, u59, u60, u61, u62, u63, u64, u65, u66, u67, u68, u69, u70, u71, u72, u73, u74, u75, u76, u77, u78, u79, u80, u81, u82, u83, u84, u85, u86, u87, u88, u89, u90, u91, u92, u93, u94, u95, u96, u97, u98, u99, u100, u101, u102, u103, u104, u105, u106, u107, u108, u109, u110, u111, u112, u113, u114, u115, u116, u117, u118, u119, u120, u121, u122, u123, u124, u125, u126, u127, u128, u129, u130, u131, u132, u133, u134, u135, u136, u137, u138, u139, u140, u141, u142, u143, u144, u145, u146, u147, u148, u149, u150, u151, u152, u153, u154, u155, u156, u157, u158, u159, u160, u161, u162, u163, u164, u165, u166, u167, u168], []⟩ wc := by
 conv => arg 2; whnf
 have hfr1 := xJ4 s.x
 have hfr0 := yJ9 s.x
 have hmany := xJm s.x
 have hin := hf.interp
 obtain ⟨a0, a1, a2, a3, a4, a5, a6, a7, a8, a9, a10, a11, a12⟩ := zJ6 (h.held _ hgx).1
 have hrm := room_le s.x hm.n1
 have hfl : (Mk.front1 s.x).length <= 1073741824 := by omega
 have Hh := zJ2 h
 have Hf := zJ2 hf
 have Hm := zJ2 hm
 have Hx := zJ2 hx
 clear h hf hm hx
 go_upto_if 88 with fail
 obtain ⟨dy, hdy⟩ : ∃ dy, s.x.dynamic = dy := ⟨_, rfl⟩
 rw [hdy]
 rw [hdy] at a6
 have Hdy := zJ2 hdy
 clear hdy
 go_cut [13] (fun dv wx => ∃ (Af : Option Addr) (nf cf : Nat) (Ad : Option Addr) (nd cd : Nat) (ds : List Mk.Row), dv = .slice Ad nd cd /\ PmS gF gl w wx Af nf cf (Mk.front2 s.x) Al cl rs H Ad nd cd ds /\ ds = Mk.rowDyn s.x)
 case first =>
  cases dy
  case false =>
   have He := zJ2 (show Mk.front2 s.x = Mk.front1 s.x /\ Mk.rowDyn s.x = [] by unfold Mk.front2 Mk.rowDyn; rw [zJ1 Hdy]; exact ⟨rfl, rfl⟩)
   go_wp2_with fail
   go_meet
   case rel => exact ⟨Af, nf, cf, none, 0, 0, [], rfl, by rw [(zJ1 He).1]; exact zJ1 Hh, (zJ1 He).2.symm⟩
  case true =>
   have He := zJ2 (show Mk.front2 s.x = Mk.section_ s.x (Mk.front1 s.x) /\ Mk.rowDyn s.x = [Mk.inRow s.x 2 (Mk.pad 8 (Mk.front1 s.x)).length (Mk.room s.x) 8] by unfold Mk.front2 Mk.rowDyn; rw [zJ1 Hdy]; exact ⟨rfl, rfl⟩)
   have KS : Hid (Calls Tryz.prog 29 #[.agg #[.int .u16 (s.x.type : Nat), .int .u64 (s.x.entry : Nat), .string s.x.interp, .slice s.At s.x.text.length s.ct, .slice s.Ad s.x.data.length s.cd, .int .u64 (s.x.more : Nat), .bool true, .slice s.A1 s.x.dyn.needed.length s.c1, .string s.x.dyn.soname, .string s.x.dyn.run, .slice s.A2 s.x.dyn.syms.length s.c2, .slice s.A3 s.x.dyn.relas.length s.c3, .int .i64 s.x.apart], .pointer (some ⟨gF, 0, none⟩)] wc (SecE s gF w.heap.size [.slice Af nf cf] Af (Mk.front1 s.x) wc)) := zJ2 (by
    have h9 := psection_any s gF w.heap.size nf cf B 16777216 Af (Mk.front1 s.x) wc (by have := (zJ1 Hh).size; omega) ((zJ1 Hx).below ((zJ1 Hh).below.mono hB)) (zJ1 Hh).fi (zJ1 Hh).size hfl (zJ1 Hm) (zJ1 Hf) (zJ1 Hf).texts (by omega)
    unfold Xq.l at h9
    rw [zJ1 Hdy] at h9
    exact h9)
   have hpl := xJj 8 (by omega) (Mk.front1 s.x)
   go_wp2_with fail
   refine (zJ1 KS).mono ?_
   rintro e w5 ⟨A5, n5, c5, rfl, hE⟩
   have hP5 := (zJ1 Hh).front hE
   rw [<- (zJ1 He).1] at hP5
   obtain ⟨p0, hp0⟩ : ∃ p0, (Mk.pad 8 (Mk.front1 s.x)).length = p0 := ⟨_, rfl⟩
   obtain ⟨rm, hrme⟩ : ∃ rm, Mk.room s.x = rm := ⟨_, rfl⟩
   rw [hp0, hrme]
   rw [hp0] at hpl
   rw [hrme] at hrm
   have Hp0 := zJ2 hp0
   have Hrme := zJ2 hrme
   have HP5 := zJ2 hP5
   clear hP5 hE KS hp0 hrme a0 a1 a2 a3 a4 a5 a6 a7 a8 a9 a10 a11 a12
   obtain ⟨r1, hr1⟩ : ∃ r, Mk.inRow s.x 2 p0 rm 8 = r := ⟨_, rfl⟩
   have Kr1 : Hid (∀ W, Blk W gx 66 s.l -> Calls Tryz.prog 26 #[.int .u64 2, .int .u64 (p0 : Nat), .int .u64 (rm : Nat), .int .u64 8, .pointer (some ⟨gx, 0, none⟩)] W fun e w' => e = .returned (.agg #[.int .u64 (r1.kind : Nat), .int .u64 (r1.flags : Nat), .int .u64 (r1.off : Nat), .int .u64 (r1.addr : Nat), .int .u64 (r1.fsz : Nat), .int .u64 (r1.msz : Nat), .int .u64 (r1.align : Nat)]) /\ Below W.heap.size W w') := zJ2 (fun W hW => by have h9 := uJv s gx 2 p0 rm 8 W hW (by omega); rw [hr1] at h9; exact h9)
   have Hr1 := zJ2 hr1
   clear hr1
   have Kr1' := zJ2 ((zJ1 Kr1) w5 ((zJ1 HP5).held _ hgx).1)
   go_wp2_with fail
   refine (zJ1 Kr1').mono ?_
   rintro e w6 ⟨rfl, hb6⟩
   have HP6 := zJ2 ((zJ1 HP5).calm hb6)
   have hs6 := (zJ1 HP6).size
   clear hb6 Kr1 Kr1'
   go_wp2_with (at_builtin; go_loud (refine zJl yJu rfl _ _ rfl w.heap.size (.slice none 0 0) 0 _ rfl (zJ1 HP6).dyn _ _ rfl (by simp) rfl (yJ5 r1) (by omega) hs6 ?_); intro A9 c9 w9 ho9 hg9 hat9; have HP9 := zJ2 ((zJ1 HP6).putDyn r1 ho9 hg9 hat9); clear ho9 hg9 hat9)
   go_meet
   case rel => exact ⟨A5, n5, c5, A9, 1, c9, [r1], rfl, zJ1 HP9, by rw [(zJ1 He).2, <- zJ1 Hr1, zJ1 Hp0, zJ1 Hrme]⟩
 case rest =>
  obtain ⟨Af5, nf5, cf5, Ad, nd, cd, ds, rfl, hP, hds⟩ := hcut
  go_step
  exact pmakeC s gF gl gx nf5 cf5 cl nd cd B Af5 Al Ad rs ds H w wc hB (zJ1 Hx) hP hgx hrs hds hmay (zJ1 Hf) (zJ1 Hm) _ _ _ _ _ _ _ _ _ _ _ _ _ _ _ _ _ _ _ _ _ _ _ _ _ _ _ _ _ _ _ _ _ _ _ _ _ _ _ _ _ _ _ _ _ _ _ _ _ _ _ _ _ _ _ _ _ _ _ _ _ _ _ _ _ _ _ _ _ _ _ _ _ _ _ _ _ _ _ _ _ _ _ _ _ _ _ _ _ _ _ _ _ _ _ _ _ _ _ _ _ _ _ _ _ _ _ _ _ _ _ _ _ _ _ _ _ _ _ _ _ _ _ _ _ _ _ _ _ _ _ _ _ _ _ _ _ _ _ _ _ _ _ _ _ _ _ _ _ _ _ _ _ _ _ _ _ _ _ _ _ _ _ _
end Go.Proofs.YtnbecdahfgkffaaGreat
