/- Texts of the claim LawMakerMakes (MkR8): what the functions that the statement reaches compute, and plain laws of it. Conditions: those that each theorem states. -/
import Derived.Test.YtnbecdahfgkffaaGreatMmK12
import Derived.Test.YtnbecdahfgkffaaGreatMmK3
import Derived.Deep.DeepCutAuto
import Derived.Deep.CutBlock
set_option linter.unusedVariables false
set_option linter.unusedSimpArgs false
namespace Go.Proofs.YtnbecdahfgkffaaGreat
open Go.RowKit
set_option maxRecDepth 100000 in
theorem rbase14_any (k : Nat) (w : World) : Calls Tryz.prog 18 #[.int .u16 k] w fun e w' => e = .returned (.int .u64 (if k = 2 then 4194304 else 0 : Nat)) ∧ w = w' := by
  by_cases h : k = 2
  · subst h
    go_enter Tryz.func18, Tryz.ntmps18
    go_wp2_with fail
    go_ret
    exact ⟨rfl, rfl⟩
  · have h1 : (((k : Nat) : Int) == 2) = false := by rw [beq_eq_false_iff_ne]; omega
    rw [if_neg h]
    clear h
    go_enter Tryz.func18, Tryz.ntmps18
    go_wp2_with fail
    go_ret
    exact ⟨rfl, rfl⟩
set_option maxRecDepth 100000 in
set_option maxHeartbeats 8000000 in
theorem rmay14_any (s : Xq) (B : Nat) (w : World) (hB : B ≤ w.heap.size) (h : XqM w B s) (ho : XqOk s) :
    Calls Tryz.prog 33 #[.agg s.l.toArray] w fun e w' => e = .returned (.int .i64 (Mk.may s.x)) ∧ Below w.heap.size w w' := by
  have hb1 : Below w.heap.size w (w.alloc (.cells #[.int .u16 (s.x.type : Nat), .int .u64 (s.x.entry : Nat), .string s.x.interp, .slice s.At s.x.text.length s.ct, .slice s.Ad s.x.data.length s.cd, .int .u64 (s.x.more : Nat), .bool s.x.dynamic, .slice s.A1 s.x.dyn.needed.length s.c1, .string s.x.dyn.soname, .string s.x.dyn.run, .slice s.A2 s.x.dyn.syms.length s.c2, .slice s.A3 s.x.dyn.relas.length s.c3, .int .i64 s.x.apart] 31)) := (Below.refl _ _).alloc (Nat.le_refl _) _
  have hbl := Blk.new w 31 s.l
  have hty := ho.type
  have hen := ho.entry
  have hmo := ho.more
  have hte := ho.text
  have hin := ho.interp
  have KB := hide (fun W => rbase14_any s.x.type W)
  have Hb1 := hide hb1
  have hxm := h.below (hb1.mono hB)
  have Hx : Hid (∀ W, Below (w.heap.size + 1) (w.alloc (.cells #[.int .u16 (s.x.type : Nat), .int .u64 (s.x.entry : Nat), .string s.x.interp, .slice s.At s.x.text.length s.ct, .slice s.Ad s.x.data.length s.cd, .int .u64 (s.x.more : Nat), .bool s.x.dynamic, .slice s.A1 s.x.dyn.needed.length s.c1, .string s.x.dyn.soname, .string s.x.dyn.run, .slice s.A2 s.x.dyn.syms.length s.c2, .slice s.A3 s.x.dyn.relas.length s.c3, .int .i64 s.x.apart] 31)) W → Blk W w.heap.size 31 s.l ∧ XqM W B s) := hide (fun W hW => ⟨Blk.below (show Blk (w.alloc (.cells #[.int .u16 (s.x.type : Nat), .int .u64 (s.x.entry : Nat), .string s.x.interp, .slice s.At s.x.text.length s.ct, .slice s.Ad s.x.data.length s.cd, .int .u64 (s.x.more : Nat), .bool s.x.dynamic, .slice s.A1 s.x.dyn.needed.length s.c1, .string s.x.dyn.soname, .string s.x.dyn.run, .slice s.A2 s.x.dyn.syms.length s.c2, .slice s.A3 s.x.dyn.relas.length s.c3, .int .i64 s.x.apart] 31)) w.heap.size 31 s.l from hbl) hW (by omega), hxm.below (hW.mono (by omega))⟩)
  have HE1 := hide (show (w.alloc (.cells #[.int .u16 (s.x.type : Nat), .int .u64 (s.x.entry : Nat), .string s.x.interp, .slice s.At s.x.text.length s.ct, .slice s.Ad s.x.data.length s.cd, .int .u64 (s.x.more : Nat), .bool s.x.dynamic, .slice s.A1 s.x.dyn.needed.length s.c1, .string s.x.dyn.soname, .string s.x.dyn.run, .slice s.A2 s.x.dyn.syms.length s.c2, .slice s.A3 s.x.dyn.relas.length s.c3, .int .i64 s.x.apart] 31)).heap.size = w.heap.size + 1 by simp)
  have Hbr := hide (Below.refl (w.heap.size + 1) (w.alloc (.cells #[.int .u16 (s.x.type : Nat), .int .u64 (s.x.entry : Nat), .string s.x.interp, .slice s.At s.x.text.length s.ct, .slice s.Ad s.x.data.length s.cd, .int .u64 (s.x.more : Nat), .bool s.x.dynamic, .slice s.A1 s.x.dyn.needed.length s.c1, .string s.x.dyn.soname, .string s.x.dyn.run, .slice s.A2 s.x.dyn.syms.length s.c2, .slice s.A3 s.x.dyn.relas.length s.c3, .int .i64 s.x.apart] 31)))
  have Ho := hide ho
  have hb4 : Mk.base s.x ≤ 4194304 := by unfold Mk.base; split <;> omega
  have Hbase := hide (show Mk.base s.x = (if s.x.type = 2 then 4194304 else 0) from rfl)
  obtain ⟨a0, a1, a2, a3, a4, a5, a6, a7, a8, a9, a10, a11, a12⟩ := spec_cells ((unhide Hx) _ (unhide Hbr)).1
  show Calls _ _ #[.agg #[.int .u16 (s.x.type : Nat), .int .u64 (s.x.entry : Nat), .string s.x.interp, .slice s.At s.x.text.length s.ct, .slice s.Ad s.x.data.length s.cd, .int .u64 (s.x.more : Nat), .bool s.x.dynamic, .slice s.A1 s.x.dyn.needed.length s.c1, .string s.x.dyn.soname, .string s.x.dyn.run, .slice s.A2 s.x.dyn.syms.length s.c2, .slice s.A3 s.x.dyn.relas.length s.c3, .int .i64 s.x.apart]] w _
  clear hb1 hbl hxm h ho
  go_enter Tryz.func33, Tryz.ntmps33
  go_wp2_with fail
  generalize (w.alloc (.cells #[.int .u16 (s.x.type : Nat), .int .u64 (s.x.entry : Nat), .string s.x.interp, .slice s.At s.x.text.length s.ct, .slice s.Ad s.x.data.length s.cd, .int .u64 (s.x.more : Nat), .bool s.x.dynamic, .slice s.A1 s.x.dyn.needed.length s.c1, .string s.x.dyn.soname, .string s.x.dyn.run, .slice s.A2 s.x.dyn.syms.length s.c2, .slice s.A3 s.x.dyn.relas.length s.c3, .int .i64 s.x.apart] 31)) = W1 at *
  refine ((unhide KB) _).mono ?_
  rintro e w1 ⟨rfl, rfl⟩
  rw [← unhide Hbase]
  have Hwi := hide (show Mk.within s.x = (decide (Mk.base s.x + 65536 ≤ s.x.entry) && decide (s.x.entry - (Mk.base s.x + 65536) < s.x.text.length)) from rfl)
  generalize Mk.base s.x = bs at *
  clear KB
  go_upto_region 2 with fail
  go_cut [4] (fun v wx => v = .bool (Mk.within s.x) ∧ wx = W1)
  case first => as_aux_lemma =>
    by_cases c1 : bs + 65536 ≤ s.x.entry
    · have c1i : ((bs : Int) + 65536 ≤ (s.x.entry : Int)) := by omega
      have c3 : (s.x.entry : Int) - ((bs : Int) + 65536) = ((s.x.entry - (bs + 65536) : Nat) : Int) := by omega
      have c4 : Mk.within s.x = decide (s.x.entry - (bs + 65536) < s.x.text.length) := by rw [unhide Hwi, decide_eq_true c1, Bool.true_and]
      obtain ⟨d, hd⟩ : ∃ d, s.x.entry - (bs + 65536) = d := ⟨_, rfl⟩
      rw [hd] at c3 c4
      have hdl : d < 18446744073709551616 := by omega
      have Hc4 := hide c4
      clear hd c4
      go_wp2_with fail
      go_meet
      case rel => exact ⟨by rw [unhide Hc4], rfl⟩
    · have c1i : ¬ ((bs : Int) + 65536 ≤ (s.x.entry : Int)) := by omega
      have c4 : Mk.within s.x = false := by rw [unhide Hwi, decide_eq_false c1, Bool.false_and]
      have Hc4 := hide c4
      clear c4
      go_wp2_with fail
      go_meet
      case rel => exact ⟨by rw [unhide Hc4], rfl⟩
  case rest =>
    obtain ⟨rfl, rfl⟩ := hcut
    have Hb1d := hide (show Mk.bad1 s.x = ((!(decide (s.x.type = 2) || decide (s.x.type = 3))) || !(Mk.within s.x || (decide (s.x.type = 3) && decide (s.x.entry = 0))) || (decide (s.x.interp.size ≠ 0) && decide (Pth.chk s.x.interp ≠ 0))) from rfl)
    generalize Mk.within s.x = wi at *
    have hchk : Hid (∀ W, Calls Tryz.prog 81 #[.string s.x.interp] W fun e w' => e = .returned (.int .i64 (Pth.chk s.x.interp)) ∧ Below W.heap.size W w') := hide (fun W => rcheck_any s.x.interp hin W)
    have hwc1 : w.heap.size + 1 ≤ wc.heap.size := by rw [unhide HE1]; exact Nat.le_refl _
    go_upto_region 3 with fail
    go_cut [62] (fun v wx => v = .bool (Mk.bad1 s.x) ∧ Below (w.heap.size + 1) wc wx)
    case first => as_aux_lemma =>
      by_cases c2 : s.x.type = 2
      · have q1 : ((s.x.type : Int) != 2) = false := by rw [c2]; rfl
        have q2 : ((s.x.type : Int) == 3) = false := by rw [c2]; rfl
        have He : Mk.bad1 s.x = (!wi || (decide (s.x.interp.size ≠ 0) && decide (Pth.chk s.x.interp ≠ 0))) := by
          rw [unhide Hb1d, c2]
          cases wi <;> simp
        have HE := hide He
        clear He c2
        cases wi
        · have HE2 := hide (show Mk.bad1 s.x = true by rw [unhide HE]; rfl)
          go_wp2_with fail
          go_meet
          case rel => exact ⟨by rw [unhide HE2], Below.refl _ _⟩
        · by_cases ci : s.x.interp.size = 0
          · have q3 := toList_empty ci
            have HE2 := hide (show Mk.bad1 s.x = false by rw [unhide HE]; simp [ci])
            clear ci
            go_wp2_with fail
            go_meet
            case rel => exact ⟨by rw [unhide HE2], Below.refl _ _⟩
          · have q3 := toList_some ci
            have HE2 := hide (show Mk.bad1 s.x = decide (Pth.chk s.x.interp ≠ 0) by rw [unhide HE]; simp [ci])
            clear ci
            go_wp2_with (go_at_call 81; refine ((unhide hchk) _).mono ?_; rintro e w5 ⟨rfl, hb5⟩; have Hb5 := hide hb5; clear hb5)
            go_meet
            case rel => exact ⟨by rw [unhide HE2]; congr 1; by_cases hc : Pth.chk s.x.interp = 0 <;> simp [hc], (unhide Hb5).mono hwc1⟩
      · have q1 : ((s.x.type : Int) != 2) = true := by rw [bne_iff_ne]; omega
        by_cases c3 : s.x.type = 3
        · have q2 : ((s.x.type : Int) != 3) = false := by rw [c3]; rfl
          have q2' : ((s.x.type : Int) == 3) = true := by rw [c3]; rfl
          by_cases c5 : wi = true ∨ s.x.entry = 0
          · have He : Mk.bad1 s.x = (decide (s.x.interp.size ≠ 0) && decide (Pth.chk s.x.interp ≠ 0)) := by
              rw [unhide Hb1d, c3]
              rcases c5 with c5 | c5 <;> simp [c5]
            have HE := hide He
            clear He c2 c3
            cases wi
            · have q4 : ((s.x.entry : Int) == 0) = true := by
                rcases c5 with c5 | c5
                · cases c5
                · rw [c5]; rfl
              clear c5
              by_cases ci : s.x.interp.size = 0
              · have q3 := toList_empty ci
                have HE2 := hide (show Mk.bad1 s.x = false by rw [unhide HE]; simp [ci])
                clear ci
                go_wp2_with fail
                go_meet
                case rel => exact ⟨by rw [unhide HE2], Below.refl _ _⟩
              · have q3 := toList_some ci
                have HE2 := hide (show Mk.bad1 s.x = decide (Pth.chk s.x.interp ≠ 0) by rw [unhide HE]; simp [ci])
                clear ci
                go_wp2_with (go_at_call 81; refine ((unhide hchk) _).mono ?_; rintro e w5 ⟨rfl, hb5⟩; have Hb5 := hide hb5; clear hb5)
                go_meet
                case rel => exact ⟨by rw [unhide HE2]; congr 1; by_cases hc : Pth.chk s.x.interp = 0 <;> simp [hc], (unhide Hb5).mono hwc1⟩
            · clear c5
              by_cases ci : s.x.interp.size = 0
              · have q3 := toList_empty ci
                have HE2 := hide (show Mk.bad1 s.x = false by rw [unhide HE]; simp [ci])
                clear ci
                go_wp2_with fail
                go_meet
                case rel => exact ⟨by rw [unhide HE2], Below.refl _ _⟩
              · have q3 := toList_some ci
                have HE2 := hide (show Mk.bad1 s.x = decide (Pth.chk s.x.interp ≠ 0) by rw [unhide HE]; simp [ci])
                clear ci
                go_wp2_with (go_at_call 81; refine ((unhide hchk) _).mono ?_; rintro e w5 ⟨rfl, hb5⟩; have Hb5 := hide hb5; clear hb5)
                go_meet
                case rel => exact ⟨by rw [unhide HE2]; congr 1; by_cases hc : Pth.chk s.x.interp = 0 <;> simp [hc], (unhide Hb5).mono hwc1⟩
          · have hwf : wi = false := by cases wi; rfl; exact absurd (Or.inl rfl) c5
            have hen0 : s.x.entry ≠ 0 := fun e => c5 (Or.inr e)
            have q4 : ((s.x.entry : Int) == 0) = false := by rw [beq_eq_false_iff_ne]; omega
            have HE : Hid (Mk.bad1 s.x = true) := hide (by rw [unhide Hb1d, c3, hwf]; simp [hen0])
            subst hwf
            clear c2 c3 c5 hen0
            have HE2 := hide (show Mk.bad1 s.x = true by exact unhide HE)
            go_wp2_with fail
            go_meet
            case rel => exact ⟨by rw [unhide HE2], Below.refl _ _⟩
        · have q2 : ((s.x.type : Int) != 3) = true := by rw [bne_iff_ne]; omega
          have HE : Hid (Mk.bad1 s.x = true) := hide (by rw [unhide Hb1d]; simp [c2, c3])
          clear c2 c3
          have HE2 := hide (show Mk.bad1 s.x = true by exact unhide HE)
          go_wp2_with fail
          go_meet
          case rel => exact ⟨by rw [unhide HE2], Below.refl _ _⟩
    case rest =>
      obtain ⟨rfl, hbc⟩ := hcut
      have Hmay := hide (show Mk.may s.x = (if Mk.bad1 s.x = true then 1 else if Mk.bad2 s.x = true then 1 else if Mk.bad s.x.dyn = true then 1 else if Mk.tooBig s.x = true then 12 else 0) from rfl)
      have HW := hide hbc
      clear hbc hchk hwc1
      generalize Mk.bad1 s.x = bd1 at *
      cases bd1
      · obtain ⟨x0, x1, x2, x3, x4, x5, x6, x7, x8, x9, x10, x11, x12⟩ := spec_cells ((unhide Hx) _ (unhide HW)).1
        have hxm := ((unhide Hx) _ (unhide HW)).2
        have hWs := (unhide HW).size
        rw [unhide HE1] at hWs
        go_upto_region 6 with fail
        have hbv : Below wc.heap.size wc (wc.alloc (.cells #[.slice s.A1 s.x.dyn.needed.length s.c1, .string s.x.dyn.soname, .string s.x.dyn.run, .slice s.A2 s.x.dyn.syms.length s.c2, .slice s.A3 s.x.dyn.relas.length s.c3] 29)) := (Below.refl _ _).alloc (Nat.le_refl _) _
        have hdb := Blk.new wc 29 [.slice s.A1 s.x.dyn.needed.length s.c1, .string s.x.dyn.soname, .string s.x.dyn.run, .slice s.A2 s.x.dyn.syms.length s.c2, .slice s.A3 s.x.dyn.relas.length s.c3]
        have hbx := ((unhide Hx) _ (unhide HW)).1.belowSz hbv
        have hvs : wc.heap.size < (wc.alloc (.cells #[.slice s.A1 s.x.dyn.needed.length s.c1, .string s.x.dyn.soname, .string s.x.dyn.run, .slice s.A2 s.x.dyn.syms.length s.c2, .slice s.A3 s.x.dyn.relas.length s.c3] 29)).heap.size := by simp
        have hxv := hxm.below (hbv.mono (by omega))
        have HBV := hide ((unhide HW).trans (hbv.mono hWs))
        generalize (wc.alloc (.cells #[.slice s.A1 s.x.dyn.needed.length s.c1, .string s.x.dyn.soname, .string s.x.dyn.run, .slice s.A2 s.x.dyn.syms.length s.c2, .slice s.A3 s.x.dyn.relas.length s.c3] 29)) = V at *
        generalize wc.heap.size = gd at *
        have HF : Hid (∀ W, Below V.heap.size V W → W.cell? ⟨w.heap.size, 12, none⟩ = some (.int .i64 s.x.apart) ∧ W.cell? ⟨gd, 4, none⟩ = some (.slice s.A3 s.x.dyn.relas.length s.c3)) := hide (fun W hW => ⟨(hbx.belowSz hW).cell (i := 12) rfl, (hdb.belowSz hW).cell (i := 4) rfl⟩)
        have z6 : V.cell? ⟨w.heap.size, 6, none⟩ = some (.bool s.x.dynamic) := hbx.cell (i := 6) rfl
        have z12 : V.cell? ⟨w.heap.size, 12, none⟩ = some (.int .i64 s.x.apart) := hbx.cell (i := 12) rfl
        have d0 := hdb.cell (i := 0) rfl
        have d1 := hdb.cell (i := 1) rfl
        have d2 := hdb.cell (i := 2) rfl
        have d3 := hdb.cell (i := 3) rfl
        have d4 := hdb.cell (i := 4) rfl
        have KS := hide (rsameZ_any s.A1 s.A2 s.A3 s.c1 s.c2 s.c3 s.x.dyn.needed.length s.x.dyn.syms.length s.x.dyn.relas.length s.x.dyn.needed s.x.dyn.soname s.x.dyn.run B V (by omega) rfl (unhide Ho).dyn.n1 (unhide Ho).dyn.n2 (unhide Ho).dyn.n3 hxv.dyn.needed)
        have Hem := hide (show Mk.empty s.x.dyn = (decide (s.x.dyn.needed.length + s.x.dyn.syms.length + s.x.dyn.relas.length = 0) && (decide (s.x.dyn.soname.size = 0) && decide (s.x.dyn.run.size = 0))) from rfl)
        have Hb2d := hide (show Mk.bad2 s.x = ((!s.x.dynamic && !Mk.empty s.x.dyn) || decide (s.x.apart < 0) || decide ((s.x.dyn.relas.length : Int) < s.x.apart)) from rfl)
        rw [← unhide Hem] at KS
        have HdB := hide hdb
        have HxB := hide hbx
        have HxV := hide hxv
        clear hbv hdb hbx hxv hxm HW x0 x1 x2 x3 x4 x5 x6 x7 x8 x9 x10 x11 x12 a0 a1 a2 a3 a4 a5 a6 a7 a8 a9 a10 a11 a12
        generalize Mk.empty s.x.dyn = em at *
        generalize hdy : s.x.dynamic = dy at *
        have Hdy := hide hdy
        clear hdy
        go_cut [86] (fun v wx => v = .bool (Mk.bad2 s.x) ∧ Below V.heap.size V wx)
        case first => as_aux_lemma =>
          cases dy
          · cases em
            · have HE2 := hide (show Mk.bad2 s.x = true by rw [unhide Hb2d]; simp)
              go_wp2_with (go_at_call 21; refine (unhide KS).mono ?_; rintro e w5 ⟨rfl, hb5⟩; obtain ⟨r12, r4⟩ := (unhide HF) _ hb5; have Hb5 := hide hb5; clear hb5)
              go_meet
              case rel => exact ⟨by rw [unhide HE2], unhide Hb5⟩
            · have HE := hide (show Mk.bad2 s.x = (decide (s.x.apart < 0) || decide ((s.x.dyn.relas.length : Int) < s.x.apart)) by rw [unhide Hb2d]; simp)
              by_cases ca : s.x.apart < 0
              · have HE2 := hide (show Mk.bad2 s.x = true by rw [unhide HE]; simp [ca])
                have Hca := hide ca
                go_wp2_with (go_at_call 21; refine (unhide KS).mono ?_; rintro e w5 ⟨rfl, hb5⟩; obtain ⟨r12, r4⟩ := (unhide HF) _ hb5; have Hb5 := hide hb5; clear hb5)
                go_meet
                case rel => exact ⟨by rw [unhide HE2], unhide Hb5⟩
              · by_cases cb : (s.x.dyn.relas.length : Int) < s.x.apart
                · have HE2 := hide (show Mk.bad2 s.x = true by rw [unhide HE]; simp [cb])
                  go_wp2_with (go_at_call 21; refine (unhide KS).mono ?_; rintro e w5 ⟨rfl, hb5⟩; obtain ⟨r12, r4⟩ := (unhide HF) _ hb5; have Hb5 := hide hb5; clear hb5)
                  go_meet
                  case rel => exact ⟨by rw [unhide HE2], unhide Hb5⟩
                · have HE2 := hide (show Mk.bad2 s.x = false by rw [unhide HE]; simp [ca, cb])
                  go_wp2_with (go_at_call 21; refine (unhide KS).mono ?_; rintro e w5 ⟨rfl, hb5⟩; obtain ⟨r12, r4⟩ := (unhide HF) _ hb5; have Hb5 := hide hb5; clear hb5)
                  go_meet
                  case rel => exact ⟨by rw [unhide HE2]; (try simp [ca, cb]), unhide Hb5⟩
          · have HE := hide (show Mk.bad2 s.x = (decide (s.x.apart < 0) || decide ((s.x.dyn.relas.length : Int) < s.x.apart)) by rw [unhide Hb2d]; simp)
            by_cases ca : s.x.apart < 0
            · have HE2 := hide (show Mk.bad2 s.x = true by rw [unhide HE]; simp [ca])
              have Hca := hide ca
              go_wp2_with fail
              go_meet
              case rel => exact ⟨by rw [unhide HE2], Below.refl _ _⟩
            · by_cases cb : (s.x.dyn.relas.length : Int) < s.x.apart
              · have HE2 := hide (show Mk.bad2 s.x = true by rw [unhide HE]; simp [cb])
                go_wp2_with fail
                go_meet
                case rel => exact ⟨by rw [unhide HE2], Below.refl _ _⟩
              · have HE2 := hide (show Mk.bad2 s.x = false by rw [unhide HE]; simp [ca, cb])
                go_wp2_with fail
                go_meet
                case rel => exact ⟨by rw [unhide HE2]; (try simp [ca, cb]), Below.refl _ _⟩
        case rest =>
          obtain ⟨rfl, hbc⟩ := hcut
          have HBW := hide ((unhide HBV).trans (hbc.mono (by have := (unhide HBV).size; omega)))
          have HdB2 := hide ((unhide HdB).belowSz hbc)
          have HxB2 := hide ((unhide HxB).belowSz hbc)
          have HxV2 := hide ((unhide HxV).below (hbc.mono (by omega)))
          have hvw := hbc.size
          clear HF z6 z12 d0 d1 d2 d3 d4 KS Hem Hb2d HdB HxB HxV hbc
          generalize Mk.bad2 s.x = bd2 at *
          cases bd2
          case true =>
            have HM : Hid (Mk.may s.x = 1) := hide (by rw [unhide Hmay]; rfl)
            go_wp2_with fail
            go_ret
            exact ⟨ret_int (unhide HM).symm, (unhide Hb1).trans ((unhide HBW).mono (by omega))⟩
          have d1 := (unhide HdB2).cell (i := 1) rfl
          have d2 := (unhide HdB2).cell (i := 2) rfl
          have KH := hide (fun (x : ByteArray) (W : World) (hx : x.size ≤ 4294967296) => rhas_any x W hx)
          have KHs := hide (fun W => (unhide KH) s.x.dyn.soname W (unhide Ho).dyn.s3)
          have KHr := hide (fun W => (unhide KH) s.x.dyn.run W (unhide Ho).dyn.s4)
          have Hbad := hide (show Mk.bad s.x.dyn = (Mk.has s.x.dyn.soname || Mk.has s.x.dyn.run || s.x.dyn.needed.any Mk.has || s.x.dyn.syms.any Mk.badSym || s.x.dyn.relas.any (Mk.badRel s.x.dyn.syms.length)) from rfl)
          generalize Mk.has s.x.dyn.soname = h1 at *
          generalize Mk.has s.x.dyn.run = h2 at *
          go_upto_region 8 with fail
          go_cut [6] (fun v wx => v = .bool (h1 || h2) ∧ wx = wc)
          case first =>
            cases h1
            · go_wp2_with (first | (go_at_call 82; with_reducible (refine ((unhide KHs) _).mono ?_); rintro e w6 ⟨rfl, rfl⟩) | (go_at_call 82; with_reducible (refine ((unhide KHr) _).mono ?_); rintro e w6 ⟨rfl, rfl⟩))
              go_meet
              case rel => exact ⟨by simp, rfl⟩
            · go_wp2_with (first | (go_at_call 82; with_reducible (refine ((unhide KHs) _).mono ?_); rintro e w6 ⟨rfl, rfl⟩) | (go_at_call 82; with_reducible (refine ((unhide KHr) _).mono ?_); rintro e w6 ⟨rfl, rfl⟩))
              go_meet
              case rel => exact ⟨by simp, rfl⟩
          case rest =>
            obtain ⟨rfl, rfl⟩ := hcut
            generalize (h1 || h2) = hs at *
            clear KHs KHr d1 d2
            have d0 := (unhide HdB2).cell (i := 0) rfl
            have n1 : s.x.dyn.needed.length ≤ 4294967296 := (unhide Ho).dyn.n1
            go_upto_block 0 with fail
            go_cut [6, 7] (fun v iv wx => v = .bool (hs || s.x.dyn.needed.any Mk.has) ∧ wx = wc)
            case first => as_aux_lemma =>
              go_wp2_with fail
              go_loopg [6, 7] s.x.dyn.needed.length (fun gk bv iv wr => ∃ i : Nat, gk = s.x.dyn.needed.length - i ∧ i ≤ s.x.dyn.needed.length ∧ iv = .int .i64 i ∧ bv = .bool (hs || (s.x.dyn.needed.take i).any Mk.has) ∧ wr = wc)
              case atStart => exact ⟨0, by omega, by omega, rfl, by simp, rfl⟩
              case round =>
              obtain ⟨i, hgk, hi, rfl, rfl, rfl⟩ := hrel
              have Hgk := hide hgk
              clear hgk
              by_cases hlt : i < s.x.dyn.needed.length
              · obtain ⟨x, hx⟩ : ∃ x, s.x.dyn.needed[i]? = some x := ⟨_, List.getElem?_eq_getElem hlt⟩
                have htk : (s.x.dyn.needed.take (i + 1)).any Mk.has = ((s.x.dyn.needed.take i).any Mk.has || Mk.has x) := by rw [List.take_add_one, hx, List.any_append]; simp
                have hrest : (s.x.dyn.needed.take i).any Mk.has = true → s.x.dyn.needed.any Mk.has = true := fun h9 => by
                  rw [← List.take_append_drop i s.x.dyn.needed, List.any_append, h9]; rfl
                obtain ⟨b1, o1, hA1, hb1, st⟩ := (unhide HxV2).dyn.needed.at_ (k := i) (u := .string x) (by show (s.x.dyn.needed.map Value.string)[i]? = _; simp [hx])
                have hA1' : s.A1 = some ⟨b1, o1, none⟩ := hA1
                rw [hA1'] at d0
                have KHx := hide (fun W => (unhide KH) x W ((unhide Ho).dyn.s1 x (List.mem_of_getElem? hx)))
                have Htk := hide htk
                have Hrest := hide hrest
                have ilt : (i : Int) < (s.x.dyn.needed.length : Int) := by omega
                clear hA1 hA1' hx htk hrest
                generalize (s.x.dyn.needed.take i).any Mk.has = tk at *
                obtain ⟨bb, hbb⟩ : ∃ bb, (hs || tk) = bb := ⟨_, rfl⟩
                rw [hbb]
                cases bb
                · have HB0 := hide hbb
                  clear hbb
                  go_wp2_with (go_at_call 82; with_reducible (refine ((unhide KHx) _).mono ?_); rintro e w6 ⟨rfl, rfl⟩)
                  go_roundg (s.x.dyn.needed.length - (i + 1))
                  case measure => have := unhide Hgk; omega
                  case rel => exact ⟨i + 1, rfl, by omega, by go_num, by
                    have h9 := unhide HB0
                    rw [Bool.or_eq_false_iff] at h9
                    rw [unhide Htk, h9.1, h9.2]
                    simp, rfl⟩
                · have HB0 := hide hbb
                  clear hbb
                  go_wp2_with fail
                  go_meet
                  case rel => exact ⟨by
                    have h9 := unhide HB0
                    rcases Bool.or_eq_true_iff.1 h9 with h9 | h9
                    · rw [h9]; rfl
                    · rw [(unhide Hrest) h9]; simp, rfl⟩
              · obtain rfl : i = s.x.dyn.needed.length := by omega
                have ige : ¬ ((s.x.dyn.needed.length : Nat) : Int) < ((s.x.dyn.needed.length : Nat) : Int) := by omega
                rw [List.take_length]
                go_wp2_with fail
                go_meet
                case rel => exact ⟨rfl, rfl⟩
            case rest =>
              obtain ⟨rfl, rfl⟩ := hcut
              generalize (hs || s.x.dyn.needed.any Mk.has) = hs2 at *
              have d3 := (unhide HdB2).cell (i := 3) rfl
              have n2 : s.x.dyn.syms.length ≤ 4294967296 := (unhide Ho).dyn.n2
              try clear d0
              go_upto_block 2 with fail
              go_cut [6, 8] (fun v iv wx => v = .bool (hs2 || s.x.dyn.syms.any Mk.badSym) ∧ wx = wc)
              case first => as_aux_lemma =>
                go_wp2_with fail
                go_loopg [6, 8] s.x.dyn.syms.length (fun gk bv iv wr => ∃ i : Nat, gk = s.x.dyn.syms.length - i ∧ i ≤ s.x.dyn.syms.length ∧ iv = .int .i64 i ∧ bv = .bool (hs2 || (s.x.dyn.syms.take i).any Mk.badSym) ∧ wr = wc)
                case atStart => exact ⟨0, by omega, by omega, rfl, by simp, rfl⟩
                case round =>
                obtain ⟨i, hgk, hi, rfl, rfl, rfl⟩ := hrel
                have Hgk := hide hgk
                clear hgk
                by_cases hlt : i < s.x.dyn.syms.length
                · obtain ⟨x, hx⟩ : ∃ x, s.x.dyn.syms[i]? = some x := ⟨_, List.getElem?_eq_getElem hlt⟩
                  have htk : (s.x.dyn.syms.take (i + 1)).any Mk.badSym = ((s.x.dyn.syms.take i).any Mk.badSym || (Mk.has x.name || decide (2 < x.bind))) := by rw [List.take_add_one, hx, List.any_append]; simp [Mk.badSym]
                  have hrest : (s.x.dyn.syms.take i).any Mk.badSym = true → s.x.dyn.syms.any Mk.badSym = true := fun h9 => by
                    rw [← List.take_append_drop i s.x.dyn.syms, List.any_append, h9]; rfl
                  obtain ⟨b1, o1, hA1, hb1, st, -, -, st3, -⟩ := mksym_at (unhide HxV2).dyn.syms hx
                  have hA1' : s.A2 = some ⟨b1, o1, none⟩ := hA1
                  rw [hA1'] at d3
                  have KHx := hide (fun W => (unhide KH) x.name W ((unhide Ho).dyn.s2 x (List.mem_of_getElem? hx)))
                  have Htk := hide htk
                  have Hrest := hide hrest
                  have ilt : (i : Int) < (s.x.dyn.syms.length : Int) := by omega
                  clear hA1 hA1' hx htk hrest
                  generalize (s.x.dyn.syms.take i).any Mk.badSym = tk at *
                  obtain ⟨bb, hbb⟩ : ∃ bb, (hs2 || tk) = bb := ⟨_, rfl⟩
                  rw [hbb]
                  generalize x.name = nm at *
                  generalize x.bind = bn at *
                  cases bb
                  · have HB0 := hide hbb
                    clear hbb
                    generalize Mk.has nm = hn at *
                    cases hn
                    · by_cases c2 : 2 < bn
                      · have c2i : (2 : Int) < (bn : Int) := by omega
                        have C2 := hide c2
                        go_wp2_with (go_at_call 82; with_reducible (refine ((unhide KHx) _).mono ?_); rintro e w6 ⟨rfl, rfl⟩)
                        go_roundg (s.x.dyn.syms.length - (i + 1))
                        case measure => have := unhide Hgk; omega
                        case rel => exact ⟨i + 1, rfl, by omega, by go_num, by
                          have h9 := unhide HB0
                          rw [Bool.or_eq_false_iff] at h9
                          rw [unhide Htk, h9.1, h9.2, decide_eq_true (unhide C2)]
                          rfl, rfl⟩
                      · have c2i : ¬ (2 : Int) < (bn : Int) := by omega
                        have C2 := hide c2
                        go_wp2_with (go_at_call 82; with_reducible (refine ((unhide KHx) _).mono ?_); rintro e w6 ⟨rfl, rfl⟩)
                        go_roundg (s.x.dyn.syms.length - (i + 1))
                        case measure => have := unhide Hgk; omega
                        case rel => exact ⟨i + 1, rfl, by omega, by go_num, by
                          have h9 := unhide HB0
                          rw [Bool.or_eq_false_iff] at h9
                          rw [unhide Htk, h9.1, h9.2, decide_eq_false (unhide C2)]
                          first | rfl | (have c := unhide C2; simp; omega), rfl⟩
                    · go_wp2_with (go_at_call 82; with_reducible (refine ((unhide KHx) _).mono ?_); rintro e w6 ⟨rfl, rfl⟩)
                      go_roundg (s.x.dyn.syms.length - (i + 1))
                      case measure => have := unhide Hgk; omega
                      case rel => exact ⟨i + 1, rfl, by omega, by go_num, by
                        have h9 := unhide HB0
                        rw [Bool.or_eq_false_iff] at h9
                        rw [unhide Htk, h9.1, h9.2]
                        rfl, rfl⟩
                  · have HB0 := hide hbb
                    clear hbb
                    go_wp2_with fail
                    go_meet
                    case rel => exact ⟨by
                      have h9 := unhide HB0
                      rcases Bool.or_eq_true_iff.1 h9 with h9 | h9
                      · rw [h9]; rfl
                      · rw [(unhide Hrest) h9]; simp, rfl⟩
                · obtain rfl : i = s.x.dyn.syms.length := by omega
                  have ige : ¬ ((s.x.dyn.syms.length : Nat) : Int) < ((s.x.dyn.syms.length : Nat) : Int) := by omega
                  rw [List.take_length]
                  go_wp2_with fail
                  go_meet
                  case rel => exact ⟨rfl, rfl⟩
              case rest =>
                obtain ⟨rfl, rfl⟩ := hcut
                generalize (hs2 || s.x.dyn.syms.any Mk.badSym) = hs3 at *
                have d4 := (unhide HdB2).cell (i := 4) rfl
                have n3 : s.x.dyn.relas.length ≤ 4294967296 := (unhide Ho).dyn.n3
                go_upto_block 4 with fail
                go_cut [6, 9] (fun v iv wx => v = .bool (hs3 || s.x.dyn.relas.any (Mk.badRel s.x.dyn.syms.length)) ∧ ∃ nq, wx = wc.drewN nq)
                case first => as_aux_lemma =>
                  go_wp2_with fail
                  go_loopg [6, 9] s.x.dyn.relas.length (fun gk bv iv wr => ∃ i nq : Nat, gk = s.x.dyn.relas.length - i ∧ i ≤ s.x.dyn.relas.length ∧ iv = .int .i64 i ∧ bv = .bool (hs3 || (s.x.dyn.relas.take i).any (Mk.badRel s.x.dyn.syms.length)) ∧ wr = wc.drewN nq)
                  case atStart => exact ⟨0, 0, by omega, by omega, rfl, by simp, rfl⟩
                  case round =>
                  obtain ⟨i, nq, hgk, hi, rfl, rfl, rfl⟩ := hrel
                  have Hgk := hide hgk
                  clear hgk
                  by_cases hlt : i < s.x.dyn.relas.length
                  · obtain ⟨x, hx⟩ : ∃ x, s.x.dyn.relas[i]? = some x := ⟨_, List.getElem?_eq_getElem hlt⟩
                    have htk : (s.x.dyn.relas.take (i + 1)).any (Mk.badRel s.x.dyn.syms.length) = ((s.x.dyn.relas.take i).any (Mk.badRel s.x.dyn.syms.length) || (decide (x.sym < 0) || decide ((s.x.dyn.syms.length : Int) < x.sym))) := by rw [List.take_add_one, hx, List.any_append]; simp [Mk.badRel]
                    have hrest : (s.x.dyn.relas.take i).any (Mk.badRel s.x.dyn.syms.length) = true → s.x.dyn.relas.any (Mk.badRel s.x.dyn.syms.length) = true := fun h9 => by
                      rw [← List.take_append_drop i s.x.dyn.relas, List.any_append, h9]; rfl
                    obtain ⟨b1, o1, hA1, hb1, -, -, st0, -⟩ := mkrel_at (unhide HxV2).dyn.relas hx
                    have hA1' : s.A3 = some ⟨b1, o1, none⟩ := hA1
                    rw [hA1'] at d4
                    have st := st0
                    have Htk := hide htk
                    have Hrest := hide hrest
                    have ilt : (i : Int) < (s.x.dyn.relas.length : Int) := by omega
                    clear hA1 hA1' hx htk hrest st0
                    generalize (s.x.dyn.relas.take i).any (Mk.badRel s.x.dyn.syms.length) = tk at *
                    obtain ⟨bb, hbb⟩ : ∃ bb, (hs3 || tk) = bb := ⟨_, rfl⟩
                    rw [hbb]
                    generalize x.sym = sm at *
                    cases bb
                    · have HB0 := hide hbb
                      clear hbb
                      by_cases c2 : sm < 0
                      · have C2 := hide c2
                        have c2b : decide (sm < 0) = true := decide_eq_true c2
                        go_wp2_with fail
                        go_quiet (fail)
                        go_wp2_with fail
                        go_roundg (s.x.dyn.relas.length - (i + 1))
                        case measure => have := unhide Hgk; omega
                        case rel => exact ⟨i + 1, _, rfl, by omega, by go_num, by
                          have h9 := unhide HB0
                          rw [Bool.or_eq_false_iff] at h9
                          have c := unhide C2
                          rw [unhide Htk, h9.1, h9.2]
                          first | rfl | (simp [c]; done) | (simp; omega), rfl⟩
                      · have c2b : decide (sm < 0) = false := decide_eq_false c2
                        by_cases c3 : (s.x.dyn.syms.length : Int) < sm
                        · have C2 := hide (And.intro c2 c3)
                          go_wp2_with fail
                          go_quiet (fail)
                          go_wp2_with fail
                          go_roundg (s.x.dyn.relas.length - (i + 1))
                          case measure => have := unhide Hgk; omega
                          case rel => exact ⟨i + 1, _, rfl, by omega, by go_num, by
                            have h9 := unhide HB0
                            rw [Bool.or_eq_false_iff] at h9
                            have c := unhide C2
                            rw [unhide Htk, h9.1, h9.2]
                            first | rfl | (simp [c]; done) | (simp; omega), rfl⟩
                        · have C2 := hide (And.intro c2 c3)
                          go_wp2_with fail
                          go_quiet (fail)
                          go_wp2_with fail
                          go_roundg (s.x.dyn.relas.length - (i + 1))
                          case measure => have := unhide Hgk; omega
                          case rel => exact ⟨i + 1, _, rfl, by omega, by go_num, by
                            have h9 := unhide HB0
                            rw [Bool.or_eq_false_iff] at h9
                            have c := unhide C2
                            rw [unhide Htk, h9.1, h9.2]
                            first | rfl | (simp [c]; done) | (simp; omega), rfl⟩
                    · have HB0 := hide hbb
                      clear hbb
                      go_wp2_with fail
                      go_meet
                      case rel => exact ⟨by
                        have h9 := unhide HB0
                        rcases Bool.or_eq_true_iff.1 h9 with h9 | h9
                        · rw [h9]; rfl
                        · rw [(unhide Hrest) h9]; simp, _, rfl⟩
                  · obtain rfl : i = s.x.dyn.relas.length := by omega
                    have ige : ¬ ((s.x.dyn.relas.length : Nat) : Int) < ((s.x.dyn.relas.length : Nat) : Int) := by omega
                    rw [List.take_length]
                    go_wp2_with fail
                    go_meet
                    case rel => exact ⟨rfl, _, rfl⟩
                case rest =>
                  obtain ⟨rfl, nq, rfl⟩ := hcut
                  generalize (hs3 || s.x.dyn.relas.any (Mk.badRel s.x.dyn.syms.length)) = bd at *
                  clear d3 d4
                  cases bd
                  case true =>
                    have HM : Hid (Mk.may s.x = 1) := hide (by rw [unhide Hmay, unhide Hbad]; rfl)
                    go_wp2_with fail
                    go_ret
                    exact ⟨ret_int (unhide HM).symm, below_drewN' ((unhide Hb1).trans ((unhide HBW).mono (by omega))) nq⟩
                  have HM : Hid (Mk.may s.x = (if Mk.tooBig s.x = true then 12 else 0)) := hide (by rw [unhide Hmay, unhide Hbad]; rfl)
                  have Htb := hide (show Mk.tooBig s.x = (decide (8 < s.x.dyn.needed.length) || decide (64 < s.x.dyn.syms.length) || decide (64 < s.x.dyn.relas.length) || decide (65536 < s.x.text.length) || decide (1048576 < s.x.more)) from rfl)
                  have d0 := (unhide HdB2).cell (i := 0) rfl
                  have d3 := (unhide HdB2).cell (i := 3) rfl
                  have d4 := (unhide HdB2).cell (i := 4) rfl
                  obtain ⟨-, -, -, x3, -, x5, -⟩ := spec_cells (unhide HxB2)
                  by_cases e0 : 8 < s.x.dyn.needed.length
                  · have f0 : (8 : Int) < (s.x.dyn.needed.length : Int) := by omega
                    have HT : Hid (Mk.may s.x = 12) := hide (by rw [unhide HM, unhide Htb]; simp [e0])
                    clear e0
                    go_wp2_with fail
                    go_ret
                    exact ⟨ret_int (unhide HT).symm, below_drewN' ((unhide Hb1).trans ((unhide HBW).mono (by omega))) nq⟩
                  · have f0 : ¬ (8 : Int) < (s.x.dyn.needed.length : Int) := by omega
                    by_cases e1 : 64 < s.x.dyn.syms.length
                    · have f1 : (64 : Int) < (s.x.dyn.syms.length : Int) := by omega
                      have HT : Hid (Mk.may s.x = 12) := hide (by rw [unhide HM, unhide Htb]; simp [e1])
                      clear e1
                      go_wp2_with fail
                      go_ret
                      exact ⟨ret_int (unhide HT).symm, below_drewN' ((unhide Hb1).trans ((unhide HBW).mono (by omega))) nq⟩
                    · have f1 : ¬ (64 : Int) < (s.x.dyn.syms.length : Int) := by omega
                      by_cases e2 : 64 < s.x.dyn.relas.length
                      · have f2 : (64 : Int) < (s.x.dyn.relas.length : Int) := by omega
                        have HT : Hid (Mk.may s.x = 12) := hide (by rw [unhide HM, unhide Htb]; simp [e2])
                        clear e2
                        go_wp2_with fail
                        go_ret
                        exact ⟨ret_int (unhide HT).symm, below_drewN' ((unhide Hb1).trans ((unhide HBW).mono (by omega))) nq⟩
                      · have f2 : ¬ (64 : Int) < (s.x.dyn.relas.length : Int) := by omega
                        by_cases e3 : 65536 < s.x.text.length
                        · have f3 : (65536 : Int) < (s.x.text.length : Int) := by omega
                          have HT : Hid (Mk.may s.x = 12) := hide (by rw [unhide HM, unhide Htb]; simp [e3])
                          clear e3
                          go_wp2_with fail
                          go_ret
                          exact ⟨ret_int (unhide HT).symm, below_drewN' ((unhide Hb1).trans ((unhide HBW).mono (by omega))) nq⟩
                        · have f3 : ¬ (65536 : Int) < (s.x.text.length : Int) := by omega
                          by_cases e4 : 1048576 < s.x.more
                          · have f4 : (1048576 : Int) < (s.x.more : Int) := by omega
                            have HT : Hid (Mk.may s.x = 12) := hide (by rw [unhide HM, unhide Htb]; simp [e4])
                            clear e4
                            go_wp2_with fail
                            go_ret
                            exact ⟨ret_int (unhide HT).symm, below_drewN' ((unhide Hb1).trans ((unhide HBW).mono (by omega))) nq⟩
                          · have f4 : ¬ (1048576 : Int) < (s.x.more : Int) := by omega
                            have HT : Hid (Mk.may s.x = 0) := hide (by rw [unhide HM, unhide Htb]; simp [e0, e1, e2, e3, e4])
                            clear e0 e1 e2 e3 e4
                            go_wp2_with fail
                            go_ret
                            exact ⟨ret_int (unhide HT).symm, below_drewN' ((unhide Hb1).trans ((unhide HBW).mono (by omega))) nq⟩
      · have HM : Hid (Mk.may s.x = 1) := hide (by rw [unhide Hmay, if_pos rfl])
        go_wp2_with fail
        go_ret
        exact ⟨ret_int (unhide HM).symm, (unhide Hb1).trans ((unhide HW).mono (by omega))⟩
end Go.Proofs.YtnbecdahfgkffaaGreat
