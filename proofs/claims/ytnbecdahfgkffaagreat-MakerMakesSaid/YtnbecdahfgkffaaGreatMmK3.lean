/- Texts of the claim LawMakerMakes (MkR3, MkR4, MkR5, MkR4b, MkR6, MkR6b, PathsC, Paths, Paths2, Eq, RefC, PathsRef): what the functions that the statement reaches compute, and plain laws of it. Conditions: those that each theorem states. -/
import Derived.Test.YtnbecdahfgkffaaGreatMmK2
import Derived.Test.YtnbecdahfgkffaaGreatMmK1
import Derived.Laws.CopyRow
import Derived.Deep.DeepCutAuto
import Derived.Deep.CutBlock
import Derived.Test.YtnbecdahfgkffaaGreatProg
import Derived.Test.YtnbecdahfgkffaaGreatShelf
import Derived.Lib.IndexAny
import Derived.WalkLawsBesides
import Derived.WalkSpells
import Derived.Deep.RegionWith
import Derived.BigQuiet
import Derived.Deep.QuietTactic
set_option linter.unusedVariables false
set_option linter.unusedSimpArgs false
namespace Go.Proofs.YtnbecdahfgkffaaGreat
open Go.RowKit
theorem rbytes14_c (x s : Nat) (v sv : Int) (hv : v = (x : Nat)) (hsv : sv = (s : Nat)) (w : World) (hx : x < 18446744073709551616) (hs : s = 1 ∨ s = 2 ∨ s = 4 ∨ s = 8) :
    Calls Tryz.prog 89 #[.int .u64 v, .int .i64 sv] w fun e w' => ∃ A' c', e = .returned (.slice A' s c') ∧ w'.ownsRow w.heap.size 5 1 (.slice A' s c') s (bys (Cl.lb x s)) ∧ Below w.heap.size w w' := by
  subst hv hsv
  exact rbytes14_any x s w hx hs
theorem Grew.refl {w : World} {base n c : Nat} {A : Option Addr} {xs : List UInt8} (h : w.ownsRow base 5 1 (.slice A n c) n (bys xs)) : Grew w w base (.slice A n c) (.slice A n c) n xs := ⟨h, World.grownBy.refl w _, fun k hk => .inl hk⟩
structure MrOk (r : Mk.Rel) : Prop where
  off : r.off < 18446744073709551616
  type : r.type < 4294967296
theorem word_cast (x : Int) : IntKind.u64.wrap x = ((Mk.word x : Nat) : Int) := by
  unfold Mk.word
  rw [IntKind.wrap_u64]
  omega
theorem word_lt (x : Int) : Mk.word x < 18446744073709551616 := by unfold Mk.word; omega
theorem relsB_next {l : List Mk.Rel} {j : Nat} {x : Mk.Rel} (h : l[j]? = some x) : Mk.relsB (l.take (j + 1)) = Mk.relsB (l.take j) ++ Mk.relB x := by
  unfold Mk.relsB
  rw [List.take_add_one, h, List.flatMap_append]
  simp
-- PIECE
set_option maxRecDepth 100000 in
set_option maxHeartbeats 8000000 in
theorem rrelas_any' (A : Option Addr) (n c B : Nat) (l : List Mk.Rel) (w : World) (hB : B ≤ w.heap.size) (h : Rd w B 4 A n (mrC l)) (hl : l.length = n) (hn : n ≤ 4294967296) (ho : ∀ r ∈ l, MrOk r) :
    Calls Tryz.prog 88 #[.slice A n c] w fun e w' => ∃ A' c', e = .returned (.slice A' (24 * n) c') ∧ w'.ownsRow w.heap.size 5 1 (.slice A' (24 * n) c') (24 * n) (bys (Mk.relsB l)) ∧ Below w.heap.size w w' := by
  have H := hide h
  have Hl := hide hl
  have Ho := hide ho
  clear h hl ho
  go_enter Tryz.func88, Tryz.ntmps88
  go_wp2_with fail
  go_loopg [3, 4] n (fun gk bv iv wr => ∃ (j : Nat) (A0 : Option Addr) (c0 : Nat), gk = n - j ∧ j ≤ n ∧ iv = .int .i64 j ∧ bv = .slice A0 (24 * j) c0 ∧ wr.ownsRow w.heap.size 5 1 (.slice A0 (24 * j) c0) (24 * j) (bys (Mk.relsB (l.take j))) ∧ Below w.heap.size w wr)
  case atStart => exact ⟨0, none, 0, by omega, by omega, rfl, rfl, World.ownsRow_nil _ _ _ _, Below.refl _ _⟩
  case round =>
  obtain ⟨j, A0, c0, hgk, hj, rfl, rfl, hown, hb⟩ := hrel
  have Hgk := hide hgk
  have HG0 := hide (Grew.refl hown)
  have Hb := hide hb
  have hsz := hb.size
  have Hlow := hide (fun k hk => (hown.lt k hk).1)
  clear hgk hown hb
  rcases Nat.lt_or_ge j n with hlt | hge
  case inr =>
    obtain rfl : j = n := by omega
    have h := (unhide HG0).own
    rw [List.take_of_length_le (by rw [unhide Hl]; exact Nat.le_refl _)] at h
    have HF := hide h
    clear h
    go_wp2_with fail
    go_ret
    exact ⟨A0, c0, rfl, unhide HF, unhide Hb⟩
  obtain ⟨x, hx⟩ : ∃ x, l[j]? = some x := ⟨_, List.getElem?_eq_getElem (by rw [unhide Hl]; exact hlt)⟩
  obtain ⟨b1, o1, rfl, hb1, y0, y1, y2, y3⟩ := mkrel_at ((unhide H).below ((unhide Hb).mono hB)) hx
  have Hall : Hid (∀ W, Below w.heap.size wr W → W.cell? ⟨b1, o1 + j * 4, none⟩ = some (.int .u64 (x.off : Nat)) ∧ W.cell? ⟨b1, o1 + j * 4 + 1, none⟩ = some (.int .u32 (x.type : Nat)) ∧ W.cell? ⟨b1, o1 + j * 4 + 2, none⟩ = some (.int .i64 x.sym) ∧ W.cell? ⟨b1, o1 + j * 4 + 3, none⟩ = some (.int .i64 x.add)) := hide (fun W hW => by
    have hb1' : b1 < w.heap.size := by omega
    exact ⟨(hW.cell (p := ⟨b1, _, none⟩) hb1').trans y0, (hW.cell (p := ⟨b1, _, none⟩) hb1').trans y1, (hW.cell (p := ⟨b1, _, none⟩) hb1').trans y2, (hW.cell (p := ⟨b1, _, none⟩) hb1').trans y3⟩)
  have hxo := ((unhide Ho) x (List.mem_of_getElem? hx)).off
  have hxt := ((unhide Ho) x (List.mem_of_getElem? hx)).type
  have hnext := relsB_next hx
  have hw1 := word_cast x.sym
  have hw2 := word_cast x.add
  have hw3 := word_lt x.sym
  have hw4 := word_lt x.add
  have hrb : Mk.relB x = Cl.lb x.off 8 ++ Cl.lb x.type 4 ++ Cl.lb (Mk.word x.sym) 4 ++ Cl.lb (Mk.word x.add) 8 := rfl
  rw [hrb] at hnext
  generalize Mk.word x.sym = sw at *
  generalize Mk.word x.add = aw at *
  have Hnext := hide hnext
  have hlt' : j < n := hlt
  have Hw1 := hide hw1
  have Hw2 := hide hw2
  clear hx hnext hrb hw1 hw2
  go_wp2_with fail
  refine (rbytes14_c (x.off) 8 _ _ (rfl) rfl wr hxo (.inr (.inr (.inr rfl)))).mono ?_
  rintro e x1w ⟨A1n, c1n, rfl, ho, hb⟩
  have hs1n := hb.size
  have Ho1 := hide ho
  have Hb1 := hide hb
  have Hr1 := hide (own_below (unhide HG0).own hb)
  have hsg1 := (unhide HG0).kept.size
  clear ho hb
  go_wp2_with (at_builtin; refine wpList_app byteTy rfl _ _ rfl w.heap.size (.slice A0 (24 * j) c0) (24 * j) _ rfl (unhide Hr1) x1w.heap.size A1n 8 c1n (bys (Cl.lb (x.off) 8)) rfl (Rd.of_own (unhide Ho1)) (bys_one _) (by omega) (by omega) ?_; intro A1r c1r x1v ho hg hat; have HG1 := hide ((unhide HG0).trans (Grew.after (unhide Hb1) (show Grew x1w x1v w.heap.size (.slice A0 (24 * j) c0) (.slice A1r (24 * j + 8) c1r) (24 * j + 8) (Mk.relsB (l.take j) ++ Cl.lb (x.off) 8) from ⟨by rw [bys_app]; exact ho, hg, hat⟩))); clear ho hg hat; obtain ⟨y0, y1, y2, y3⟩ := (unhide Hall) x1v ((unhide HG1).below hsz (unhide Hlow)))
  have hsw1 := (unhide HG1).kept.size
  refine (rbytes14_c (x.type) 4 _ _ (rfl) rfl x1v (by omega) (.inr (.inr (.inl rfl)))).mono ?_
  rintro e x2w ⟨A2n, c2n, rfl, ho, hb⟩
  have hs2n := hb.size
  have Ho2 := hide ho
  have Hb2 := hide hb
  have Hr2 := hide (own_below (unhide HG1).own hb)
  have hsg2 := (unhide HG1).kept.size
  clear ho hb
  go_wp2_with (at_builtin; refine wpList_app byteTy rfl _ _ rfl w.heap.size (.slice A1r (24 * j + 8) c1r) (24 * j + 8) _ rfl (unhide Hr2) x2w.heap.size A2n 4 c2n (bys (Cl.lb (x.type) 4)) rfl (Rd.of_own (unhide Ho2)) (bys_one _) (by omega) (by omega) ?_; intro A2r c2r x2v ho hg hat; have HG2 := hide ((unhide HG1).trans (Grew.after (unhide Hb2) (show Grew x2w x2v w.heap.size (.slice A1r (24 * j + 8) c1r) (.slice A2r (24 * j + 8 + 4) c2r) (24 * j + 8 + 4) (Mk.relsB (l.take j) ++ Cl.lb (x.off) 8 ++ Cl.lb (x.type) 4) from ⟨by rw [bys_app]; exact ho, hg, hat⟩))); clear ho hg hat; obtain ⟨y0, y1, y2, y3⟩ := (unhide Hall) x2v ((unhide HG2).below hsz (unhide Hlow)))
  have hsw2 := (unhide HG2).kept.size
  refine (rbytes14_c (sw) 4 _ _ (unhide Hw1) rfl x2v hw3 (.inr (.inr (.inl rfl)))).mono ?_
  rintro e x3w ⟨A3n, c3n, rfl, ho, hb⟩
  have hs3n := hb.size
  have Ho3 := hide ho
  have Hb3 := hide hb
  have Hr3 := hide (own_below (unhide HG2).own hb)
  have hsg3 := (unhide HG2).kept.size
  clear ho hb
  go_wp2_with (at_builtin; refine wpList_app byteTy rfl _ _ rfl w.heap.size (.slice A2r (24 * j + 8 + 4) c2r) (24 * j + 8 + 4) _ rfl (unhide Hr3) x3w.heap.size A3n 4 c3n (bys (Cl.lb (sw) 4)) rfl (Rd.of_own (unhide Ho3)) (bys_one _) (by omega) (by omega) ?_; intro A3r c3r x3v ho hg hat; have HG3 := hide ((unhide HG2).trans (Grew.after (unhide Hb3) (show Grew x3w x3v w.heap.size (.slice A2r (24 * j + 8 + 4) c2r) (.slice A3r (24 * j + 8 + 4 + 4) c3r) (24 * j + 8 + 4 + 4) (Mk.relsB (l.take j) ++ Cl.lb (x.off) 8 ++ Cl.lb (x.type) 4 ++ Cl.lb (sw) 4) from ⟨by rw [bys_app]; exact ho, hg, hat⟩))); clear ho hg hat; obtain ⟨y0, y1, y2, y3⟩ := (unhide Hall) x3v ((unhide HG3).below hsz (unhide Hlow)))
  have hsw3 := (unhide HG3).kept.size
  refine (rbytes14_c (aw) 8 _ _ (unhide Hw2) rfl x3v hw4 (.inr (.inr (.inr rfl)))).mono ?_
  rintro e x4w ⟨A4n, c4n, rfl, ho, hb⟩
  have hs4n := hb.size
  have Ho4 := hide ho
  have Hb4 := hide hb
  have Hr4 := hide (own_below (unhide HG3).own hb)
  have hsg4 := (unhide HG3).kept.size
  clear ho hb
  go_wp2_with (at_builtin; refine wpList_app byteTy rfl _ _ rfl w.heap.size (.slice A3r (24 * j + 8 + 4 + 4) c3r) (24 * j + 8 + 4 + 4) _ rfl (unhide Hr4) x4w.heap.size A4n 8 c4n (bys (Cl.lb (aw) 8)) rfl (Rd.of_own (unhide Ho4)) (bys_one _) (by omega) (by omega) ?_; intro A4r c4r x4v ho hg hat; have HG4 := hide ((unhide HG3).trans (Grew.after (unhide Hb4) (show Grew x4w x4v w.heap.size (.slice A3r (24 * j + 8 + 4 + 4) c3r) (.slice A4r (24 * j + 8 + 4 + 4 + 8) c4r) (24 * j + 8 + 4 + 4 + 8) (Mk.relsB (l.take j) ++ Cl.lb (x.off) 8 ++ Cl.lb (x.type) 4 ++ Cl.lb (sw) 4 ++ Cl.lb (aw) 8) from ⟨by rw [bys_app]; exact ho, hg, hat⟩))); clear ho hg hat; obtain ⟨y0, y1, y2, y3⟩ := (unhide Hall) x4v ((unhide HG4).below hsz (unhide Hlow)))
  have hsw4 := (unhide HG4).kept.size
  have hfin := unhide HG4
  rw [show Mk.relsB (l.take j) ++ Cl.lb (x.off) 8 ++ Cl.lb (x.type) 4 ++ Cl.lb (sw) 4 ++ Cl.lb (aw) 8 = Mk.relsB (l.take (j + 1)) from by rw [unhide Hnext]; simp only [List.append_assoc]] at hfin
  have HF := hide hfin
  have HBF := hide ((unhide Hb).trans (hfin.below hsz (unhide Hlow)))
  clear hfin Hnext y0 y1 y2 y3
  have hn24 : 24 * (j + 1) = 24 * j + 8 + 4 + 4 + 8 := by omega
  have Hn24 := hide hn24
  clear hn24
  go_roundg (n - (j + 1))
  case measure => have := unhide Hgk; omega
  case rel => exact ⟨j + 1, A4r, c4r, rfl, by omega, by go_num, by rw [unhide Hn24], by rw [unhide Hn24]; exact (unhide HF).own, unhide HBF⟩
-- PIECE
theorem litB (w : World) (a b : Value) : Rd (w.alloc (.cells #[a, b] 5)) (w.heap.size + 1) 1 (some ⟨w.heap.size, 0, none⟩) 2 [a, b] := Rd.rowF (w := w) rfl
theorem symRows_app (t : List UInt8) (a b : List Dy.Sym) : Mk.symRows t (a ++ b) = Mk.symRows t a ++ Mk.symRows (Mk.puts t (Mk.names a)) b := by
  induction a generalizing t with
  | nil => rfl
  | cons s r ih =>
    rw [List.cons_append, Mk.symRows, ih, Mk.symRows, List.append_assoc]
    rfl
theorem puts_app (t : List UInt8) (a b : List ByteArray) : Mk.puts t (a ++ b) = Mk.puts (Mk.puts t a) b := List.foldl_append
theorem symRows_next {t : List UInt8} {l : List Dy.Sym} {j : Nat} {x : Dy.Sym} (h : l[j]? = some x) : Mk.symRows t (l.take (j + 1)) = Mk.symRows t (l.take j) ++ Mk.symB (Mk.place (Mk.puts t (Mk.names (l.take j))) x.name) x := by
  rw [List.take_add_one, h, symRows_app]
  simp [Mk.symRows]
theorem puts_next {t : List UInt8} {l : List Dy.Sym} {j : Nat} {x : Dy.Sym} (h : l[j]? = some x) : Mk.puts t (Mk.names (l.take (j + 1))) = Mk.put (Mk.puts t (Mk.names (l.take j))) x.name := by
  rw [List.take_add_one, h]
  unfold Mk.names
  rw [List.map_append, puts_app]
  rfl
theorem put_le {t : List UInt8} {s : ByteArray} (h : s.size ≤ 4294967296) : (Mk.put t s).length ≤ t.length + 4294967297 := by
  unfold Mk.put
  split
  · omega
  · simp only [List.length_append, List.length_cons, List.length_nil, Array.length_toList]
    have : s.data.size = s.size := rfl
    omega
theorem puts_le {t : List UInt8} {l : List ByteArray} (h : ∀ s ∈ l, s.size ≤ 4294967296) : (Mk.puts t l).length ≤ t.length + l.length * 4294967297 := by
  induction l generalizing t with
  | nil => simp [Mk.puts]
  | cons s r ih =>
    have h1 := put_le (t := t) (h s (by simp))
    have h2 := ih (t := Mk.put t s) (fun s hs => h s (by simp [hs]))
    show (Mk.puts (Mk.put t s) r).length ≤ _
    rw [List.length_cons, Nat.succ_mul]
    omega
structure SyOk (s : Dy.Sym) : Prop where
  value : s.value < 18446744073709551616
  size : s.size < 18446744073709551616
  bind : s.bind ≤ 2
theorem bind_lit {b : Nat} (h : b ≤ 2) : bys (Cl.lb (b * 16) 1 ++ Cl.lb 0 1) = [.int .u8 ((b : Int) * 16), .int .u8 0] := by
  have : b = 0 ∨ b = 1 ∨ b = 2 := by omega
  rcases this with rfl | rfl | rfl <;> rfl
-- PIECE
set_option maxRecDepth 100000 in
set_option maxHeartbeats 8000000 in
theorem rsymbols_any (q : Dq) (t : TypeId) (g o : Nat) (l : List Value) (base : Nat) (At : Option Addr) (n c : Nat) (xs : List UInt8) (B : Nat) (w : World) (hB : B ≤ w.heap.size) (hq : DqM w B q) (hfit : DqOk q) (h64 : q.d.syms.length ≤ 64) (hsy : ∀ s ∈ q.d.syms, SyOk s)
    (h : FiM w t g o l base At n c xs) (hn : n ≤ 1099511627776) (hbase : base ≤ w.heap.size) (hBg : B ≤ g) (hBb : B ≤ base) :
    Calls Tryz.prog 86 #[.agg q.l.toArray, .pointer (some ⟨g, o, none⟩)] w fun e w' => ∃ A' c' At' nt' ct', e = .returned (.slice A' (24 * (q.d.syms.length + 1)) c') ∧ w'.ownsRow w.heap.size 5 1 (.slice A' (24 * (q.d.syms.length + 1)) c') (24 * (q.d.syms.length + 1)) (bys (Mk.symsB xs q.d.syms)) ∧ FiE t g o l base At w w' At' nt' ct' (Mk.puts xs (Mk.names q.d.syms)) := by
  obtain ⟨⟨nd, so, ru, sy, re⟩, A1, c1, A2, c2, A3, c3⟩ := q
  have hbl := Blk.new w 29 [.slice A1 nd.length c1, .string so, .string ru, .slice A2 sy.length c2, .slice A3 re.length c3]
  have hb1 : Below w.heap.size w (w.alloc (.cells #[.slice A1 nd.length c1, .string so, .string ru, .slice A2 sy.length c2, .slice A3 re.length c3] 29)) := (Below.refl _ _).alloc (Nat.le_refl _) _
  have hrd : Rd w B 5 A2 sy.length (symC sy) := hq.syms
  have hrd1 := hrd.below (hb1.mono hB)
  have hm : sy.length ≤ 64 := h64
  have hs2 : ∀ s ∈ sy, s.name.size ≤ 4294967296 := hfit.s2
  have hok : ∀ s ∈ sy, SyOk s := hsy
  have hfi := h.below hb1
  have hgl := h.blk.lt
  have hAl := h.lt
  have hlen := h.len
  show Calls _ _ #[.agg #[.slice A1 nd.length c1, .string so, .string ru, .slice A2 sy.length c2, .slice A3 re.length c3], .pointer (some ⟨g, o, none⟩)] w fun e w' => ∃ A' c' At' nt' ct', e = .returned (.slice A' (24 * (sy.length + 1)) c') ∧ w'.ownsRow w.heap.size 5 1 (.slice A' (24 * (sy.length + 1)) c') (24 * (sy.length + 1)) (bys (Mk.symsB xs sy)) ∧ FiE t g o l base At w w' At' nt' ct' (Mk.puts xs (Mk.names sy))
  clear hq hfit h64 hsy h hrd
  obtain ⟨m, hmm⟩ : ∃ m, sy.length = m := ⟨_, rfl⟩
  rw [hmm] at hm hbl hb1 hrd1 hfi ⊢
  have e1 : (w.alloc (.cells #[.slice A1 nd.length c1, .string so, .string ru, .slice A2 m c2, .slice A3 re.length c3] 29)).heap.size = w.heap.size + 1 := by simp
  have y3 := hbl.cell (i := 3) rfl
  obtain ⟨i, hi, hz0, hz1, hz2⟩ := info_parts byteInfo
  have Hi := hide hi
  have Hz0 := hide hz0
  have Hz1 := hide hz1
  have Hz2 := hide hz2
  have Hbl := hide hbl
  have HB1 := hide hb1
  have Hrd := hide hrd1
  have Hs2 := hide hs2
  have Hok := hide hok
  have Hfi := hide hfi
  have HAl := hide hAl
  have Hmm := hide hmm
  have HE1 := hide e1
  have Hlen := hide hlen
  have hxl : xs.length ≤ 1099511627776 := by omega
  clear hi hz0 hz1 hz2 hbl hb1 hrd1 hs2 hok hfi hAl hmm e1 hlen
  go_enter Tryz.func86, Tryz.ntmps86
  go_wp2_with (at_make; refine wpList_make_full _ rfl _ _ 24 rfl (w.heap.size + 1) 5 i (.int .u8 0) 1 Tryz.underlying24 (unhide Hi) (unhide Hz0) (unhide Hz1) _ _ _ _ 24 rfl rfl rfl rfl (by rw [unhide Hz2]; omega) (by unfold maxLen; omega) (by rw [unhide HE1]; exact Nat.le_refl _) ?_; intro w1 hown hgrow; have hbw := (Below.refl _ _).grown hgrow (Nat.le_refl _) (fun k hk => by cases hk); have Hown := hide hown; have Hbw := hide hbw; clear hown hgrow hbw)
  have ho := unhide Hown
  rw [zerosN] at ho
  have Ho := hide ho
  clear ho Hown
  generalize (w.alloc (.cells #[.slice A1 nd.length c1, .string so, .string ru, .slice A2 m c2, .slice A3 re.length c3] 29)) = W1 at *
  have e1 := unhide HE1
  go_loopg [5, 6] m (fun gk bv iv wr => ∃ (j : Nat) (Ab : Option Addr) (cb : Nat) (At' : Option Addr) (nt' ct' : Nat), gk = m - j ∧ j ≤ m ∧ iv = .int .i64 j ∧ bv = .slice Ab (24 * (j + 1)) cb ∧ wr.ownsRow (w.heap.size + 1) 5 1 (.slice Ab (24 * (j + 1)) cb) (24 * (j + 1)) (bys (Mk.zs 24 ++ Mk.symRows xs (sy.take j))) ∧ FiE t g o l base At W1 wr At' nt' ct' (Mk.puts xs (Mk.names (sy.take j))) ∧ ∀ k, bk Ab = some k → bk At' ≠ some k)
  case atStart =>
    have hE := (FiE.refl (unhide Hfi)).then_ (by have := unhide Hbw; exact this)
    have h0 := unhide Ho
    rw [e1] at h0
    refine ⟨0, _, _, At, n, c, by omega, by omega, rfl, rfl, by simpa [Mk.symRows, Mk.zs] using h0, by simpa [Mk.puts, Mk.names] using hE, fun k hk hk2 => ?_⟩
    have h1 := (h0.lt k (by rw [own_bk]; exact hk)).1
    have h2 := (unhide HAl) k hk2
    omega
  case round =>
  obtain ⟨j, Ab, cb, At', nt', ct', hgk, hj, rfl, rfl, hown, hE, hdis⟩ := hrel
  have Hgk := hide hgk
  have hsz := hE.size
  have hbB := hE.below hBg (fun k hk => by have := (unhide HAl) k hk; omega) (by omega : B ≤ W1.heap.size)
  have hbD := hE.blk (unhide Hbl) (by omega) (fun e => by have := (unhide HAl) _ e; omega)
  have y3' := hbD.cell (i := 3) rfl
  clear y3 Ho Hbw hgk
  rcases Nat.lt_or_ge j m with hlt | hge
  case inr =>
    obtain rfl : j = m := by omega
    have Hown := hide hown
    have HE := hide hE
    clear hown hE hdis hbB hbD
    go_wp2_with fail
    go_ret
    have h1 := unhide Hown
    have h2 := unhide HE
    rw [List.take_of_length_le (by rw [unhide Hmm]; exact Nat.le_refl _)] at h1 h2
    exact ⟨Ab, cb, At', nt', ct', rfl, own_base h1 (by omega), FiE.after (unhide HB1) h2⟩
  obtain ⟨x, hx⟩ : ∃ x, sy[j]? = some x := ⟨_, List.getElem?_eq_getElem (by rw [unhide Hmm]; exact hlt)⟩
  obtain ⟨b1, o1, hA2, hb1, s0, s1, s2, s3, s4⟩ := mksym_at ((unhide Hrd).below hbB) hx
  subst hA2
  have hxs := (unhide Hs2) x (List.mem_of_getElem? hx)
  have hxo := (unhide Hok) x (List.mem_of_getElem? hx)
  have hxb := hxo.bind
  have hxv := hxo.value
  have hxz := hxo.size
  have Hown := hide hown
  have HE := hide hE
  have Hdis := hide hdis
  have HbD := hide hbD
  have Hx := hide hx
  clear hown hE hdis hbB hbD hx hxo
  go_wp2_with fail
  have hbv : Below wr.heap.size wr (wr.alloc (.cells #[.string x.name, .int .u64 (x.value : Nat), .int .u64 (x.size : Nat), .int .u8 (x.bind : Nat), .bool x.isdef] 48)) := (Below.refl _ _).alloc (Nat.le_refl _) _
  have hsb := Blk.new wr 48 [.string x.name, .int .u64 (x.value : Nat), .int .u64 (x.size : Nat), .int .u8 (x.bind : Nat), .bool x.isdef]
  have hE0 := (unhide HE).then_ hbv
  have hown0 := own_below (unhide Hown) hbv
  have hbl0 : (Mk.puts xs (Mk.names (sy.take j))).length ≤ 1099511627776 + 64 * 4294967297 := by
    have := puts_le (t := xs) (l := Mk.names (sy.take j)) (fun s hs => by
      unfold Mk.names at hs
      obtain ⟨y, hy, rfl⟩ := List.mem_map.1 hs
      exact (unhide Hs2) y (List.mem_of_mem_take hy))
    have h2 : (Mk.names (sy.take j)).length ≤ 64 := by unfold Mk.names; rw [List.length_map, List.length_take]; omega
    have h3 : (Mk.names (sy.take j)).length * 4294967297 ≤ 64 * 4294967297 := Nat.mul_le_mul_right _ h2
    omega
  have hnt := hE0.m.len
  have hbs2 : base ≤ (wr.alloc (.cells #[.string x.name, .int .u64 (x.value : Nat), .int .u64 (x.size : Nat), .int .u8 (x.bind : Nat), .bool x.isdef] 48)).heap.size := by have := hbv.size; omega
  have KP := hide (rtput_any t g o _ base At' nt' ct' _ x.name _ hE0.m hbs2 (by omega) hxs)
  have hwrl : wr.heap.size < (wr.alloc (.cells #[.string x.name, .int .u64 (x.value : Nat), .int .u64 (x.size : Nat), .int .u8 (x.bind : Nat), .bool x.isdef] 48)).heap.size := by simp
  generalize (wr.alloc (.cells #[.string x.name, .int .u64 (x.value : Nat), .int .u64 (x.size : Nat), .int .u8 (x.bind : Nat), .bool x.isdef] 48)) = V0 at *
  refine (unhide KP).mono ?_
  rintro e w5 ⟨At5, nt5, ct5, rfl, hE5⟩
  have hAb : bk Ab ≠ some g := fun e => by have := (hown0.lt g (by rw [own_bk]; exact e)).1; omega
  obtain ⟨hown5, hdis5⟩ := hE5.own hown0 hAb (unhide Hdis)
  have hsb5 := hE5.blk hsb (by omega) (fun e => by have := (unhide HE).m.lt _ e; omega)
  have hE15 := hE0.trans hE5
  have hpl : Mk.place (Mk.puts xs (Mk.names (sy.take j))) x.name < 18446744073709551616 := by unfold Mk.place; split <;> omega
  have hbwr : bk Ab ≠ some wr.heap.size := fun e => by have := ((unhide Hown).lt _ (by rw [own_bk]; exact e)).2; omega
  have Hall : Hid (∀ W, w5.grownBy W (Value.slice Ab (24 * (j + 1)) cb).ownBlock → W.cell? ⟨wr.heap.size, 1, none⟩ = some (.int .u64 (x.value : Nat)) ∧ W.cell? ⟨wr.heap.size, 2, none⟩ = some (.int .u64 (x.size : Nat)) ∧ W.cell? ⟨wr.heap.size, 3, none⟩ = some (.int .u8 (x.bind : Nat)) ∧ W.cell? ⟨wr.heap.size, 4, none⟩ = some (.bool x.isdef)) := hide (fun W hW => by
    have h9 : Blk W wr.heap.size _ _ := (hW.block _ hsb5.lt (fun e => hbwr (by rw [own_bk] at e; exact e.symm))).trans hsb5
    exact ⟨h9.cell (i := 1) rfl, h9.cell (i := 2) rfl, h9.cell (i := 3) rfl, h9.cell (i := 4) rfl⟩)
  have HG0 := hide (Grew.refl hown5)
  have hs5 := hE15.size
  have Hlow := hide (fun k hk => (hown5.lt k hk).1)
  have HE15 := hide hE15
  have Hdis5 := hide hdis5
  have Hsymx := hide (symRows_next (t := xs) (unhide Hx))
  have Hputx := hide (puts_next (t := xs) (unhide Hx))
  generalize Mk.place (Mk.puts xs (Mk.names (sy.take j))) x.name = pl at *
  have hb256 : x.bind * 16 ≤ 32 := by omega
  clear hE15 hdis5 hown5 hE5 KP hE0 hown0 hsb hsb5 hbv s0 s1 s2 s3 s4 y3' Hx hnt hbl0 Hdis HE Hown
  generalize hyd : x.isdef = dv at *
  generalize hdn : (if dv = true then 1 else 0 : Nat) = dn
  have hdn1 : dn < 18446744073709551616 := by rw [← hdn]; split <;> omega
  have Hdn := hide hdn
  have Hyd := hide hyd
  clear hyd hdn
  cases dv
  all_goals
    go_wp2_with fail
    refine (rbytes14_c (pl) 4 _ _ (rfl) rfl w5 hpl (.inr (.inr (.inl rfl)))).mono ?_
    rintro e x1w ⟨A1n, c1n, rfl, ho, hb⟩
    have hs1n := hb.size
    have Ho1 := hide ho
    have Hb1 := hide hb
    have Hr1 := hide (own_below (unhide HG0).own hb)
    have hsg1 := (unhide HG0).kept.size
    clear ho hb
    go_wp2_with (first | (at_builtin; refine wpList_app byteTy rfl _ _ rfl (w.heap.size + 1) (.slice Ab (24 * (j + 1)) cb) (24 * (j + 1)) _ rfl (unhide Hr1) x1w.heap.size A1n 4 c1n (bys (Cl.lb (pl) 4)) rfl (Rd.of_own (unhide Ho1)) (bys_one _) (by omega) (by omega) ?_; intro A1r c1r x1v ho hg hat; have HG1 := hide ((unhide HG0).trans (Grew.after (unhide Hb1) (show Grew x1w x1v (w.heap.size + 1) (.slice Ab (24 * (j + 1)) cb) (.slice A1r (24 * (j + 1) + 4) c1r) (24 * (j + 1) + 4) ((Mk.zs 24 ++ Mk.symRows xs (sy.take j)) ++ Cl.lb (pl) 4) from ⟨by rw [bys_app]; exact ho, hg, hat⟩))); clear ho hg hat; obtain ⟨y1, y2, y3, y4⟩ := (unhide Hall) x1v (unhide HG1).kept) | (at_builtin; refine wpList_app byteTy rfl _ _ rfl (w.heap.size + 1) (.slice A1r (24 * (j + 1) + 4) c1r) (24 * (j + 1) + 4) _ rfl ((unhide HG1).own.alloc (.cells #[.int .u8 ((x.bind : Int) * 16), .int .u8 0] 5)) (x1v.heap.size + 1) (some ⟨x1v.heap.size, 0, none⟩) 2 2 _ rfl (litB x1v _ _) (by intro u hu; simp at hu; rcases hu with rfl | rfl <;> rfl) (by omega) (by have := (unhide HG1).kept.size; simp; omega) ?_; intro Al cl wl ho hg hat; have HGl := hide ((unhide HG1).trans (Grew.after ((Below.refl x1v.heap.size x1v).alloc (Nat.le_refl _) _) (show Grew _ wl (w.heap.size + 1) (.slice A1r (24 * (j + 1) + 4) c1r) (.slice Al (24 * (j + 1) + 4 + 2) cl) (24 * (j + 1) + 4 + 2) ((Mk.zs 24 ++ Mk.symRows xs (sy.take j)) ++ Cl.lb (pl) 4 ++ (Cl.lb (x.bind * 16) 1 ++ Cl.lb 0 1)) from ⟨by rw [bys_app, bind_lit hxb]; exact ho, hg, hat⟩))); clear ho hg hat; obtain ⟨y1, y2, y3, y4⟩ := (unhide Hall) wl (unhide HGl).kept))
    have hsw1 := (unhide HG1).kept.size
    have hswl := (unhide HGl).kept.size
    go_wp2_with fail
    refine (rbytes14_c (dn) 2 _ _ (by have := unhide Hdn; simp at this; omega) rfl wl hdn1 (.inr (.inl rfl))).mono ?_
    rintro e x2w ⟨A2n, c2n, rfl, ho, hb⟩
    have hs2n := hb.size
    have Ho2 := hide ho
    have Hb2 := hide hb
    have Hr2 := hide (own_below (unhide HGl).own hb)
    have hsg2 := (unhide HGl).kept.size
    clear ho hb
    go_wp2_with (at_builtin; refine wpList_app byteTy rfl _ _ rfl (w.heap.size + 1) (.slice Al (24 * (j + 1) + 4 + 2) cl) (24 * (j + 1) + 4 + 2) _ rfl (unhide Hr2) x2w.heap.size A2n 2 c2n (bys (Cl.lb (dn) 2)) rfl (Rd.of_own (unhide Ho2)) (bys_one _) (by omega) (by omega) ?_; intro A2r c2r x2v ho hg hat; have HG2 := hide ((unhide HGl).trans (Grew.after (unhide Hb2) (show Grew x2w x2v (w.heap.size + 1) (.slice Al (24 * (j + 1) + 4 + 2) cl) (.slice A2r (24 * (j + 1) + 4 + 2 + 2) c2r) (24 * (j + 1) + 4 + 2 + 2) ((Mk.zs 24 ++ Mk.symRows xs (sy.take j)) ++ Cl.lb (pl) 4 ++ (Cl.lb (x.bind * 16) 1 ++ Cl.lb 0 1) ++ Cl.lb (dn) 2) from ⟨by rw [bys_app]; exact ho, hg, hat⟩))); clear ho hg hat; obtain ⟨y1, y2, y3, y4⟩ := (unhide Hall) x2v (unhide HG2).kept)
    have hsw2 := (unhide HG2).kept.size
    refine (rbytes14_c (x.value) 8 _ _ (rfl) rfl x2v hxv (.inr (.inr (.inr rfl)))).mono ?_
    rintro e x3w ⟨A3n, c3n, rfl, ho, hb⟩
    have hs3n := hb.size
    have Ho3 := hide ho
    have Hb3 := hide hb
    have Hr3 := hide (own_below (unhide HG2).own hb)
    have hsg3 := (unhide HG2).kept.size
    clear ho hb
    go_wp2_with (at_builtin; refine wpList_app byteTy rfl _ _ rfl (w.heap.size + 1) (.slice A2r (24 * (j + 1) + 4 + 2 + 2) c2r) (24 * (j + 1) + 4 + 2 + 2) _ rfl (unhide Hr3) x3w.heap.size A3n 8 c3n (bys (Cl.lb (x.value) 8)) rfl (Rd.of_own (unhide Ho3)) (bys_one _) (by omega) (by omega) ?_; intro A3r c3r x3v ho hg hat; have HG3 := hide ((unhide HG2).trans (Grew.after (unhide Hb3) (show Grew x3w x3v (w.heap.size + 1) (.slice A2r (24 * (j + 1) + 4 + 2 + 2) c2r) (.slice A3r (24 * (j + 1) + 4 + 2 + 2 + 8) c3r) (24 * (j + 1) + 4 + 2 + 2 + 8) ((Mk.zs 24 ++ Mk.symRows xs (sy.take j)) ++ Cl.lb (pl) 4 ++ (Cl.lb (x.bind * 16) 1 ++ Cl.lb 0 1) ++ Cl.lb (dn) 2 ++ Cl.lb (x.value) 8) from ⟨by rw [bys_app]; exact ho, hg, hat⟩))); clear ho hg hat; obtain ⟨y1, y2, y3, y4⟩ := (unhide Hall) x3v (unhide HG3).kept)
    have hsw3 := (unhide HG3).kept.size
    refine (rbytes14_c (x.size) 8 _ _ (rfl) rfl x3v hxz (.inr (.inr (.inr rfl)))).mono ?_
    rintro e x4w ⟨A4n, c4n, rfl, ho, hb⟩
    have hs4n := hb.size
    have Ho4 := hide ho
    have Hb4 := hide hb
    have Hr4 := hide (own_below (unhide HG3).own hb)
    have hsg4 := (unhide HG3).kept.size
    clear ho hb
    go_wp2_with (at_builtin; refine wpList_app byteTy rfl _ _ rfl (w.heap.size + 1) (.slice A3r (24 * (j + 1) + 4 + 2 + 2 + 8) c3r) (24 * (j + 1) + 4 + 2 + 2 + 8) _ rfl (unhide Hr4) x4w.heap.size A4n 8 c4n (bys (Cl.lb (x.size) 8)) rfl (Rd.of_own (unhide Ho4)) (bys_one _) (by omega) (by omega) ?_; intro A4r c4r x4v ho hg hat; have HG4 := hide ((unhide HG3).trans (Grew.after (unhide Hb4) (show Grew x4w x4v (w.heap.size + 1) (.slice A3r (24 * (j + 1) + 4 + 2 + 2 + 8) c3r) (.slice A4r (24 * (j + 1) + 4 + 2 + 2 + 8 + 8) c4r) (24 * (j + 1) + 4 + 2 + 2 + 8 + 8) ((Mk.zs 24 ++ Mk.symRows xs (sy.take j)) ++ Cl.lb (pl) 4 ++ (Cl.lb (x.bind * 16) 1 ++ Cl.lb 0 1) ++ Cl.lb (dn) 2 ++ Cl.lb (x.value) 8 ++ Cl.lb (x.size) 8) from ⟨by rw [bys_app]; exact ho, hg, hat⟩))); clear ho hg hat; obtain ⟨y1, y2, y3, y4⟩ := (unhide Hall) x4v (unhide HG4).kept)
    have hsw4 := (unhide HG4).kept.size
    have hfin := unhide HG4
    rw [show (Mk.zs 24 ++ Mk.symRows xs (sy.take j)) ++ Cl.lb (pl) 4 ++ (Cl.lb (x.bind * 16) 1 ++ Cl.lb 0 1) ++ Cl.lb (dn) 2 ++ Cl.lb (x.value) 8 ++ Cl.lb (x.size) 8 = Mk.zs 24 ++ Mk.symRows xs (sy.take (j + 1)) from by
      rw [unhide Hsymx]
      unfold Mk.symB
      rw [unhide Hyd]
      have hd := unhide Hdn
      simp at hd
      subst hd
      simp [List.append_assoc]] at hfin
    have hEF := (unhide HE15).grown (w2 := x4v) (A2 := Ab) (by have := hfin.kept; rwa [own_bk] at this) hAb (fun k hk hk2 => (unhide Hdis5) k hk2 hk) (fun k hk => by have := (unhide Hlow) k (by rw [own_bk]; exact hk); omega)
    rw [← unhide Hputx] at hEF
    have hdF : ∀ k, bk A4r = some k → bk At5 ≠ some k := fun k hk hk2 => by
      rcases hfin.at_ k (by rw [own_bk]; exact hk) with h3 | h3
      · rw [own_bk] at h3; exact (unhide Hdis5) k h3 hk2
      · have := (unhide HE15).m.lt k hk2; omega
    have hn24 : 24 * (j + 1 + 1) = 24 * (j + 1) + 4 + 2 + 2 + 8 + 8 := by omega
    have Hn24 := hide hn24
    have HF := hide hfin
    have HEF := hide hEF
    have HdF := hide hdF
    clear hfin hEF hdF hn24 Hsymx Hputx y1 y2 y3 y4
    go_wp2_with fail
    go_roundg (m - (j + 1))
    case measure => have := unhide Hgk; omega
    case rel => exact ⟨j + 1, A4r, c4r, At5, nt5, ct5, rfl, by omega, by go_num, by rw [unhide Hn24], by rw [unhide Hn24]; exact (unhide HF).own, unhide HEF, unhide HdF⟩
-- PIECE
theorem lbs_snoc (k : Nat) (a : List Nat) (x : Nat) : Mk.lbs k (a ++ [x]) = Mk.lbs k a ++ Cl.lb x k := by
  induction a with
  | nil => simp [Mk.lbs]
  | cons y r ih => simp [Mk.lbs, ih]
theorem lbs_range (k n : Nat) (f : Nat → Nat) : Mk.lbs k ((List.range (n + 1)).map f) = Mk.lbs k ((List.range n).map f) ++ Cl.lb (f n) k := by
  rw [List.range_succ, List.map_append, List.map_cons, List.map_nil, lbs_snoc]
theorem nextL_le (n b : Nat) (l : List Dy.Sym) : ∀ i, Mk.nextL n b l i ≤ i + l.length := by
  induction l with
  | nil => intro i; simp [Mk.nextL]
  | cons s r ih =>
    intro i
    unfold Mk.nextL
    split
    · simp
    · have := ih (i + 1)
      simp at this ⊢
      omega
theorem next_lt {l : List Dy.Sym} {n b i : Nat} (h : l.length ≤ 64) (hi : i ≤ l.length) : Mk.next l n b i ≤ 64 := by
  have := nextL_le n b (l.drop i) i
  rw [List.length_drop] at this
  unfold Mk.next
  omega
def linkAt (l : List Dy.Sym) (i : Nat) : Nat := if i = 0 then 0 else Mk.linkOf l (i - 1)
theorem links_range (l : List Dy.Sym) : Mk.links l = (List.range (l.length + 1)).map (linkAt l) := by
  rw [List.range_succ_eq_map, List.map_cons, List.map_map]
  rfl
-- PIECE
set_option maxRecDepth 100000 in
set_option maxHeartbeats 8000000 in
theorem rhashes_any (q : Dq) (B : Nat) (w : World) (hB : B ≤ w.heap.size) (hq : DqM w B q) (hfit : DqOk q) (h64 : q.d.syms.length ≤ 64) :
    Calls Tryz.prog 87 #[.agg q.l.toArray] w fun e w' => ∃ A' n' c', e = .returned (.slice A' n' c') ∧ w'.ownsRow w.heap.size 5 1 (.slice A' n' c') n' (bys (Mk.hashB q.d.syms)) ∧ Below w.heap.size w w' := by
  have hfit0 := hfit
  obtain ⟨⟨nd, so, ru, sy, re⟩, A1, c1, A2, c2, A3, c3⟩ := q
  have hbl := Blk.new w 29 [.slice A1 nd.length c1, .string so, .string ru, .slice A2 sy.length c2, .slice A3 re.length c3]
  have hb1 : Below w.heap.size w (w.alloc (.cells #[.slice A1 nd.length c1, .string so, .string ru, .slice A2 sy.length c2, .slice A3 re.length c3] 29)) := (Below.refl _ _).alloc (Nat.le_refl _) _
  have hq1 := hq.below (hb1.mono hB)
  have hm : sy.length ≤ 64 := h64
  have hs2 : ∀ s ∈ sy, s.name.size ≤ 4294967296 := hfit.s2
  show Calls _ _ #[.agg #[.slice A1 nd.length c1, .string so, .string ru, .slice A2 sy.length c2, .slice A3 re.length c3]] w fun e w' => ∃ A' n' c', e = .returned (.slice A' n' c') ∧ w'.ownsRow w.heap.size 5 1 (.slice A' n' c') n' (bys (Mk.hashB sy)) ∧ Below w.heap.size w w'
  have KN : Hid (∀ W, Below w.heap.size w W → ∀ (n b above : Nat), 0 < n → n ≤ 4294967296 → above ≤ sy.length → b < n → Calls Tryz.prog 115 #[.agg #[.slice A1 nd.length c1, .string so, .string ru, .slice A2 sy.length c2, .slice A3 re.length c3], .int .i64 n, .int .i64 b, .int .i64 above] W fun e w' => e = .returned (.int .i64 (Mk.next sy n b above : Nat)) ∧ Below W.heap.size W w') := hide (fun W hW n b above h1 h2 h3 h4 => rnext_any ⟨⟨nd, so, ru, sy, re⟩, A1, c1, A2, c2, A3, c3⟩ n b above B W (Nat.le_trans hB hW.size) (hq.below (hW.mono hB)) hfit0 h1 h2 h3 h4)
  have KH := hide (fun s (w : World) (hs : s.size ≤ 4294967296) => rhash_any s w hs)
  have hrd1 : Rd _ B 5 A2 sy.length (symC sy) := hq1.syms
  clear hq hfit hfit0 h64 hq1
  obtain ⟨m, hmm⟩ : ∃ m, sy.length = m := ⟨_, rfl⟩
  rw [hmm] at hm hbl hb1 hrd1 KN ⊢
  obtain ⟨n, hnn⟩ : ∃ n, m / 2 + 1 = n := ⟨_, rfl⟩
  have e1 : (w.alloc (.cells #[.slice A1 nd.length c1, .string so, .string ru, .slice A2 m c2, .slice A3 re.length c3] 29)).heap.size = w.heap.size + 1 := by simp
  have y0 := hbl.cell (i := 0) rfl
  have y1 := hbl.cell (i := 1) rfl
  have y2 := hbl.cell (i := 2) rfl
  have y3 := hbl.cell (i := 3) rfl
  have y4 := hbl.cell (i := 4) rfl
  have hd2 : (m : Int).tdiv 2 = (n : Int) - 1 := by rw [Int.tdiv_eq_ediv_of_nonneg (by omega)]; omega
  have hn0 : 0 < n := by omega
  have hnb : n ≤ 33 := by omega
  have hbk : Mk.buckets sy = n := by unfold Mk.buckets; rw [hmm]; exact hnn
  have hfin : Mk.hashB sy = Cl.lb n 4 ++ Cl.lb (m + 1) 4 ++ Mk.lbs 4 ((List.range n).map fun b => Mk.next sy n b 0) ++ Mk.lbs 4 ((List.range (m + 1)).map (linkAt sy)) := by
    unfold Mk.hashB Mk.heads
    rw [links_range, hbk, hmm]
  have hlk : ∀ i s, sy[i]? = some s → linkAt sy (i + 1) = Mk.next sy n (Mk.hashOf s % n) (i + 1) := fun i s h => by
    unfold linkAt Mk.linkOf
    rw [if_neg (by omega), show i + 1 - 1 = i from rfl, h, hbk]
  have hlk0 : linkAt sy 0 = 0 := by unfold linkAt; rw [if_pos rfl]
  generalize linkAt sy = lk at *
  have Hlk := hide hlk
  have Hlk0 := hide hlk0
  have Hbl := hide hbl
  have HB1 := hide hb1
  have Hrd := hide hrd1
  have Hs2 := hide hs2
  have Hmm := hide hmm
  have Hfin := hide hfin
  have HE1 := hide e1
  clear hbl hb1 hrd1 hs2 hmm hfin hbk e1 hnn hlk hlk0
  go_enter Tryz.func87, Tryz.ntmps87
  go_wp2_with fail
  refine (rbytes14_c n 4 _ _ (by rfl) rfl (w.alloc (.cells #[.slice A1 nd.length c1, .string so, .string ru, .slice A2 m c2, .slice A3 re.length c3] 29)) (by omega) (.inr (.inr (.inl rfl)))).mono ?_
  rintro e w1 ⟨Ab, cb, rfl, ho, hb⟩
  rw [unhide HE1] at ho
  have hsz1 := hb.size
  rw [unhide HE1] at hsz1
  have hbD := (unhide Hbl).belowSz hb
  have Hb0 := hide hb
  have HG0 := hide (Grew.refl ho)
  have HbD := hide hbD
  clear ho hb hbD y3
  have y3 := (unhide HbD).cell (i := 3) rfl
  go_wp2_with fail
  refine (rbytes14_c (m + 1) 4 _ _ (by omega) rfl w1 (by omega) (.inr (.inr (.inl rfl)))).mono ?_
  rintro e x1w ⟨A1n, c1n, rfl, ho, hb⟩
  have hs1n := hb.size
  have Ho1 := hide ho
  have Hb1 := hide hb
  have Hr1 := hide (own_below (unhide HG0).own hb)
  have hsg1 := (unhide HG0).kept.size
  clear ho hb
  go_wp2_with (at_builtin; refine wpList_app byteTy rfl _ _ rfl (w.heap.size + 1) (.slice Ab (4) cb) (4) _ rfl (unhide Hr1) x1w.heap.size A1n 4 c1n (bys (Cl.lb (m + 1) 4)) rfl (Rd.of_own (unhide Ho1)) (bys_one _) (by omega) (by omega) ?_; intro A1r c1r x1v ho hg hat; have HG1 := hide ((unhide HG0).trans (Grew.after (unhide Hb1) (show Grew x1w x1v (w.heap.size + 1) (.slice Ab (4) cb) (.slice A1r (4 + 4) c1r) (4 + 4) ((Cl.lb n 4) ++ Cl.lb (m + 1) 4) from ⟨by rw [bys_app]; exact ho, hg, hat⟩))); clear ho hg hat; )
  have hsw1 := (unhide HG1).kept.size
  have HB2 : Hid (Below (w.heap.size + 1) (w.alloc (.cells #[.slice A1 nd.length c1, .string so, .string ru, .slice A2 m c2, .slice A3 re.length c3] 29)) x1v) := hide ((by rw [← unhide HE1]; exact unhide Hb0 : Below (w.heap.size + 1) _ w1).trans ((unhide HG1).below hsz1 (fun k hk => by have := ((unhide HG0).own.lt k hk).1; exact this)))
  have HO2 := hide (unhide HG1).own
  generalize (w.alloc (.cells #[.slice A1 nd.length c1, .string so, .string ru, .slice A2 m c2, .slice A3 re.length c3] 29)) = W1 at *
  have HbW := hide (fun W (hW : Below (w.heap.size + 1) W1 W) => (unhide Hbl).below hW (by omega))
  generalize x1v = v2 at *
  generalize A1r = Av2 at *
  generalize c1r = cv2 at *
  clear HG1 Hr1 Ho1 Hb1 hs1n hsg1 hsw1 HG0 HbD Hb0 y0 y1 y2 y3 y4
  go_loopg [5, 6] n (fun gk bv iv wr => ∃ (j : Nat) (Aj : Option Addr) (cj : Nat), gk = n - j ∧ j ≤ n ∧ iv = .int .i64 j ∧ bv = .slice Aj (8 + 4 * j) cj ∧ wr.ownsRow (w.heap.size + 1) 5 1 (.slice Aj (8 + 4 * j) cj) (8 + 4 * j) (bys (Cl.lb n 4 ++ Cl.lb (m + 1) 4 ++ Mk.lbs 4 ((List.range j).map fun b => Mk.next sy n b 0))) ∧ Below (w.heap.size + 1) W1 wr)
  case atStart => exact ⟨0, Av2, cv2, by omega, by omega, rfl, rfl, by simpa [Mk.lbs] using unhide HO2, unhide HB2⟩
  case round =>
  clear HO2 HB2
  obtain ⟨j, Aj, cj, hgk, hj, rfl, rfl, hown, hb⟩ := hrel
  have Hgk := hide hgk
  have hbD := (unhide HbW) wr hb
  have y0 := hbD.cell (i := 0) rfl
  have y1 := hbD.cell (i := 1) rfl
  have y2 := hbD.cell (i := 2) rfl
  have y3 := hbD.cell (i := 3) rfl
  have y4 := hbD.cell (i := 4) rfl
  have hsz := hb.size
  have e1 := unhide HE1
  have Hown := hide hown
  have Hb := hide hb
  clear hgk hbD hown hb
  rcases Nat.lt_or_ge j n with hlt | hge
  · have KN1 := hide ((unhide KN) wr ((unhide HB1).trans ((unhide Hb).mono (by omega))) n j 0 hn0 (by omega) (by omega) hlt)
    have hnx := next_lt (n := n) (b := j) (i := 0) (show sy.length ≤ 64 by rw [unhide Hmm]; exact hm) (by omega)
    have Hstep := hide (lbs_range 4 j (fun b => Mk.next sy n b 0))
    try dsimp only at Hstep
    generalize Mk.next sy n j 0 = nx at *
    go_wp2_with fail
    refine (unhide KN1).mono ?_
    rintro e w3 ⟨rfl, hb3⟩
    have hs3 := hb3.size
    have HG3 := hide (Grew.refl (own_below (unhide Hown) hb3))
    have Hlow3 := hide (fun k hk => ((unhide Hown).lt k hk).1)
    have Hb3 := hide ((unhide Hb).trans (hb3.mono (by omega)))
    clear hb3
    go_wp2_with fail
    refine (rbytes14_c (nx) 4 _ _ (rfl) rfl w3 (by omega) (.inr (.inr (.inl rfl)))).mono ?_
    rintro e x1w ⟨A1n, c1n, rfl, ho, hb⟩
    have hs1n := hb.size
    have Ho1 := hide ho
    have Hb1 := hide hb
    have Hr1 := hide (own_below (unhide HG3).own hb)
    have hsg1 := (unhide HG3).kept.size
    clear ho hb
    go_wp2_with (at_builtin; refine wpList_app byteTy rfl _ _ rfl (w.heap.size + 1) (.slice Aj (8 + 4 * j) cj) (8 + 4 * j) _ rfl (unhide Hr1) x1w.heap.size A1n 4 c1n (bys (Cl.lb (nx) 4)) rfl (Rd.of_own (unhide Ho1)) (bys_one _) (by omega) (by omega) ?_; intro A1r c1r x1v ho hg hat; have HG1 := hide ((unhide HG3).trans (Grew.after (unhide Hb1) (show Grew x1w x1v (w.heap.size + 1) (.slice Aj (8 + 4 * j) cj) (.slice A1r (8 + 4 * j + 4) c1r) (8 + 4 * j + 4) ((Cl.lb n 4 ++ Cl.lb (m + 1) 4 ++ Mk.lbs 4 ((List.range j).map fun b => Mk.next sy n b 0)) ++ Cl.lb (nx) 4) from ⟨by rw [bys_app]; exact ho, hg, hat⟩))); clear ho hg hat; )
    have hsw1 := (unhide HG1).kept.size
    have hfin := unhide HG1
    rw [List.append_assoc, ← unhide Hstep] at hfin
    have HF := hide hfin
    have HBF := hide ((unhide Hb3).trans (hfin.below (by omega : w.heap.size + 1 ≤ w3.heap.size) (unhide Hlow3)))
    have hn24 : 8 + 4 * (j + 1) = 8 + 4 * j + 4 := by omega
    have Hn24 := hide hn24
    clear hfin hn24 y0 y1 y2 y3 y4
    go_roundg (n - (j + 1))
    case measure => have := unhide Hgk; omega
    case rel => exact ⟨j + 1, A1r, c1r, rfl, by omega, by go_num, by rw [unhide Hn24], by rw [unhide Hn24]; exact (unhide HF).own, unhide HBF⟩
  obtain rfl : j = n := by omega
  have HO2 := hide (unhide Hown)
  clear Hown
  clear y0 y1 y2 y3 y4
  go_wp2_with fail
  have HBj := Hb
  go_loopg [5, 7] (m + 1) (fun gk bv iv wr => ∃ (i : Nat) (Ai : Option Addr) (ci : Nat), gk = m + 1 - i ∧ i ≤ m + 1 ∧ iv = .int .i64 i ∧ bv = .slice Ai (8 + 4 * j + 4 * i) ci ∧ wr.ownsRow (w.heap.size + 1) 5 1 (.slice Ai (8 + 4 * j + 4 * i) ci) (8 + 4 * j + 4 * i) (bys ((Cl.lb j 4 ++ Cl.lb (m + 1) 4 ++ Mk.lbs 4 ((List.range j).map fun b => Mk.next sy j b 0)) ++ Mk.lbs 4 ((List.range i).map lk))) ∧ Below (w.heap.size + 1) W1 wr)
  case atStart => exact ⟨0, Aj, cj, by omega, by omega, rfl, rfl, by simpa [Mk.lbs] using unhide HO2, unhide HBj⟩
  case round =>
  clear HO2 HBj Hb Hgk hsz
  obtain ⟨i, Ai, ci, hgk, hi, rfl, rfl, hown, hb⟩ := hrel
  have Hgk := hide hgk
  have hbD := (unhide HbW) wr hb
  have y0 := hbD.cell (i := 0) rfl
  have y1 := hbD.cell (i := 1) rfl
  have y2 := hbD.cell (i := 2) rfl
  have y3 := hbD.cell (i := 3) rfl
  have y4 := hbD.cell (i := 4) rfl
  have hsz := hb.size
  have Hown := hide hown
  have Hb := hide hb
  clear hgk hbD hown hb
  by_cases hlt : i < m + 1
  case neg =>
    obtain rfl : i = m + 1 := by omega
    have ige : ¬ ((m + 1 : Nat) : Int) < (m : Int) + 1 := by omega
    clear y0 y1 y2 y3 y4
    go_wp2_with fail
    go_ret
    refine ⟨Ai, _, ci, rfl, ?_, (unhide HB1).trans ((unhide Hb).mono (by omega))⟩
    rw [unhide Hfin]
    exact own_base (unhide Hown) (by omega)
  have ilt : (i : Int) < (m : Int) + 1 := by omega
  have Hstep := hide (lbs_range 4 i lk)
  cases i with
  | zero =>
    have hlk := unhide Hlk0
    have HG3 := hide (Grew.refl (unhide Hown))
    have Hlow3 := hide (fun k hk => ((unhide Hown).lt k hk).1)
    have Hb3 := Hb
    obtain ⟨w3, hw3⟩ : ∃ w3, w3 = wr := ⟨_, rfl⟩
    subst hw3
    obtain ⟨nx, hnx⟩ : ∃ nx, nx = lk 0 := ⟨_, rfl⟩
    have hnx0 : nx = 0 := hnx.trans hlk
    rw [← hnx] at Hstep
    clear hlk hnx
    have Hnx0 := hide hnx0
    have hnx64 : nx < 18446744073709551616 := by omega
    clear hnx0
    go_wp2_with fail
    refine (rbytes14_c (nx) 4 _ _ (by rw [unhide Hnx0]; rfl) rfl w3 hnx64 (.inr (.inr (.inl rfl)))).mono ?_
    rintro e x1w ⟨A1n, c1n, rfl, ho, hb⟩
    have hs1n := hb.size
    have Ho1 := hide ho
    have Hb1 := hide hb
    have Hr1 := hide (own_below (unhide HG3).own hb)
    have hsg1 := (unhide HG3).kept.size
    clear ho hb
    go_wp2_with (at_builtin; refine wpList_app byteTy rfl _ _ rfl (w.heap.size + 1) (.slice Ai (8 + 4 * j + 4 * 0) ci) (8 + 4 * j + 4 * 0) _ rfl (unhide Hr1) x1w.heap.size A1n 4 c1n (bys (Cl.lb (nx) 4)) rfl (Rd.of_own (unhide Ho1)) (bys_one _) (by omega) (by omega) ?_; intro A1r c1r x1v ho hg hat; have HG1 := hide ((unhide HG3).trans (Grew.after (unhide Hb1) (show Grew x1w x1v (w.heap.size + 1) (.slice Ai (8 + 4 * j + 4 * 0) ci) (.slice A1r (8 + 4 * j + 4 * 0 + 4) c1r) (8 + 4 * j + 4 * 0 + 4) (((Cl.lb j 4 ++ Cl.lb (m + 1) 4 ++ Mk.lbs 4 ((List.range j).map fun b => Mk.next sy j b 0)) ++ Mk.lbs 4 ((List.range 0).map lk)) ++ Cl.lb (nx) 4) from ⟨by rw [bys_app]; exact ho, hg, hat⟩))); clear ho hg hat; )
    have hsw1 := (unhide HG1).kept.size
    have hfin := unhide HG1
    rw [List.append_assoc, ← unhide Hstep] at hfin
    have HF := hide hfin
    have HBF := hide ((unhide Hb3).trans (hfin.below (by omega : w.heap.size + 1 ≤ w3.heap.size) (unhide Hlow3)))
    have hn24 : 8 + 4 * j + 4 * (0 + 1) = 8 + 4 * j + 4 * 0 + 4 := by omega
    have Hn24 := hide hn24
    clear hfin hn24
    try clear y0
    try clear y1
    try clear y2
    try clear y3
    try clear y4
    go_roundg (m + 1 - (0 + 1))
    case measure => have := unhide Hgk; omega
    case rel => exact ⟨0 + 1, A1r, c1r, rfl, by omega, by go_num, by rw [unhide Hn24], by rw [unhide Hn24]; exact (unhide HF).own, unhide HBF⟩
  | succ i =>
    obtain ⟨x, hx⟩ : ∃ x, sy[i]? = some x := ⟨_, List.getElem?_eq_getElem (by rw [unhide Hmm]; omega)⟩
    obtain ⟨b1, o1, hA2, hb1, s0, -⟩ := mksym_at ((unhide Hrd).below ((unhide Hb).mono (by omega))) hx
    subst hA2
    have hlk := (unhide Hlk) i x hx
    have hxs := (unhide Hs2) x (List.mem_of_getElem? hx)
    have KX := hide (fun W => (unhide KH) x.name W hxs)
    have hho : Mk.hashOf x = Dy.hash x.name.data.toList := rfl
    rw [hho] at hlk
    have hhs := Dy.hash_lt x.name.data.toList
    generalize Dy.hash x.name.data.toList = hv at *
    have hmo := modT hv j
    have hwv : IntKind.i64.wrap (hv : Int) = (hv : Int) := by rw [IntKind.wrap_i64]; omega
    have hnj : ¬ j = 0 := by omega
    have hrn := Nat.mod_lt hv hn0
    generalize hv % j = r at *
    have KN1 := hide (fun W (hW : Below (w.heap.size + 1) W1 W) => (unhide KN) W ((unhide HB1).trans (hW.mono (by omega : w.heap.size ≤ w.heap.size + 1))) j r (i + 1) hn0 (by omega) (by omega) hrn)
    have hnx := next_lt (n := j) (b := r) (i := i + 1) (show sy.length ≤ 64 by rw [unhide Hmm]; exact hm) (by rw [unhide Hmm]; omega)
    obtain ⟨nx, hnx1⟩ : ∃ nx, nx = lk (i + 1) := ⟨_, rfl⟩
    rw [← hlk, ← hnx1] at hnx
    rw [← hlk, ← hnx1] at KN1
    rw [← hnx1] at Hstep
    have i0 : (0 : Int) < ((i + 1 : Nat) : Int) := by omega
    have hwi : IntKind.i64.wrap (i : Int) = (i : Int) := by rw [IntKind.wrap_i64]; omega
    have im : (i : Int) < (m : Int) := by omega
    have imn : i < m := by omega
    obtain ⟨nm, hnm⟩ : ∃ nm, x.name = nm := ⟨_, rfl⟩
    rw [hnm] at s0 KX
    clear hlk hx hho hnx1 hhs hnm
    go_wp2_with fail
    go_wp2_with fail
    refine wp_region_noPanic ?_
    refine wp_region_held_drew (S := fun W => W.cell? ⟨w.heap.size, 0, none⟩ = some (.slice A1 nd.length c1) ∧ W.cell? ⟨w.heap.size, 1, none⟩ = some (.string so) ∧ W.cell? ⟨w.heap.size, 2, none⟩ = some (.string ru) ∧ W.cell? ⟨w.heap.size, 3, none⟩ = some (.slice (some ⟨b1, o1, none⟩) m c2) ∧ W.cell? ⟨w.heap.size, 4, none⟩ = some (.slice A3 re.length c3) ∧ W.cell? ⟨b1, o1 + i * 5, none⟩ = some (.string nm)) (by kernel_rfl) (⟨y0, y1, y2, y3, y4, s0⟩) (fun HS0 => ?_)
    refine takeD (i := 0) (d := some 46) (v := ?_) rfl rfl (by kernel_rfl) (by kernel_rfl) (by kernel_rfl) (fun _ _ _ h => h) (Or.inl ⟨by rfl, ?y0⟩) HS0 ?_
    case y0 => (intro w' hSw; (try dsimp only at hSw); go_simp; (try with_reducible rfl))
    simp only [Act.put, List.setIfInBounds_toArray, List.set_cons_zero, List.set_cons_succ]
    refine takeD (i := 1) (d := some 47) (v := ?_) rfl rfl (by kernel_rfl) (by kernel_rfl) (by kernel_rfl) (fun _ _ _ h => h) (Or.inl ⟨by rfl, ?y1⟩) HS0 ?_
    case y1 => (intro w' hSw; (try dsimp only at hSw); go_simp; (try with_reducible rfl))
    simp only [Act.put, List.setIfInBounds_toArray, List.set_cons_zero, List.set_cons_succ]
    refine takeD (i := 2) (d := some 48) (v := ?_) rfl rfl (by kernel_rfl) (by kernel_rfl) (by kernel_rfl) (fun _ _ _ h => h) (Or.inl ⟨by rfl, ?y2⟩) HS0 ?_
    case y2 => (intro w' hSw; (try dsimp only at hSw); go_simp; (try with_reducible rfl))
    simp only [Act.put, List.setIfInBounds_toArray, List.set_cons_zero, List.set_cons_succ]
    refine takeD (i := 3) (d := some 49) (v := ?_) rfl rfl (by kernel_rfl) (by kernel_rfl) (by kernel_rfl) (fun _ _ _ h => h) (Or.inl ⟨by rfl, ?y3⟩) HS0 ?_
    case y3 => (intro w' hSw; (try dsimp only at hSw); go_simp; (try with_reducible rfl))
    simp only [Act.put, List.setIfInBounds_toArray, List.set_cons_zero, List.set_cons_succ]
    refine takeD (i := 4) (d := some 50) (v := ?_) rfl rfl (by kernel_rfl) (by kernel_rfl) (by kernel_rfl) (fun _ _ _ h => h) (Or.inl ⟨by rfl, ?y4⟩) HS0 ?_
    case y4 => (intro w' hSw; (try dsimp only at hSw); go_simp; (try with_reducible rfl))
    simp only [Act.put, List.setIfInBounds_toArray, List.set_cons_zero, List.set_cons_succ]
    refine takeD (i := 5) (d := some 51) (v := .int .i64 (i : Nat)) rfl rfl (by kernel_rfl) (by kernel_rfl) (by kernel_rfl) (fun _ _ _ h => h) (Or.inl ⟨by rfl, ?y5⟩) HS0 ?_
    case y5 => (intro w' hSw; (try dsimp only at hSw); go_simp; (try rw [hwi]))
    simp only [Act.put, List.setIfInBounds_toArray, List.set_cons_zero, List.set_cons_succ]
    refine takeD (i := 6) (d := some 52) (v := ?_) rfl rfl (by kernel_rfl) (by kernel_rfl) (by kernel_rfl) (fun _ _ _ h => h) (Or.inl ⟨by rfl, ?y6⟩) HS0 ?_
    case y6 => (intro w' hSw; (try dsimp only at hSw); go_simp; (try with_reducible rfl))
    simp only [Act.put, List.setIfInBounds_toArray, List.set_cons_zero, List.set_cons_succ]
    refine takeD (i := 7) (d := some 53) (v := ?_) rfl rfl (by kernel_rfl) (by kernel_rfl) (by kernel_rfl) (fun _ _ _ h => h) (Or.inl ⟨by rfl, ?y7⟩) HS0 ?_
    case y7 => (intro w' hSw; (try dsimp only at hSw); go_simp; (try with_reducible rfl))
    simp only [Act.put, List.setIfInBounds_toArray, List.set_cons_zero, List.set_cons_succ]
    refine takeD (i := 8) (d := some 54) (v := ?_) rfl rfl (by kernel_rfl) (by kernel_rfl) (by kernel_rfl) (fun _ _ _ h => h) (Or.inl ⟨by rfl, ?y8⟩) HS0 ?_
    case y8 => (intro w' hSw; (try dsimp only at hSw); go_simp; (try with_reducible rfl))
    simp only [Act.put, List.setIfInBounds_toArray, List.set_cons_zero, List.set_cons_succ]
    -- look
    refine takeD (i := 11) (d := some 57) (v := ?_) rfl rfl (by kernel_rfl) (by kernel_rfl) (by kernel_rfl) (fun _ _ _ h => h) (Or.inl ⟨by rfl, ?y11⟩) HS0 ?_
    case y11 => (intro w' hSw; (try dsimp only at hSw); go_simp; (try with_reducible rfl))
    simp only [Act.put, List.setIfInBounds_toArray, List.set_cons_zero, List.set_cons_succ]
    refine takeD (i := 13) (d := some 59) (v := ?_) rfl rfl (by kernel_rfl) (by kernel_rfl) (by kernel_rfl) (fun _ _ _ h => h) (Or.inl ⟨by rfl, ?y13⟩) HS0 ?_
    case y13 => (intro w' hSw; (try dsimp only at hSw); go_simp; (try with_reducible rfl))
    simp only [Act.put, List.setIfInBounds_toArray, List.set_cons_zero, List.set_cons_succ]
    refine wpAnyH_ready (rs := [9]) (by kernel_rfl) (by simp) ?_
    refine AllReadyH.cons (i := 9) rfl (fun K hK => ?_) AllReadyH.nil
    rw [if_pos (by rfl)]
    go_simp
    go_at_call 116
    refine ((unhide KX) _).mono ?_
    rintro e w5 ⟨rfl, rfl⟩
    refine hK.out _ _ (⟨y0, y1, y2, y3, y4, s0⟩) (fun hHeld => ?_)
    clear hK K HS0
    have HS0 := hHeld
    clear hHeld
    (try simp only [Act.put, List.setIfInBounds_toArray, List.set_cons_zero, List.set_cons_succ])
    refine takeD (i := 10) (d := some 56) (v := .int .i64 (hv : Nat)) rfl rfl (by kernel_rfl) (by kernel_rfl) (by kernel_rfl) (fun _ _ _ h => h) (Or.inl ⟨by rfl, ?y10⟩) HS0 ?_
    case y10 => (intro w' hSw; (try dsimp only at hSw); go_simp; (try rw [hwv]))
    simp only [Act.put, List.setIfInBounds_toArray, List.set_cons_zero, List.set_cons_succ]
    refine takeD (i := 12) (d := some 58) (v := .int .i64 (r : Nat)) rfl rfl (by kernel_rfl) (by kernel_rfl) (by kernel_rfl) (fun _ _ _ h => h) (Or.inl ⟨by rfl, ?y12⟩) HS0 ?_
    case y12 => (intro w' hSw; (try dsimp only at hSw); go_simp; (try rw [if_neg hnj, hmo]))
    simp only [Act.put, List.setIfInBounds_toArray, List.set_cons_zero, List.set_cons_succ]
    refine wpAnyH_ready (rs := [14]) (by kernel_rfl) (by simp) ?_
    refine AllReadyH.cons (i := 14) rfl (fun K hK => ?_) AllReadyH.nil
    rw [if_pos (by rfl)]
    go_simp
    go_at_call 115
    refine ((unhide KN1) _ (below_drew' (unhide Hb))).mono ?_
    rintro e w3 ⟨rfl, hb3⟩
    have Hb3 := hide ((below_drew' (unhide Hb)).trans (hb3.mono (show w.heap.size + 1 ≤ wr.heap.size by omega)))
    have hbD3 := (unhide HbW) w3 (unhide Hb3)
    have HG3 := hide (Grew.refl (own_below (show wr.drew.ownsRow _ _ _ _ _ _ from unhide Hown) hb3))
    have Hlow3 := hide (fun k hk => ((unhide Hown).lt k hk).1)
    have z0 := hbD3.cell (i := 0) rfl
    have z1 := hbD3.cell (i := 1) rfl
    have z2 := hbD3.cell (i := 2) rfl
    have z3 := hbD3.cell (i := 3) rfl
    have z4 := hbD3.cell (i := 4) rfl
    have z5 := (hb3.cell (p := ⟨b1, o1 + i * 5, none⟩) (show b1 < wr.heap.size by omega)).trans s0
    have hs3 := hb3.size
    clear hb3 hbD3
    refine hK.out _ _ (⟨z0, z1, z2, z3, z4, z5⟩) (fun hHeld => ?_)
    clear hK K HS0
    have HS0 := hHeld
    clear hHeld
    (try simp only [Act.put, List.setIfInBounds_toArray, List.set_cons_zero, List.set_cons_succ])
    refine takeD (i := 15) (d := some 8) (v := ?_) rfl rfl (by kernel_rfl) (by kernel_rfl) (by kernel_rfl) (fun _ _ _ h => h) (Or.inl ⟨by rfl, ?y15⟩) HS0 ?_
    case y15 => (intro w' hSw; (try dsimp only at hSw); go_simp; (try with_reducible rfl))
    simp only [Act.put, List.setIfInBounds_toArray, List.set_cons_zero, List.set_cons_succ]
    refine wpAnyH_done (by kernel_rfl) ?_ _
    refine NoPanic.normal ?_
    have hs3' : wr.heap.size ≤ w3.heap.size := hs3
    clear HS0 hs3 z0 z1 z2 z3 z4 z5 y0 y1 y2 y3 y4 s0 hmo hwv hwi hrn KX KN1
    have hnx64 : nx < 18446744073709551616 := by omega
    go_wp2_with fail
    refine (rbytes14_c (nx) 4 _ _ (rfl) rfl w3 hnx64 (.inr (.inr (.inl rfl)))).mono ?_
    rintro e x1w ⟨A1n, c1n, rfl, ho, hb⟩
    have hs1n := hb.size
    have Ho1 := hide ho
    have Hb1 := hide hb
    have Hr1 := hide (own_below (unhide HG3).own hb)
    have hsg1 := (unhide HG3).kept.size
    clear ho hb
    go_wp2_with (at_builtin; refine wpList_app byteTy rfl _ _ rfl (w.heap.size + 1) (.slice Ai (8 + 4 * j + 4 * (i + 1)) ci) (8 + 4 * j + 4 * (i + 1)) _ rfl (unhide Hr1) x1w.heap.size A1n 4 c1n (bys (Cl.lb (nx) 4)) rfl (Rd.of_own (unhide Ho1)) (bys_one _) (by omega) (by omega) ?_; intro A1r c1r x1v ho hg hat; have HG1 := hide ((unhide HG3).trans (Grew.after (unhide Hb1) (show Grew x1w x1v (w.heap.size + 1) (.slice Ai (8 + 4 * j + 4 * (i + 1)) ci) (.slice A1r (8 + 4 * j + 4 * (i + 1) + 4) c1r) (8 + 4 * j + 4 * (i + 1) + 4) (((Cl.lb j 4 ++ Cl.lb (m + 1) 4 ++ Mk.lbs 4 ((List.range j).map fun b => Mk.next sy j b 0)) ++ Mk.lbs 4 ((List.range (i + 1)).map lk)) ++ Cl.lb (nx) 4) from ⟨by rw [bys_app]; exact ho, hg, hat⟩))); clear ho hg hat; )
    have hsw1 := (unhide HG1).kept.size
    have hfin := unhide HG1
    rw [List.append_assoc, ← unhide Hstep] at hfin
    have HF := hide hfin
    have HBF := hide ((unhide Hb3).trans (hfin.below (by omega : w.heap.size + 1 ≤ w3.heap.size) (unhide Hlow3)))
    have hn24 : 8 + 4 * j + 4 * (i + 1 + 1) = 8 + 4 * j + 4 * (i + 1) + 4 := by omega
    have Hn24 := hide hn24
    clear hfin hn24
    try clear y0
    try clear y1
    try clear y2
    try clear y3
    try clear y4
    go_roundg (m + 1 - (i + 1 + 1))
    case measure => have := unhide Hgk; omega
    case rel => exact ⟨i + 1 + 1, A1r, c1r, rfl, by omega, by go_num, by rw [unhide Hn24], by rw [unhide Hn24]; exact (unhide HF).own, unhide HBF⟩
-- PIECE
end Go.Proofs.YtnbecdahfgkffaaGreat
namespace Go.Proofs.YtnbecdahfgkffaaGreat
open Go.RowKit
def rowV (r : Mk.Row) : List Value := [.int .u64 (r.kind : Nat), .int .u64 (r.flags : Nat), .int .u64 (r.off : Nat), .int .u64 (r.addr : Nat), .int .u64 (r.fsz : Nat), .int .u64 (r.msz : Nat), .int .u64 (r.align : Nat)]
def rowC (l : List Mk.Row) : List Value := l.flatMap rowV
structure RowOk (r : Mk.Row) : Prop where
  kind : r.kind < 18446744073709551616
  flags : r.flags < 18446744073709551616
  off : r.off < 18446744073709551616
  addr : r.addr < 18446744073709551616
  fsz : r.fsz < 18446744073709551616
  msz : r.msz < 18446744073709551616
  align : r.align < 18446744073709551616
theorem mkrow_at {w : World} {B n : Nat} {A : Option Addr} {l : List Mk.Row} (h : Rd w B 7 A n (rowC l)) {k : Nat} {x : Mk.Row} (hk : l[k]? = some x) :
    ∃ b off, A = some ⟨b, off, none⟩ ∧ b < B ∧ w.cell? ⟨b, off + k * 7, none⟩ = some (.int .u64 (x.kind : Nat)) ∧ w.cell? ⟨b, off + k * 7 + 1, none⟩ = some (.int .u64 (x.flags : Nat)) ∧ w.cell? ⟨b, off + k * 7 + 2, none⟩ = some (.int .u64 (x.off : Nat)) ∧ w.cell? ⟨b, off + k * 7 + 3, none⟩ = some (.int .u64 (x.addr : Nat)) ∧ w.cell? ⟨b, off + k * 7 + 4, none⟩ = some (.int .u64 (x.fsz : Nat)) ∧ w.cell? ⟨b, off + k * 7 + 5, none⟩ = some (.int .u64 (x.msz : Nat)) ∧ w.cell? ⟨b, off + k * 7 + 6, none⟩ = some (.int .u64 (x.align : Nat)) := by
  have hc := flat_at rowV 7 (fun _ => rfl) l k x hk
  obtain ⟨b, off, ea, hb, hx⟩ := h.open_ (by intro e0; have := hc 0 _ rfl; rw [show l.flatMap rowV = rowC l from rfl, e0] at this; simp at this)
  refine ⟨b, off, ea, hb, ?_, ?_, ?_, ?_, ?_, ?_, ?_⟩
  · exact hx _ _ (hc 0 _ rfl)
  all_goals rw [Nat.add_assoc]
  · exact hx _ _ (hc 1 _ rfl)
  · exact hx _ _ (hc 2 _ rfl)
  · exact hx _ _ (hc 3 _ rfl)
  · exact hx _ _ (hc 4 _ rfl)
  · exact hx _ _ (hc 5 _ rfl)
  · exact hx _ _ (hc 6 _ rfl)
theorem rowsB_next {l : List Mk.Row} {j : Nat} {x : Mk.Row} (h : l[j]? = some x) : Mk.rowsB (l.take (j + 1)) = Mk.rowsB (l.take j) ++ Mk.rowB x := by
  unfold Mk.rowsB
  rw [List.take_add_one, h, List.flatMap_append]
  simp
structure Xq where
  x : Mk.Spec
  At : Option Addr
  ct : Nat
  Ad : Option Addr
  cd : Nat
  A1 : Option Addr
  c1 : Nat
  A2 : Option Addr
  c2 : Nat
  A3 : Option Addr
  c3 : Nat
def Xq.q (s : Xq) : Dq := ⟨s.x.dyn, s.A1, s.c1, s.A2, s.c2, s.A3, s.c3⟩
def Xq.l (s : Xq) : List Value := [.int .u16 (s.x.type : Nat), .int .u64 (s.x.entry : Nat), .string s.x.interp, .slice s.At s.x.text.length s.ct, .slice s.Ad s.x.data.length s.cd, .int .u64 (s.x.more : Nat), .bool s.x.dynamic, .slice s.A1 s.x.dyn.needed.length s.c1, .string s.x.dyn.soname, .string s.x.dyn.run, .slice s.A2 s.x.dyn.syms.length s.c2, .slice s.A3 s.x.dyn.relas.length s.c3, .int .i64 s.x.apart]
structure XqM (w : World) (B : Nat) (s : Xq) : Prop where
  text : Rd w B 1 s.At s.x.text.length (bys s.x.text)
  data : Rd w B 1 s.Ad s.x.data.length (bys s.x.data)
  dyn : DqM w B s.q
theorem XqM.below {w w' : World} {B : Nat} {s : Xq} (h : XqM w B s) (hb : Below B w w') : XqM w' B s := ⟨h.text.below hb, h.data.below hb, h.dyn.below hb⟩
structure XqOk (s : Xq) : Prop where
  type : s.x.type < 65536
  entry : s.x.entry < 18446744073709551616
  more : s.x.more < 18446744073709551616
  interp : s.x.interp.size ≤ 4294967296
  text : s.x.text.length ≤ 4294967296
  data : s.x.data.length ≤ 4294967296
  tc : s.x.text.length ≤ s.ct
  dc : s.x.data.length ≤ s.cd
  dyn : DqOk s.q
theorem spec_cells {w : World} {g : Nat} {s : Xq} (h : Blk w g 31 s.l) : w.cell? ⟨g, 0, none⟩ = some (.int .u16 (s.x.type : Nat)) ∧ w.cell? ⟨g, 1, none⟩ = some (.int .u64 (s.x.entry : Nat)) ∧ w.cell? ⟨g, 2, none⟩ = some (.string s.x.interp) ∧ w.cell? ⟨g, 3, none⟩ = some (.slice s.At s.x.text.length s.ct) ∧ w.cell? ⟨g, 4, none⟩ = some (.slice s.Ad s.x.data.length s.cd) ∧ w.cell? ⟨g, 5, none⟩ = some (.int .u64 (s.x.more : Nat)) ∧ w.cell? ⟨g, 6, none⟩ = some (.bool s.x.dynamic) ∧ w.cell? ⟨g, 7, none⟩ = some (.slice s.A1 s.x.dyn.needed.length s.c1) ∧ w.cell? ⟨g, 8, none⟩ = some (.string s.x.dyn.soname) ∧ w.cell? ⟨g, 9, none⟩ = some (.string s.x.dyn.run) ∧ w.cell? ⟨g, 10, none⟩ = some (.slice s.A2 s.x.dyn.syms.length s.c2) ∧ w.cell? ⟨g, 11, none⟩ = some (.slice s.A3 s.x.dyn.relas.length s.c3) ∧ w.cell? ⟨g, 12, none⟩ = some (.int .i64 s.x.apart) :=
  ⟨h.cell (i := 0) rfl, h.cell (i := 1) rfl, h.cell (i := 2) rfl, h.cell (i := 3) rfl, h.cell (i := 4) rfl, h.cell (i := 5) rfl, h.cell (i := 6) rfl, h.cell (i := 7) rfl, h.cell (i := 8) rfl, h.cell (i := 9) rfl, h.cell (i := 10) rfl, h.cell (i := 11) rfl, h.cell (i := 12) rfl⟩
set_option maxRecDepth 100000 in
set_option maxHeartbeats 8000000 in
theorem rrows_any (s : Xq) (w : World) (ho : XqOk s) :
    Calls Tryz.prog 34 #[.agg s.l.toArray] w fun e w' => e = .returned (.int .i64 (Mk.many s.x : Nat)) ∧ Below w.heap.size w w' := by
  have hb1 : Below w.heap.size w (w.alloc (.cells #[.int .u16 (s.x.type : Nat), .int .u64 (s.x.entry : Nat), .string s.x.interp, .slice s.At s.x.text.length s.ct, .slice s.Ad s.x.data.length s.cd, .int .u64 (s.x.more : Nat), .bool s.x.dynamic, .slice s.A1 s.x.dyn.needed.length s.c1, .string s.x.dyn.soname, .string s.x.dyn.run, .slice s.A2 s.x.dyn.syms.length s.c2, .slice s.A3 s.x.dyn.relas.length s.c3, .int .i64 s.x.apart] 31)) := (Below.refl _ _).alloc (Nat.le_refl _) _
  obtain ⟨-, -, y2, y3, y4, y5, y6, -⟩ := spec_cells (s := s) (Blk.new w 31 s.l)
  have y2 : (w.alloc (.cells #[.int .u16 (s.x.type : Nat), .int .u64 (s.x.entry : Nat), .string s.x.interp, .slice s.At s.x.text.length s.ct, .slice s.Ad s.x.data.length s.cd, .int .u64 (s.x.more : Nat), .bool s.x.dynamic, .slice s.A1 s.x.dyn.needed.length s.c1, .string s.x.dyn.soname, .string s.x.dyn.run, .slice s.A2 s.x.dyn.syms.length s.c2, .slice s.A3 s.x.dyn.relas.length s.c3, .int .i64 s.x.apart] 31)).cell? ⟨w.heap.size, 2, none⟩ = some (.string s.x.interp) := y2
  have y3 : (w.alloc (.cells #[.int .u16 (s.x.type : Nat), .int .u64 (s.x.entry : Nat), .string s.x.interp, .slice s.At s.x.text.length s.ct, .slice s.Ad s.x.data.length s.cd, .int .u64 (s.x.more : Nat), .bool s.x.dynamic, .slice s.A1 s.x.dyn.needed.length s.c1, .string s.x.dyn.soname, .string s.x.dyn.run, .slice s.A2 s.x.dyn.syms.length s.c2, .slice s.A3 s.x.dyn.relas.length s.c3, .int .i64 s.x.apart] 31)).cell? ⟨w.heap.size, 3, none⟩ = some (.slice s.At s.x.text.length s.ct) := y3
  have y4 : (w.alloc (.cells #[.int .u16 (s.x.type : Nat), .int .u64 (s.x.entry : Nat), .string s.x.interp, .slice s.At s.x.text.length s.ct, .slice s.Ad s.x.data.length s.cd, .int .u64 (s.x.more : Nat), .bool s.x.dynamic, .slice s.A1 s.x.dyn.needed.length s.c1, .string s.x.dyn.soname, .string s.x.dyn.run, .slice s.A2 s.x.dyn.syms.length s.c2, .slice s.A3 s.x.dyn.relas.length s.c3, .int .i64 s.x.apart] 31)).cell? ⟨w.heap.size, 4, none⟩ = some (.slice s.Ad s.x.data.length s.cd) := y4
  have y5 : (w.alloc (.cells #[.int .u16 (s.x.type : Nat), .int .u64 (s.x.entry : Nat), .string s.x.interp, .slice s.At s.x.text.length s.ct, .slice s.Ad s.x.data.length s.cd, .int .u64 (s.x.more : Nat), .bool s.x.dynamic, .slice s.A1 s.x.dyn.needed.length s.c1, .string s.x.dyn.soname, .string s.x.dyn.run, .slice s.A2 s.x.dyn.syms.length s.c2, .slice s.A3 s.x.dyn.relas.length s.c3, .int .i64 s.x.apart] 31)).cell? ⟨w.heap.size, 5, none⟩ = some (.int .u64 (s.x.more : Nat)) := y5
  have y6 : (w.alloc (.cells #[.int .u16 (s.x.type : Nat), .int .u64 (s.x.entry : Nat), .string s.x.interp, .slice s.At s.x.text.length s.ct, .slice s.Ad s.x.data.length s.cd, .int .u64 (s.x.more : Nat), .bool s.x.dynamic, .slice s.A1 s.x.dyn.needed.length s.c1, .string s.x.dyn.soname, .string s.x.dyn.run, .slice s.A2 s.x.dyn.syms.length s.c2, .slice s.A3 s.x.dyn.relas.length s.c3, .int .i64 s.x.apart] 31)).cell? ⟨w.heap.size, 6, none⟩ = some (.bool s.x.dynamic) := y6
  have ht := ho.text
  have hd := ho.data
  have Hb1 := hide hb1
  show Calls _ _ #[.agg #[.int .u16 (s.x.type : Nat), .int .u64 (s.x.entry : Nat), .string s.x.interp, .slice s.At s.x.text.length s.ct, .slice s.Ad s.x.data.length s.cd, .int .u64 (s.x.more : Nat), .bool s.x.dynamic, .slice s.A1 s.x.dyn.needed.length s.c1, .string s.x.dyn.soname, .string s.x.dyn.run, .slice s.A2 s.x.dyn.syms.length s.c2, .slice s.A3 s.x.dyn.relas.length s.c3, .int .i64 s.x.apart]] w _
  have hmany : Mk.many s.x = 2 + Mk.one (Mk.isInterp s.x) + Mk.one s.x.dynamic + Mk.one (Mk.isText s.x) + Mk.one (Mk.isData s.x) := rfl
  have h1 : s.x.interp.toList.isEmpty = !(Mk.isInterp s.x) := by rw [isEmpty_toList]; unfold Mk.isInterp; simp
  have h2 : (decide ((0 : Int) < (s.x.text.length : Nat))) = Mk.isText s.x := by unfold Mk.isText; simp
  have h3 : (decide (0 < s.x.data.length) || decide (0 < s.x.more)) = Mk.isData s.x := rfl
  generalize Mk.isInterp s.x = b1 at *
  generalize Mk.isText s.x = b2 at *
  generalize Mk.isData s.x = b3 at *
  generalize Mk.many s.x = many at *
  generalize s.x.dynamic = b4 at *
  generalize hn3 : s.x.text.length = n3 at *
  generalize hn4 : s.x.data.length = n4 at *
  generalize hn5 : s.x.more = n5 at *
  have Hm := hide hmany
  clear hb1 hmany ho hn3 hn4 hn5
  have h2' : b2 = true ↔ (0 : Int) < (n3 : Int) := by rw [← h2]; simp
  have h3' : b3 = true ↔ (0 < n4 ∨ 0 < n5) := by rw [← h3]; simp
  clear h2 h3
  have g0 : (b3 = true ∧ (0 : Int) < (n4 : Int)) ∨ (b3 = true ∧ ¬ (0 : Int) < (n4 : Int) ∧ (0 : Int) < (n5 : Int)) ∨ (b3 = false ∧ ¬ (0 : Int) < (n4 : Int) ∧ ¬ (0 : Int) < (n5 : Int)) := by
    cases b3
    · have := mt h3'.2 (by simp); exact .inr (.inr ⟨rfl, by omega, by omega⟩)
    · have := h3'.1 rfl
      by_cases h : 0 < n4
      · exact .inl ⟨rfl, by omega⟩
      · exact .inr (.inl ⟨rfl, by omega, by omega⟩)
  have g2 : (b2 = true ∧ (0 : Int) < (n3 : Int)) ∨ (b2 = false ∧ ¬ (0 : Int) < (n3 : Int)) := by
    cases b2
    · exact .inr ⟨rfl, fun h => absurd (h2'.2 h) (by simp)⟩
    · exact .inl ⟨rfl, h2'.1 rfl⟩
  clear h2' h3'
  rcases g2 with ⟨rfl, g2⟩ | ⟨rfl, g2⟩ <;> rcases g0 with ⟨rfl, g3⟩ | ⟨rfl, g3, g5⟩ | ⟨rfl, g3, g5⟩ <;> cases b1 <;> cases b4
  all_goals
    first | replace h1 : s.x.interp.toList.isEmpty = false := h1 | replace h1 : s.x.interp.toList.isEmpty = true := h1
    go_enter Tryz.func34, Tryz.ntmps34
    go_wp2_with fail
    go_ret
    exact ⟨ret_int (by rw [unhide Hm]; rfl), (Below.refl _ _).alloc (Nat.le_refl _) _⟩
end Go.Proofs.YtnbecdahfgkffaaGreat
namespace Go.Proofs.YtnbecdahfgkffaaGreat
open Go.RowKit
theorem size_z {P : Program} {e : TypeId} {z : Nat} (he : (P.info? e).map (·.size) = some z) (w : World) : (sizeOf e).run P w = .ok z w := by
  cases hi : P.info? e with
  | none => simp [hi] at he
  | some i => simp [hi] at he; simp [sizeOf, typeInfo, hi, he]
def fromZ (z : Nat) (A : Option Addr) (c k : Nat) : Option Addr := if c = k then A else A.map (·.add (k * z))
theorem run_fromZ {P : Program} {t e : TypeId} {z : Nat} (ht : P.underlying t = some (.slice e)) (he : (P.info? e).map (·.size) = some z) (A : Option Addr) (n c k : Nat) (hk : k ≤ n) (w : World) :
    (Instr.slice t (.slice A n c) (some (.int .i64 (k : Nat))) none none).run P w = .ok (.slice (fromZ z A c k) (n - k) (c - k)) w := by
  have hel : P.elem t = e := by simp [Program.elem, ht]
  rw [run_slice_l w t A n c (by rw [hel]; exact ht) .i64 (k : Nat) (by omega) (by omega), hel, size_z he]
  simp only [Result.andThen_ok, Int.toNat_natCast]
  unfold sliced fromZ
  simp
theorem run_toZ {P : Program} {t e : TypeId} {z : Nat} (ht : P.underlying t = some (.slice e)) (he : (P.info? e).map (·.size) = some z) (A : Option Addr) (n c k : Nat) (hk : k ≤ c) (w : World) :
    (Instr.slice t (.slice A n c) none (some (.int .i64 (k : Nat))) none).run P w = .ok (.slice A k c) w := by
  have hel : P.elem t = e := by simp [Program.elem, ht]
  rw [run_slice_h w t A n c (by rw [hel]; exact ht) .i64 (k : Nat) (by omega) (by omega), hel, size_z he]
  simp only [Result.andThen_ok, Int.toNat_natCast]
  unfold sliced
  have h0 : ∀ A : Option Addr, A.map (·.add (0 * z)) = A := by
    intro A
    rw [Nat.zero_mul]
    cases A with
    | none => rfl
    | some a => cases a; rfl
  rw [h0]
  simp
theorem Rd.fromZ {w : World} {B n c k z : Nat} {A : Option Addr} {xs : List Value} (h : Rd w B z A n xs) (hz : 0 < z) (hk : k ≤ n) (hc : n ≤ c) : Rd w B z (fromZ z A c k) (n - k) (xs.drop (k * z)) := by
  have hl := h.1
  refine ⟨by rw [List.length_drop, hl, Nat.sub_mul], ?_⟩
  by_cases h0 : xs.drop (k * z) = []
  · exact .inl h0
  · have h1 : 0 < (xs.drop (k * z)).length := List.length_pos_iff.2 h0
    rw [List.length_drop, hl] at h1
    have hkn : k < n := by
      rcases Nat.lt_or_ge k n with h | h
      · exact h
      · have := Nat.mul_le_mul_right z h; omega
    obtain ⟨b, off, rfl, hb, hcl⟩ := h.open_ (by intro e; rw [e] at h0; exact h0 (by simp))
    refine .inr ⟨b, off + k * z, ?_, hb, fun j u hu => ?_⟩
    · unfold Go.Proofs.YtnbecdahfgkffaaGreat.fromZ
      rw [if_neg (by omega), Option.map_some, Addr.add_lit]
    · rw [List.getElem?_drop] at hu
      have := hcl (k * z + j) u hu
      rwa [show off + k * z + j = off + (k * z + j) by omega]
theorem Rd.toZ {w : World} {B n k z : Nat} {A : Option Addr} {xs : List Value} (h : Rd w B z A n xs) (hk : k ≤ n) : Rd w B z A k (xs.take (k * z)) := by
  have hl := h.1
  have hm := Nat.mul_le_mul_right z hk
  refine ⟨by rw [List.length_take]; omega, ?_⟩
  rcases h.2 with h0 | ⟨b, off, e, hb, hc⟩
  · exact .inl (by rw [h0]; simp)
  · refine .inr ⟨b, off, e, hb, fun j u hu => hc j u ?_⟩
    rw [List.getElem?_take] at hu
    split at hu
    · exact hu
    · cases hu
theorem flat_take {α : Type} (f : α → List Value) (z : Nat) (hf : ∀ x, (f x).length = z) : ∀ (l : List α) (k : Nat), (l.flatMap f).take (k * z) = (l.take k).flatMap f ∧ (l.flatMap f).drop (k * z) = (l.drop k).flatMap f := by
  intro l
  induction l with
  | nil => intro k; simp
  | cons a r ih =>
    intro k
    cases k with
    | zero => simp
    | succ k =>
      have hk : (k + 1) * z = (f a).length + k * z := by rw [hf, Nat.succ_mul]; omega
      rw [List.flatMap_cons, hk, List.take_length_add_append, List.drop_length_add_append, (ih k).1, (ih k).2]
      simp
theorem wp_app1m {P : Program} {t e : TypeId} {size bytes : Nat} (T : SlTy P t e size bytes) {W : World} {o : Oper} {a : Act} {K : Act → World → Prop} {Q : Exit → Act → World → Prop} (s x : Operand)
    (ho : o.op = .call { callee := .builtin .append, args := #[s, x], argTypes := #[t, t] })
    (base : Nat) (v : Value) (n : Nat) (xs : List Value) (hs : a.eval s = v) (hown : W.ownsRow base e size v n xs)
    (cs : Array Value) (g : Nat) (hx : a.eval x = .slice (some ⟨g, 0, none⟩) 1 1) (hg : g = W.heap.size) (hcs : cs.size = size) (h1 : ∀ u ∈ cs.toList, u.oneCell' = true)
    (hb : (n + 1) * bytes ≤ 140737488355328) (hbase : base ≤ W.heap.size)
    (h : ∀ A' c' w', w'.ownsRow base e size (.slice A' (n + 1) c') (n + 1) (xs ++ cs.toList) → W.grownBy w' v.ownBlock → (∀ k, (Value.slice A' (n + 1) c').ownBlock = some k → v.ownBlock = some k ∨ W.heap.size ≤ k) → K (a.put o.dst (.slice A' (n + 1) c')) w') : o.wp P a (W.alloc (.cells cs e)) K Q := by
  subst hg
  refine wp_app T s x ho base v n xs hs (hown.alloc _) (W.heap.size + 1) (some ⟨W.heap.size, 0, none⟩) 1 1 cs.toList hx (Rd.row hcs) h1 hb (by simp; omega) fun v' w' h2 h3 h4 => ?_
  obtain ⟨A', c', rfl⟩ := own_form h2
  refine h A' c' w' h2 (grown_trans (World.grownBy_alloc W _ _) h3) (fun k hk => ?_)
  rcases h4 k hk with h5 | h5
  · exact .inl h5
  · refine .inr ?_
    simp at h5
    omega
theorem own_setG {w : World} {base n c size : Nat} {A : Option Addr} {e : TypeId} {xs : List Value} (h : w.ownsRow base e size (.slice A n c) n xs) {p : Addr} (hp : bk A ≠ some p.block) (u : Value) : (w.setCell p u).ownsRow base e size (.slice A n c) n xs := by
  refine ⟨h.1, h.2.imp id ?_⟩
  rintro ⟨k, cap, cur, e1, e2, e3, r'⟩
  have hk : bk A = some k := by injection e1 with e1; rw [e1]; rfl
  exact ⟨k, cap, cur, e1, e2, (heap_setCell_other _ _ _ _ (fun e => hp (by rw [hk, e]))).trans e3, r'⟩
theorem own_grownG {w w' : World} {base n c size : Nat} {A A2 : Option Addr} {e : TypeId} {xs : List Value} (h : w.ownsRow base e size (.slice A n c) n xs) (hg : w.grownBy w' (bk A2)) (hp : ∀ k, bk A = some k → bk A2 ≠ some k) : w'.ownsRow base e size (.slice A n c) n xs := by
  refine ⟨h.1, h.2.imp id ?_⟩
  rintro ⟨k, cap, cur, e1, e2, e3, r'⟩
  have hk : bk A = some k := by injection e1 with e1; rw [e1]; rfl
  exact ⟨k, cap, cur, e1, e2, (hg.block k (lt_of_block e3) (fun e => hp k hk e.symm)).trans e3, r'⟩
theorem own_bklt {w : World} {base n c size : Nat} {A : Option Addr} {e : TypeId} {xs : List Value} (h : w.ownsRow base e size (.slice A n c) n xs) : ∀ k, bk A = some k → base ≤ k ∧ k < w.heap.size := fun k hk => h.lt k (by rw [own_bk]; exact hk)
structure Tb where
  Ah : Option Addr
  nh : Nat
  ch : Nat
  As : Option Addr
  ns : Nat
  cs : Nat
  Ao : Option Addr
  no : Nat
  co : Nat
  Aw : Option Addr
  nw : Nat
  cw : Nat
  At : Option Addr
  nt : Nat
  ct : Nat
  An : Option Addr
  nn : Nat
  cn : Nat
  so : Nat
  ru : Nat
def Tb.l (q : Tb) : List Value := [.slice q.Ah q.nh q.ch, .slice q.As q.ns q.cs, .slice q.Ao q.no q.co, .slice q.Aw q.nw q.cw, .slice q.At q.nt q.ct, .slice q.An q.nn q.cn, .int .u64 (q.so : Nat), .int .u64 (q.ru : Nat)]
structure TbM (w0 wr : World) (b0 gt : Nat) (q : Tb) (ts : List UInt8) (ps : List Nat) : Prop where
  blk : Blk wr gt 96 q.l
  texts : wr.ownsRow b0 5 1 (.slice q.At q.nt q.ct) q.nt (bys ts)
  needed : wr.ownsRow b0 23 1 (.slice q.An q.nn q.cn) q.nn (u64s ps)
  d1 : bk q.At ≠ some gt
  d2 : bk q.An ≠ some gt
  d3 : ∀ k, bk q.An = some k → bk q.At ≠ some k
  bel : Below b0 w0 wr
  hg : b0 ≤ gt
  h0 : b0 ≤ w0.heap.size
section
variable {w0 wr w' w8 : World} {b0 gt : Nat} {q : Tb} {ts ts' : List UInt8} {ps : List Nat}
theorem TbM.sz (h : TbM w0 wr b0 gt q ts ps) : b0 ≤ wr.heap.size := Nat.le_trans h.h0 h.bel.size
theorem TbM.fi (h : TbM w0 wr b0 gt q ts ps) : FiM wr 96 gt 4 q.l b0 q.At q.nt q.ct ts := ⟨h.blk, rfl, h.texts, h.d1⟩
theorem TbM.put {At' : Option Addr} {nt' ct' : Nat} (h : TbM w0 wr b0 gt q ts ps) (e : FiE 96 gt 4 q.l b0 q.At wr w' At' nt' ct' ts') : TbM w0 w' b0 gt { q with At := At', nt := nt', ct := ct' } ts' ps := by
  obtain ⟨h1, h2⟩ := e.own h.needed h.d2 h.d3
  exact ⟨e.m.blk, e.m.row, h1, e.m.ne, h.d2, h2, h.bel.trans (e.below h.hg (fun k hk => (own_bklt h.texts k hk).1) h.sz), h.hg, h.h0⟩
theorem TbM.below (h : TbM w0 wr b0 gt q ts ps) (hb : Below wr.heap.size wr w') : TbM w0 w' b0 gt q ts ps := ⟨h.blk.belowSz hb, own_below h.texts hb, own_below h.needed hb, h.d1, h.d2, h.d3, h.bel.trans (hb.mono h.sz), h.hg, h.h0⟩
theorem TbM.set (h : TbM w0 wr b0 gt q ts ps) {q' : Tb} {i : Nat} {v : Value} (hl : q.l.set i v = q'.l) (h1 : q'.At = q.At) (h2 : q'.nt = q.nt) (h3 : q'.ct = q.ct) (h4 : q'.An = q.An) (h5 : q'.nn = q.nn) (h6 : q'.cn = q.cn) : TbM w0 (wr.setCell ⟨gt, i, none⟩ v) b0 gt q' ts ps := by
  refine ⟨by rw [← hl]; exact h.blk.set i v, by rw [h1, h2, h3]; exact own_setG h.texts h.d1 v, by rw [h4, h5, h6]; exact own_setG h.needed h.d2 v, by rw [h1]; exact h.d1, by rw [h4]; exact h.d2, by rw [h1, h4]; exact h.d3, h.bel.setCell h.hg v, h.hg, h.h0⟩
theorem TbM.grow {A' : Option Addr} {c' p : Nat} (h : TbM w0 wr b0 gt q ts ps) (ho : w8.ownsRow b0 23 1 (.slice A' (q.nn + 1) c') (q.nn + 1) (u64s ps ++ [.int .u64 (p : Nat)])) (hg : wr.grownBy w8 (Value.slice q.An q.nn q.cn).ownBlock) (ha : ∀ k, (Value.slice A' (q.nn + 1) c').ownBlock = some k → (Value.slice q.An q.nn q.cn).ownBlock = some k ∨ wr.heap.size ≤ k) :
    Blk w8 gt 96 q.l ∧ Below b0 w0 w8 ∧ TbM w0 (w8.setCell ⟨gt, 5, none⟩ (.slice A' (q.nn + 1) c')) b0 gt { q with An := A', nn := q.nn + 1, cn := c' } ts (ps ++ [p]) := by
  rw [own_bk] at hg
  have hA : ∀ k, bk A' = some k → bk q.An = some k ∨ wr.heap.size ≤ k := fun k hk => by have := ha k (by rw [own_bk]; exact hk); rwa [own_bk] at this
  have hb : Blk w8 gt 96 q.l := (hg.block gt h.blk.lt (fun e => h.d2 e.symm)).trans h.blk
  have ht := own_grownG h.texts hg (fun k hk hk2 => h.d3 k hk2 hk)
  have hd2 : bk A' ≠ some gt := fun e => by
    rcases hA gt e with h1 | h1
    · exact h.d2 h1
    · have := h.blk.lt; omega
  refine ⟨hb, h.bel.grown hg h.sz (fun k hk => (own_bklt h.needed k hk).1), ⟨hb.set 5 _, own_setG ht h.d1 _, ?_, h.d1, hd2, fun k hk hk2 => ?_, (h.bel.grown hg h.sz (fun k hk => (own_bklt h.needed k hk).1)).setCell h.hg _, h.hg, h.h0⟩⟩
  · have h1 := own_setG ho (p := ⟨gt, 5, none⟩) hd2 (.slice A' (q.nn + 1) c')
    rw [show u64s (ps ++ [p]) = u64s ps ++ [.int .u64 (p : Nat)] by simp [u64s]]
    exact h1
  · rcases hA k hk with h1 | h1
    · exact h.d3 k h1 hk2
    · have := (own_bklt h.texts k hk2).2; omega
end
theorem places_app (t : List UInt8) (a b : List ByteArray) : Mk.places t (a ++ b) = Mk.places t a ++ Mk.places (Mk.puts t a) b := by
  induction a generalizing t with
  | nil => rfl
  | cons s r ih =>
    show _ :: Mk.places (Mk.put t s) (r ++ b) = _
    rw [ih]
    rfl
theorem places_next {t : List UInt8} {l : List ByteArray} {j : Nat} {x : ByteArray} (h : l[j]? = some x) : Mk.places t (l.take (j + 1)) = Mk.places t (l.take j) ++ [Mk.place (Mk.puts t (l.take j)) x] ∧ Mk.puts t (l.take (j + 1)) = Mk.put (Mk.puts t (l.take j)) x := by
  rw [List.take_add_one, h, places_app, puts_app]
  exact ⟨rfl, rfl⟩
theorem places_len (t : List UInt8) (l : List ByteArray) : (Mk.places t l).length = l.length := by
  induction l generalizing t with
  | nil => rfl
  | cons s r ih => simp [Mk.places, ih]
structure DqFit (q : Dq) : Prop where
  n1 : q.d.needed.length ≤ 8
  n2 : q.d.syms.length ≤ 64
  n3 : q.d.relas.length ≤ 64
  sy : ∀ s ∈ q.d.syms, SyOk s
  re : ∀ r ∈ q.d.relas, MrOk r
def hashP (d : Mk.Dyn) : List UInt8 := if d.syms.length = 0 then [] else Mk.hashB d.syms
def symsP (d : Mk.Dyn) : List UInt8 := if d.syms.length = 0 then [] else Mk.symsB (Mk.texts2 d) d.syms
structure TabM (w : World) (B : Nat) (x : Mk.Spec) (q : Tb) : Prop where
  hash : w.ownsRow B 5 1 (.slice q.Ah q.nh q.ch) q.nh (bys (hashP x.dyn))
  syms : w.ownsRow B 5 1 (.slice q.As q.ns q.cs) q.ns (bys (symsP x.dyn))
  one : w.ownsRow B 5 1 (.slice q.Ao q.no q.co) q.no (bys (Mk.relsB (x.dyn.relas.take (Mk.last x))))
  two : w.ownsRow B 5 1 (.slice q.Aw q.nw q.cw) q.nw (bys (Mk.relsB (x.dyn.relas.drop (Mk.last x))))
  texts : w.ownsRow B 5 1 (.slice q.At q.nt q.ct) q.nt (bys (Mk.texts3 x.dyn))
  needed : w.ownsRow B 23 1 (.slice q.An q.nn q.cn) q.nn (u64s (Mk.places [0] x.dyn.needed))
  so : q.so = Mk.place (Mk.texts0 x.dyn) x.dyn.soname
  ru : q.ru = Mk.place (Mk.texts1 x.dyn) x.dyn.run
end Go.Proofs.YtnbecdahfgkffaaGreat
namespace Go.Proofs.YtnbecdahfgkffaaGreat
open Go.RowKit
def sizeT (nn so ru ns no nw : Nat) : Nat := nn + 3 + (if so = 0 then 0 else 1) + (if ru = 0 then 0 else 1) + (if ns = 0 then 0 else 3) + (if no = 0 then 0 else 3) + (if nw = 0 then 0 else 3)
set_option maxRecDepth 100000 in
set_option maxHeartbeats 8000000 in
theorem rsize_any (Ah As Ao Aw At An : Option Addr) (nh ch ns cs no co nw cw nt ct nn cn so ru : Nat) (w : World) (h1 : nn ≤ 4294967296) (h2 : ns ≤ 1099511627776) (h3 : no ≤ 1099511627776) (h4 : nw ≤ 1099511627776) :
    Calls Tryz.prog 83 #[.agg #[.slice Ah nh ch, .slice As ns cs, .slice Ao no co, .slice Aw nw cw, .slice At nt ct, .slice An nn cn, .int .u64 (so : Nat), .int .u64 (ru : Nat)]] w fun e w' => e = .returned (.int .i64 (sizeT nn so ru ns no nw : Nat)) ∧ Below w.heap.size w w' := by
  have hb1 : Below w.heap.size w (w.alloc (.cells #[.slice Ah nh ch, .slice As ns cs, .slice Ao no co, .slice Aw nw cw, .slice At nt ct, .slice An nn cn, .int .u64 (so : Nat), .int .u64 (ru : Nat)] 96)) := (Below.refl _ _).alloc (Nat.le_refl _) _
  have hbl := Blk.new w 96 [.slice Ah nh ch, .slice As ns cs, .slice Ao no co, .slice Aw nw cw, .slice At nt ct, .slice An nn cn, .int .u64 (so : Nat), .int .u64 (ru : Nat)]
  have y1 := hbl.cell (i := 1) rfl
  have y2 := hbl.cell (i := 2) rfl
  have y3 := hbl.cell (i := 3) rfl
  have y5 := hbl.cell (i := 5) rfl
  have y6 := hbl.cell (i := 6) rfl
  have y7 := hbl.cell (i := 7) rfl
  have Hb1 := hide hb1
  have Hsz := hide (show sizeT nn so ru ns no nw = nn + 3 + (if so = 0 then 0 else 1) + (if ru = 0 then 0 else 1) + (if ns = 0 then 0 else 3) + (if no = 0 then 0 else 3) + (if nw = 0 then 0 else 3) from rfl)
  generalize sizeT nn so ru ns no nw = res at *
  clear hb1 hbl
  have c1 : (so = 0 ∧ ((so : Int) != 0) = false) ∨ (¬ so = 0 ∧ ((so : Int) != 0) = true) := by
    by_cases h : so = 0
    · exact .inl ⟨h, by rw [h]; rfl⟩
    · exact .inr ⟨h, by rw [bne_iff_ne]; omega⟩
  have c2 : (ru = 0 ∧ ((ru : Int) != 0) = false) ∨ (¬ ru = 0 ∧ ((ru : Int) != 0) = true) := by
    by_cases h : ru = 0
    · exact .inl ⟨h, by rw [h]; rfl⟩
    · exact .inr ⟨h, by rw [bne_iff_ne]; omega⟩
  have c3 : (ns = 0 ∧ ¬ (0 : Int) < (ns : Int)) ∨ (¬ ns = 0 ∧ (0 : Int) < (ns : Int)) := by omega
  have c4 : (no = 0 ∧ ¬ (0 : Int) < (no : Int)) ∨ (¬ no = 0 ∧ (0 : Int) < (no : Int)) := by omega
  have c5 : (nw = 0 ∧ ¬ (0 : Int) < (nw : Int)) ∨ (¬ nw = 0 ∧ (0 : Int) < (nw : Int)) := by omega
  rcases c1 with ⟨d1, c1⟩ | ⟨d1, c1⟩ <;> rcases c2 with ⟨d2, c2⟩ | ⟨d2, c2⟩ <;> rcases c3 with ⟨d3, c3⟩ | ⟨d3, c3⟩ <;> rcases c4 with ⟨d4, c4⟩ | ⟨d4, c4⟩ <;> rcases c5 with ⟨d5, c5⟩ | ⟨d5, c5⟩
  all_goals
    have D1 := hide d1
    have D2 := hide d2
    have D3 := hide d3
    have D4 := hide d4
    have D5 := hide d5
    clear d1 d2 d3 d4 d5
    go_enter Tryz.func83, Tryz.ntmps83
    go_wp2_with fail
    go_ret
    refine ⟨ret_int ?_, (Below.refl _ _).alloc (Nat.le_refl _) _⟩
    have d1 := unhide D1
    have d2 := unhide D2
    have d3 := unhide D3
    have d4 := unhide D4
    have d5 := unhide D5
    have hs := unhide Hsz
    simp only [d1, d2, d3, d4, d5, if_true, if_false] at hs
    omega
end Go.Proofs.YtnbecdahfgkffaaGreat
namespace Go.Proofs.YtnbecdahfgkffaaGreat
open Go.RowKit
structure SeS (g base : Nat) (A : Option Addr) (l : List Value) (W0 wr : World) (fs : List UInt8) (es : List (Nat × Nat)) (Ab : Option Addr) (nb cb : Nat) : Prop where
  fi : ∃ Af nf cf, FiE 87 g 0 l base A W0 wr Af nf cf fs ∧ ∀ k, bk Ab = some k → bk Af ≠ some k
  row : wr.ownsRow W0.heap.size 5 1 (.slice Ab nb cb) nb (bys (Mk.entsB es))
  hg : g < W0.heap.size
  hA : ∀ k, bk A = some k → base ≤ k ∧ k < W0.heap.size
section
variable {g base nb cb : Nat} {A Ab : Option Addr} {l : List Value} {W0 wr w' : World} {fs fs' ps : List UInt8} {es : List (Nat × Nat)}
theorem SeS.size (h : SeS g base A l W0 wr fs es Ab nb cb) : W0.heap.size ≤ wr.heap.size := by
  obtain ⟨Af, nf, cf, hE, -⟩ := h.fi
  exact hE.size
theorem SeS.abg (h : SeS g base A l W0 wr fs es Ab nb cb) : bk Ab ≠ some g := fun e => by have := (own_bklt h.row g e).1; have := h.hg; omega
theorem entsB_snoc (es : List (Nat × Nat)) (e : Nat × Nat) : Mk.entsB (es ++ [e]) = Mk.entsB es ++ Mk.pairB e := by unfold Mk.entsB; simp
theorem SeS.pair {a v c2 : Nat} {A2 : Option Addr} (h : SeS g base A l W0 wr fs es Ab nb cb) (G : Grew wr w' W0.heap.size (.slice Ab nb cb) (.slice A2 (nb + 16) c2) (nb + 16) (Mk.entsB es ++ Mk.pairB (a, v))) : SeS g base A l W0 w' fs (es ++ [(a, v)]) A2 (nb + 16) c2 := by
  obtain ⟨Af, nf, cf, hE, hd⟩ := h.fi
  have hk : wr.grownBy w' (bk Ab) := by have := G.kept; rwa [own_bk] at this
  refine ⟨⟨Af, nf, cf, hE.grown hk h.abg (fun k hk1 hk2 => hd k hk2 hk1) (fun k hk => (own_bklt h.row k hk).1), fun k hk1 hk2 => ?_⟩, by rw [entsB_snoc]; exact G.own, h.hg, h.hA⟩
  rcases G.at_ k (by rw [own_bk]; exact hk1) with h1 | h1
  · rw [own_bk] at h1; exact hd k h1 hk2
  · have := hE.m.lt k hk2; omega
theorem SeS.putE {Af Af2 : Option Addr} {nf cf nf2 cf2 : Nat} (h : SeS g base A l W0 wr fs es Ab nb cb) (hE : FiE 87 g 0 l base A W0 wr Af nf cf fs) (hd : ∀ k, bk Ab = some k → bk Af ≠ some k) (E : FiE 87 g 0 (l.set 0 (.slice Af nf cf)) base Af wr w' Af2 nf2 cf2 fs') : SeS g base A l W0 w' fs' es Ab nb cb := by
  obtain ⟨h1, h2⟩ := E.own h.row h.abg hd
  exact ⟨⟨Af2, nf2, cf2, hE.trans E, h2⟩, h1, h.hg, h.hA⟩
theorem SeS.own {b2 size n2 c2 : Nat} {A2 : Option Addr} {e : TypeId} {ys : List Value} (h : SeS g base A l W0 wr fs es Ab nb cb) (r : W0.ownsRow b2 e size (.slice A2 n2 c2) n2 ys) (h1 : bk A2 ≠ some g) (h2 : ∀ k, bk A2 = some k → bk A ≠ some k) :
    wr.ownsRow b2 e size (.slice A2 n2 c2) n2 ys := by
  obtain ⟨Af, nf, cf, hE, -⟩ := h.fi
  exact (hE.own r h1 h2).1
theorem SeS.blk {t : TypeId} {k : Nat} {l2 : List Value} (h : SeS g base A l W0 wr fs es Ab nb cb) (b : Blk W0 k t l2) (h1 : k ≠ g) (h2 : bk A ≠ some k) : Blk wr k t l2 := by
  obtain ⟨Af, nf, cf, hE, -⟩ := h.fi
  exact hE.blk b h1 h2
theorem SeS.callPair (h : SeS g base A l W0 wr fs es Ab nb cb) (a v : Nat) (ha : a < 18446744073709551616) (hv : v < 18446744073709551616) (hn : nb ≤ 35184372088832) (ai vi : Int) (hai : ai = (a : Nat)) (hvi : vi = (v : Nat)) :
    Calls Tryz.prog 84 #[.slice Ab nb cb, .int .u64 ai, .int .u64 vi] wr fun e w' => ∃ A2 c2, e = .returned (.slice A2 (nb + 16) c2) ∧ SeS g base A l W0 w' fs (es ++ [(a, v)]) A2 (nb + 16) c2 := by
  subst hai hvi
  refine (rpair_any Ab nb cb W0.heap.size (Mk.entsB es) a v wr h.row h.size hn ha hv).mono ?_
  rintro e w1 ⟨A2, c2, rfl, G⟩
  exact ⟨A2, c2, rfl, h.pair G⟩
theorem SeS.callPut (h : SeS g base A l W0 wr fs es Ab nb cb) {b0 : Nat} (hl1 : l[1]? = some (.int .u64 (b0 : Nat))) (hb0 : b0 ≤ 4294967296) (hbase : base ≤ W0.heap.size) (hfs : fs.length ≤ 4294967296) {b2 np cp : Nat} {Ap : Option Addr} (r : W0.ownsRow b2 5 1 (.slice Ap np cp) np (bys ps)) (hnp : np ≤ 4294967296) (h1 : bk Ap ≠ some g) (h2 : ∀ k, bk Ap = some k → bk A ≠ some k) :
    Calls Tryz.prog 35 #[.pointer (some ⟨g, 0, none⟩), .slice Ap np cp] wr fun e w' => e = .returned (.int .u64 (b0 + (Mk.pad 8 fs).length : Nat)) ∧ SeS g base A l W0 w' (Mk.pad 8 fs ++ ps) es Ab nb cb := by
  obtain ⟨Af, nf, cf, hE, hd⟩ := h.fi
  obtain ⟨r1, r2⟩ := hE.own r h1 h2
  have hl := hE.m.len
  refine (rfput_any _ g _ base b0 Af nf cf fs Ap np cp ps wr hE.m (by rw [List.getElem?_set_ne (by omega)]; exact hl1) (Nat.le_trans hbase hE.size) (by omega) hnp hb0 (Rd.of_own r1) h1 r2).mono ?_
  rintro e w1 ⟨A2, n2, c2, rfl, E⟩
  exact ⟨rfl, h.putE hE hd E⟩
end
theorem lbs_len (k : Nat) (l : List Nat) : (Mk.lbs k l).length = k * l.length := by
  induction l with
  | nil => simp [Mk.lbs]
  | cons x r ih => rw [Mk.lbs, List.length_append, Cl.lb_len, ih, List.length_cons, Nat.mul_succ]; omega
theorem hashB_len (l : List Dy.Sym) : (Mk.hashB l).length = 8 + 4 * (l.length / 2 + 1) + 4 * (l.length + 1) := by
  unfold Mk.hashB Mk.heads Mk.links Mk.buckets
  simp [Cl.lb_len, lbs_len]
  omega
theorem symB_len (p : Nat) (s : Dy.Sym) : (Mk.symB p s).length = 24 := by unfold Mk.symB; simp [Cl.lb_len]
theorem symRows_len (t : List UInt8) (l : List Dy.Sym) : (Mk.symRows t l).length = 24 * l.length := by
  induction l generalizing t with
  | nil => rfl
  | cons s r ih => rw [Mk.symRows, List.length_append, symB_len, ih, List.length_cons, Nat.mul_succ]; omega
theorem symsB_len (t : List UInt8) (l : List Dy.Sym) : (Mk.symsB t l).length = 24 * (l.length + 1) := by
  unfold Mk.symsB
  rw [List.length_append, zs_len, symRows_len]
  omega
theorem relB_len (r : Mk.Rel) : (Mk.relB r).length = 24 := by unfold Mk.relB; simp [Cl.lb_len]
theorem relsB_len (l : List Mk.Rel) : (Mk.relsB l).length = 24 * l.length := by
  unfold Mk.relsB
  induction l with
  | nil => rfl
  | cons s r ih => rw [List.flatMap_cons, List.length_append, relB_len, ih, List.length_cons, Nat.mul_succ]; omega
theorem pad_le (m : Nat) (hm : 0 < m) (f : List UInt8) : (Mk.pad m f).length < f.length + m := by
  unfold Mk.pad
  rw [List.length_append, zs_len]
  have := gap_lt (m := m) (n := f.length) hm
  omega
def Mk.st0 (x : Mk.Spec) (f : List UInt8) : List UInt8 × List (Nat × Nat) := (Mk.pad 8 f ++ Mk.zs (Mk.room x), Mk.heads2 x.dyn)
def Mk.st1 (x : Mk.Spec) (f : List UInt8) := (Mk.partSyms x.dyn).foldl (Mk.stepPart (Mk.base x)) (Mk.st0 x f)
def Mk.st2 (x : Mk.Spec) (f : List UInt8) := (Mk.partOne x).foldl (Mk.stepPart (Mk.base x)) (Mk.st1 x f)
def Mk.st3 (x : Mk.Spec) (f : List UInt8) := (Mk.partTwo x).foldl (Mk.stepPart (Mk.base x)) (Mk.st2 x f)
theorem laid_st (x : Mk.Spec) (f : List UInt8) : Mk.laidParts x f = Mk.stepPart (Mk.base x) (Mk.st3 x f) (4, Mk.texts3 x.dyn) := by
  unfold Mk.laidParts Mk.parts Mk.st3 Mk.st2 Mk.st1 Mk.st0
  rw [List.foldl_append, List.foldl_append, List.foldl_append]
  rfl
theorem texts0_pos (t : List UInt8) (l : List ByteArray) : t.length ≤ (Mk.puts t l).length := by
  induction l generalizing t with
  | nil => exact Nat.le_refl _
  | cons s r ih =>
    have h1 := ih (Mk.put t s)
    have h2 : t.length ≤ (Mk.put t s).length := by unfold Mk.put; split <;> simp <;> omega
    exact Nat.le_trans h2 h1
theorem told_app (a b : List (Nat × List UInt8)) : Mk.told (a ++ b) = Mk.told a ++ Mk.told b := by unfold Mk.told; simp
theorem room_eq (x : Mk.Spec) (so ru ns no nw : Nat) (hso : so = 0 ↔ x.dyn.soname.size = 0) (hru : ru = 0 ↔ x.dyn.run.size = 0) (hns : ns = 0 ↔ x.dyn.syms.length = 0) (hno : no = 0 ↔ Mk.last x = 0) (hnw : nw = 0 ↔ x.apart.toNat = 0) : Mk.room x = 16 * sizeT x.dyn.needed.length so ru ns no nw := by
  unfold Mk.room Mk.parts
  rw [told_app, told_app, told_app]
  have h1 : (Mk.heads2 x.dyn).length = x.dyn.needed.length + (if so = 0 then 0 else 1) + (if ru = 0 then 0 else 1) := by
    unfold Mk.heads2 Mk.heads1 Mk.heads0
    by_cases a : x.dyn.soname.size = 0 <;> by_cases b : x.dyn.run.size = 0 <;> simp [a, b, hso, hru, places_len]
  have h2 : (Mk.told (Mk.partSyms x.dyn)).length = if ns = 0 then 0 else 3 := by
    unfold Mk.partSyms
    by_cases a : x.dyn.syms.length = 0
    · rw [if_pos a, if_pos (hns.2 a)]; rfl
    · rw [if_neg a, if_neg (fun e => a (hns.1 e))]; rfl
  have h3 : (Mk.told (Mk.partOne x)).length = if no = 0 then 0 else 3 := by
    unfold Mk.partOne
    by_cases a : Mk.last x = 0
    · rw [if_pos a, if_pos (hno.2 a)]; rfl
    · rw [if_neg a, if_neg (fun e => a (hno.1 e))]; rfl
  have h4 : (Mk.told (Mk.partTwo x)).length = if nw = 0 then 0 else 3 := by
    unfold Mk.partTwo
    by_cases a : x.apart.toNat = 0
    · rw [if_pos a, if_pos (hnw.2 a)]; rfl
    · rw [if_neg a, if_neg (fun e => a (hnw.1 e))]; rfl
  have h5 : (Mk.told [(4, Mk.texts3 x.dyn)]).length = 3 := rfl
  unfold sizeT
  simp only [List.length_append, h1, h2, h3, h4, h5]
  omega
end Go.Proofs.YtnbecdahfgkffaaGreat
namespace Go.Proofs.YtnbecdahfgkffaaGreat
open Go.RowKit
theorem FiE.copy {t : TypeId} {g o base n1 c1 kf : Nat} {l : List Value} {A : Option Addr} {w w1 : World} {xs1 ys : List UInt8} (h : FiE t g o l base A w w1 (some ⟨kf, 0, none⟩) n1 c1 xs1) (cs : Array Value) (ho : (w1.setRow kf cs).ownsRow base 5 1 (.slice (some ⟨kf, 0, none⟩) n1 c1) n1 (bys ys)) : FiE t g o l base A w (w1.setRow kf cs) (some ⟨kf, 0, none⟩) n1 c1 ys :=
  ⟨⟨(setRow_other w1 kf g cs (fun e => h.m.ne (by rw [e]; rfl))).trans h.m.blk, h.m.at_, ho, h.m.ne⟩, h.os, h.tape, h.output, by simpa [World.setRow] using h.size, fun k hk h1 h2 => (setRow_other w1 kf k cs (fun e => by
    rcases h.at_ kf rfl with h3 | h3
    · rw [← e] at h3; exact h2 h3
    · omega)).trans (h.block k hk h1 h2), h.at_⟩
theorem pairB_len (e : Nat × Nat) : (Mk.pairB e).length = 16 := by unfold Mk.pairB; simp [Cl.lb_len]
theorem entsB_len (l : List (Nat × Nat)) : (Mk.entsB l).length = 16 * l.length := by
  unfold Mk.entsB
  induction l with
  | nil => rfl
  | cons s r ih => rw [List.flatMap_cons, List.length_append, pairB_len, ih, List.length_cons, Nat.mul_succ]; omega
theorem tell_len (k a n : Nat) : (Mk.tell k a n).length = (Mk.tell k 0 0).length := by
  unfold Mk.tell
  split <;> rfl
theorem fold_len (b : Nat) (l : List (Nat × List UInt8)) : ∀ st, (l.foldl (Mk.stepPart b) st).2.length = st.2.length + (Mk.told l).length ∧ st.1.length ≤ (l.foldl (Mk.stepPart b) st).1.length := by
  induction l with
  | nil => intro st; simp [Mk.told]
  | cons p r ih =>
    intro st
    obtain ⟨h1, h2⟩ := ih (Mk.stepPart b st p)
    rw [List.foldl_cons, h1]
    refine ⟨?_, Nat.le_trans ?_ h2⟩
    · unfold Mk.stepPart Mk.told
      simp only [List.length_append, List.flatMap_cons]
      rw [tell_len]
      omega
    · unfold Mk.stepPart Mk.pad
      simp only [List.length_append]
      omega
theorem laid_len (x : Mk.Spec) (f : List UInt8) : (Mk.laidParts x f).2.length = (Mk.heads2 x.dyn ++ Mk.told (Mk.parts x)).length := by
  unfold Mk.laidParts
  rw [(fold_len _ _ _).1, List.length_append]
theorem laid_len1 (x : Mk.Spec) (f : List UInt8) : (Mk.st0 x f).1.length ≤ (Mk.laidParts x f).1.length := by
  unfold Mk.laidParts Mk.st0
  exact (fold_len _ _ _).2
theorem places_le (t : List UInt8) (l : List ByteArray) : ∀ p ∈ Mk.places t l, p ≤ (Mk.puts t l).length := by
  induction l generalizing t with
  | nil => intro p h; cases h
  | cons s r ih =>
    intro p h
    rcases List.mem_cons.1 h with rfl | h
    · have h1 : Mk.place t s ≤ t.length := by unfold Mk.place; split <;> omega
      exact Nat.le_trans h1 (texts0_pos t (s :: r))
    · exact ih (Mk.put t s) p h
theorem u8sz : (Tryz.prog.info? 5).map (·.size) = some 1 := by kernel_rfl
theorem over_take {l ys : List Value} {p m n : Nat} (hm : ys.length = m) (h : p + m ≤ n) (hn : n ≤ l.length) : (l.take p ++ ys ++ l.drop (p + m)).take n = (l.take n).take p ++ ys ++ (l.take n).drop (p + m) := by
  have h1 : (l.take p ++ ys).length = p + m := by rw [List.length_append, List.length_take, hm]; omega
  rw [List.take_append, h1, List.take_of_length_le (by omega), List.take_take, Nat.min_eq_left (by omega), List.drop_take]
theorem wp_copyB {o : Oper} {a : Act} {w : World} {K : Act → World → Prop} {Q : Exit → Act → World → Prop} (d x : Operand) (ho : o.op = .call { callee := .builtin .copy, args := #[d, x], argTypes := #[24, 24] }) (k p dn dc base nf cf : Nat) (fs ys : List UInt8)
    (hd : a.eval d = .slice (some ⟨k, p, none⟩) dn dc) (hown : w.ownsRow base 5 1 (.slice (some ⟨k, 0, none⟩) nf cf) nf (bys fs)) (b2 o2 m cx B : Nat) (hx : a.eval x = .slice (some ⟨b2, o2, none⟩) m cx) (hr : Rd w B 1 (some ⟨b2, o2, none⟩) m (bys ys)) (hm : m ≤ dn) (hdn : p + m ≤ nf)
    (h : ∀ w', w'.ownsRow base 5 1 (.slice (some ⟨k, 0, none⟩) nf cf) nf (bys (Mk.over fs p ys)) → (∃ cs, w' = w.setRow k cs) → K (a.put o.dst (.int .i64 m)) w') : o.wp Tryz.prog a w K Q := by
  have hml : (bys ys).length = m := hr.len1
  have hyl : ys.length = m := by simpa [bys] using hml
  rcases hown.2 with ⟨e0, _⟩ | ⟨g, cap, cur, e0, hb, hg, hnc, hcm, hcs, ht⟩
  · injection e0 with e0; cases e0
  · injection e0 with e0 _ e3
    injection e0 with e0
    injection e0 with e0
    subst e0 e3
    have hcs' : cur.size = cf := by simpa using hcs
    have hcell : ∀ j v, (bys ys)[j]? = some v → w.cell? ((⟨b2, o2, none⟩ : Addr).add j) = some v := by
      intro j v hv
      obtain ⟨b, o', e, _, hc⟩ := hr.at_ hv
      injection e with e
      injection e with e4 e5
      subst e4 e5
      rw [Addr.add_lit]
      exact hc
    have hrr := run_copy_row (P := Tryz.prog) w 24 24 o.type 5 k p dn dc ⟨b2, o2, none⟩ m cx cur 5 (bys ys) Tryz.underlying24 u8sz hg (by rw [hml]; exact (Nat.min_eq_left hm).symm) hcell (by rw [hml]; omega) (bys_one _)
    unfold Oper.wp execOp
    simp only [ho, resolve, invoke, builtin, Sem.run_bind, Sem.run_pure, Result.andThen_ok, List.map_toArray, List.map_cons, List.map_nil, hd, hx, hrr, hml]
    refine h _ ⟨?_, .inr ⟨k, cf, _, rfl, hb, setRow_heap _ _ _ _ _ _ hg, hnc, hcm, ?_, ?_⟩⟩ ⟨_, rfl⟩
    · have h1 := hown.1
      simp only [bys, List.length_map] at h1 ⊢
      unfold Mk.over
      simp only [List.length_append, List.length_take, List.length_drop]
      omega
    · simp only [List.size_toArray, List.length_append, List.length_take, List.length_drop, Array.length_toList, hml]
      omega
    · rw [show nf * 1 = nf from Nat.mul_one _] at ht ⊢
      show (cur.toList.take p ++ bys ys ++ cur.toList.drop (p + m)).take nf = _
      rw [over_take hml hdn (by rw [Array.length_toList]; omega), ht]
      unfold Mk.over
      rw [hyl]
      simp [bys, List.map_take, List.map_drop]
set_option maxRecDepth 100000 in
set_option maxHeartbeats 8000000 in
theorem rsection_any (x : Mk.Spec) (q : Tb) (T0 g base : Nat) (l : List Value) (A : Option Addr) (n c : Nat) (xs : List UInt8) (w : World) (hT : TabM w T0 x q) (h : FiM w 87 g 0 l base A n c xs) (hl1 : l[1]? = some (.int .u64 (Mk.base x : Nat)))
    (hgT : g < T0) (hAT : ∀ k, bk A = some k → k < T0) (hbase : base ≤ w.heap.size) (hn : n ≤ 1073741824) (htx : (Mk.texts3 x.dyn).length ≤ 1073741824) (n1 : x.dyn.needed.length ≤ 8) (n2 : x.dyn.syms.length ≤ 64) (n3 : x.dyn.relas.length ≤ 64) (ha0 : 0 ≤ x.apart) (ha1 : x.apart ≤ x.dyn.relas.length) :
    Calls Tryz.prog 36 #[.pointer (some ⟨g, 0, none⟩), .agg q.l.toArray] w fun e w' => ∃ A' n' c', e = .returned (.tuple #[.int .u64 (Mk.base x + (Mk.pad 8 xs).length : Nat), .int .u64 (Mk.room x : Nat)]) ∧ FiE 87 g 0 l base A w w' A' n' c' (Mk.section_ x xs) := by
  have hbx : Mk.base x ≤ 4294967296 := by unfold Mk.base; split <;> omega
  have hhl : (hashP x.dyn).length ≤ 400 := by
    unfold hashP
    split
    · simp
    · rw [hashB_len]; omega
  have hsl : (symsP x.dyn).length ≤ 1560 := by
    unfold symsP
    split
    · simp
    · rw [symsB_len]; omega
  have hnh : q.nh ≤ 400 := by
    have h1 := hT.hash.1
    unfold hashP at h1
    split at h1
    · simp [bys] at h1; omega
    · have h2 := hashB_len x.dyn.syms
      simp [bys] at h1; omega
  have hns : q.ns ≤ 1560 ∧ (q.ns = 0 ↔ x.dyn.syms.length = 0) := by
    have h1 := hT.syms.1
    unfold symsP at h1
    split at h1
    · simp [bys] at h1; omega
    · have h2 := symsB_len (Mk.texts2 x.dyn) x.dyn.syms
      simp [bys] at h1; omega
  have hno : q.no = 24 * Mk.last x := by
    have h1 := hT.one.1
    have h2 := relsB_len (x.dyn.relas.take (Mk.last x))
    rw [List.length_take] at h2
    have h3 : Mk.last x ≤ x.dyn.relas.length := by unfold Mk.last; omega
    simp [bys] at h1; omega
  have hnw : q.nw = 24 * x.apart.toNat := by
    have h1 := hT.two.1
    have h2 := relsB_len (x.dyn.relas.drop (Mk.last x))
    rw [List.length_drop] at h2
    have h3 : x.dyn.relas.length - Mk.last x = x.apart.toNat := by unfold Mk.last; omega
    simp [bys] at h1; omega
  have hnol : q.no = (Mk.relsB (x.dyn.relas.take (Mk.last x))).length := by have h1 := hT.one.1; simp [bys] at h1; omega
  have hnwl : q.nw = (Mk.relsB (x.dyn.relas.drop (Mk.last x))).length := by have h1 := hT.two.1; simp [bys] at h1; omega
  have hntl : q.nt = (Mk.texts3 x.dyn).length := by have h1 := hT.texts.1; simp [bys] at h1; omega
  have hol : (Mk.relsB (x.dyn.relas.take (Mk.last x))).length ≤ 1536 := by rw [relsB_len, List.length_take]; omega
  have hwl : (Mk.relsB (x.dyn.relas.drop (Mk.last x))).length ≤ 1536 := by rw [relsB_len, List.length_drop]; omega
  have hnt : q.nt ≤ 1073741824 := by have h1 := hT.texts.1; simp [bys] at h1; omega
  have hnn : q.nn = x.dyn.needed.length := by have h1 := hT.needed.1; simp [u64s, places_len] at h1; omega
  have hlast : Mk.last x ≤ 64 := by unfold Mk.last; omega
  have hap : x.apart.toNat ≤ 64 := by omega
  have hso : q.so = 0 ↔ x.dyn.soname.size = 0 := by
    rw [hT.so]
    have := texts0_pos [0] x.dyn.needed
    have h9 : Mk.texts0 x.dyn = Mk.puts [0] x.dyn.needed := rfl
    unfold Mk.place
    split
    · simp [*]
    · rw [h9]; simp at this; constructor <;> intro h8 <;> omega
  have hru : q.ru = 0 ↔ x.dyn.run.size = 0 := by
    rw [hT.ru]
    have := texts0_pos [0] x.dyn.needed
    have h8 : (Mk.puts [0] x.dyn.needed).length ≤ (Mk.texts1 x.dyn).length := by unfold Mk.texts1 Mk.texts0 Mk.put; split <;> simp <;> omega
    unfold Mk.place
    split
    · simp [*]
    · simp at this; constructor <;> intro h8 <;> omega
  have hroom : Mk.room x = 16 * sizeT q.nn q.so q.ru q.ns q.no q.nw := by rw [hnn]; exact room_eq x _ _ _ _ _ hso hru hns.2 (by omega) (by omega)
  have hroom2 : Mk.room x ≤ 352 := by rw [hroom]; unfold sizeT; split <;> split <;> split <;> split <;> split <;> omega
  have hso64 : q.so < 18446744073709551616 := by
    rw [hT.so]
    unfold Mk.place
    have : (Mk.texts0 x.dyn).length ≤ (Mk.texts3 x.dyn).length := by
      have h1 : (Mk.texts0 x.dyn).length ≤ (Mk.texts1 x.dyn).length := by unfold Mk.texts1 Mk.put; split <;> simp <;> omega
      have h2 : (Mk.texts1 x.dyn).length ≤ (Mk.texts2 x.dyn).length := by unfold Mk.texts2 Mk.put; split <;> simp <;> omega
      have h3 := texts0_pos (Mk.texts2 x.dyn) (Mk.names x.dyn.syms)
      unfold Mk.texts3
      omega
    split <;> omega
  have hru64 : q.ru < 18446744073709551616 := by
    rw [hT.ru]
    unfold Mk.place
    have : (Mk.texts1 x.dyn).length ≤ (Mk.texts3 x.dyn).length := by
      have h2 : (Mk.texts1 x.dyn).length ≤ (Mk.texts2 x.dyn).length := by unfold Mk.texts2 Mk.put; split <;> simp <;> omega
      have h3 := texts0_pos (Mk.texts2 x.dyn) (Mk.names x.dyn.syms)
      unfold Mk.texts3
      omega
    split <;> omega
  have hb1 : Below w.heap.size w (w.alloc (.cells #[.slice q.Ah q.nh q.ch, .slice q.As q.ns q.cs, .slice q.Ao q.no q.co, .slice q.Aw q.nw q.cw, .slice q.At q.nt q.ct, .slice q.An q.nn q.cn, .int .u64 (q.so : Nat), .int .u64 (q.ru : Nat)] 96)) := (Below.refl _ _).alloc (Nat.le_refl _) _
  have hbl := Blk.new w 96 q.l
  have hfi := h.below hb1
  have hAl := h.lt
  have hgl := h.blk.lt
  have e1 : (w.alloc (.cells #[.slice q.Ah q.nh q.ch, .slice q.As q.ns q.cs, .slice q.Ao q.no q.co, .slice q.Aw q.nw q.cw, .slice q.At q.nt q.ct, .slice q.An q.nn q.cn, .int .u64 (q.so : Nat), .int .u64 (q.ru : Nat)] 96)).heap.size = w.heap.size + 1 := by simp
  have hRows : TabM (w.alloc (.cells #[.slice q.Ah q.nh q.ch, .slice q.As q.ns q.cs, .slice q.Ao q.no q.co, .slice q.Aw q.nw q.cw, .slice q.At q.nt q.ct, .slice q.An q.nn q.cn, .int .u64 (q.so : Nat), .int .u64 (q.ru : Nat)] 96)) T0 x q := ⟨own_below hT.hash hb1, own_below hT.syms hb1, own_below hT.one hb1, own_below hT.two hb1, own_below hT.texts hb1, own_below hT.needed hb1, hT.so, hT.ru⟩
  show Calls _ _ #[.pointer (some ⟨g, 0, none⟩), .agg #[.slice q.Ah q.nh q.ch, .slice q.As q.ns q.cs, .slice q.Ao q.no q.co, .slice q.Aw q.nw q.cw, .slice q.At q.nt q.ct, .slice q.An q.nn q.cn, .int .u64 (q.so : Nat), .int .u64 (q.ru : Nat)]] w _
  have y0 := hbl.cell (i := 0) rfl
  have y1 := hbl.cell (i := 1) rfl
  have y2 := hbl.cell (i := 2) rfl
  have y3 := hbl.cell (i := 3) rfl
  have y4 := hbl.cell (i := 4) rfl
  have y5 := hbl.cell (i := 5) rfl
  have y6 := hbl.cell (i := 6) rfl
  have y7 := hbl.cell (i := 7) rfl
  have KSz := hide (fun W => rsize_any q.Ah q.As q.Ao q.Aw q.At q.An q.nh q.ch q.ns q.cs q.no q.co q.nw q.cw q.nt q.ct q.nn q.cn q.so q.ru W (by omega) (by omega) (by omega) (by omega))
  have Hsoe : Hid (q.so = Mk.place (Mk.texts0 x.dyn) x.dyn.soname) := hide hT.so
  have Hrue : Hid (q.ru = Mk.place (Mk.texts1 x.dyn) x.dyn.run) := hide hT.ru
  obtain ⟨i, hi, hz0, hz1, hz2⟩ := info_parts byteInfo
  have Hi := hide hi
  have Hz0 := hide hz0
  have Hz1 := hide hz1
  have Hz2 := hide hz2
  have Hb1 := hide hb1
  have Hbl : Hid (Blk (w.alloc (.cells #[.slice q.Ah q.nh q.ch, .slice q.As q.ns q.cs, .slice q.Ao q.no q.co, .slice q.Aw q.nw q.cw, .slice q.At q.nt q.ct, .slice q.An q.nn q.cn, .int .u64 (q.so : Nat), .int .u64 (q.ru : Nat)] 96)) w.heap.size 96 q.l) := hide hbl
  have Hfi := hide hfi
  have HAl := hide hAl
  have HE1 := hide e1
  have HRows := hide hRows
  have Hso := hide hso
  have Hru := hide hru
  have Hns := hide hns.2
  have Hno := hide hno
  have Hnol := hide hnol
  have Hnwl := hide hnwl
  have Hntl := hide hntl
  have Hroom0 := hide hroom
  have Hnw := hide hnw
  have Hnn := hide hnn
  have Hroom := hide hroom
  have Hl1 := hide hl1
  have HAT := hide hAT
  have hns' := hns.1
  have hno' : q.no ≤ 1536 := by omega
  have hnw' : q.nw ≤ 1536 := by omega
  have hnn' : q.nn ≤ 8 := by omega
  obtain ⟨sz, hsz⟩ : ∃ sz, sizeT q.nn q.so q.ru q.ns q.no q.nw = sz := ⟨_, rfl⟩
  rw [hsz] at hroom
  have Hsz := hide hsz
  have Hroom2 := hide hroom
  have hsz22 : sz ≤ 22 := by omega
  clear hi hz0 hz1 hz2 hb1 hbl hfi hAl e1 hRows hso hru hns hno hnw hnn hnol hnwl hntl hl1 hAT hT h hsz
  go_enter Tryz.func36, Tryz.ntmps36
  go_wp2_with fail
  refine ((unhide KSz) _).mono ?_
  rintro e w1 ⟨rfl, hbz⟩
  rw [unhide Hsz]
  generalize (w.alloc (.cells #[.slice q.Ah q.nh q.ch, .slice q.As q.ns q.cs, .slice q.Ao q.no q.co, .slice q.Aw q.nw q.cw, .slice q.At q.nt q.ct, .slice q.An q.nn q.cn, .int .u64 (q.so : Nat), .int .u64 (q.ru : Nat)] 96)) = W0 at *
  have hW0 := unhide HE1
  have hsz1 := hbz.size
  have Hbz := hide hbz
  clear hbz y0 y1 y2 y3 y4 y5 y6 y7 KSz
-- LOOK
  go_wp2_with (at_make; refine wpList_make_full _ rfl _ _ 24 rfl w1.heap.size 5 i (.int .u8 0) 1 Tryz.underlying24 (unhide Hi) (unhide Hz0) (unhide Hz1) _ _ _ _ (16 * sz) rfl (by rfl) rfl (by rfl) (by rw [unhide Hz2]; omega) (by unfold maxLen; omega) (Nat.le_refl _) ?_; intro w2 hown hgrow; have hb2 := (Below.refl w1.heap.size w1).grown hgrow (Nat.le_refl _) (fun k hk => by cases hk); have Hown := hide hown; have Hb2 := hide hb2; clear hown hgrow hb2)
  have ho := unhide Hown
  rw [zerosN] at ho
  have hW2 : Below W0.heap.size W0 w2 := (unhide Hbz).trans ((unhide Hb2).mono hsz1)
  have hfi2 := (unhide Hfi).below hW2
  have hz2 := hW2.size
  have KP := hide (rfput_any _ g l base (Mk.base x) A n c xs (some ⟨w1.heap.size, 0, none⟩) (16 * sz) (16 * sz) (Mk.zs (16 * sz)) w2 hfi2 (unhide Hl1) (by omega) (by omega) (by omega) hbx (Rd.of_own ho) (by intro e; injection e with e; have : w1.heap.size = g := e; omega) (fun k hk hk2 => by injection hk with hk; have h9 : w1.heap.size = k := hk; have := (unhide HAl) k hk2; omega))
  have HW2 := hide hW2
  clear ho hfi2 hW2
  refine (unhide KP).mono ?_
  rintro e w3 ⟨A3, n3', c3, rfl, hE3⟩
  have hS0 : SeS g base A l W0 w3 (Mk.pad 8 xs ++ Mk.zs (16 * sz)) [] none 0 0 := ⟨⟨A3, n3', c3, FiE.after (unhide HW2) hE3, by simp [bk]⟩, World.ownsRow_nil _ _ _ _, by omega, fun k hk => by have := (unhide HAl) k hk; omega⟩
  have hpl := pad_le 8 (by omega) xs
  have hxl : xs.length = n := (unhide Hfi).len
  have hfs0 : (Mk.pad 8 xs ++ Mk.zs (16 * sz)).length ≤ 1073742200 := by rw [List.length_append, zs_len]; omega
  obtain ⟨p0, hp0⟩ : ∃ p0, (Mk.pad 8 xs).length = p0 := ⟨_, rfl⟩
  rw [hp0] at hpl
  rw [hp0]
  have hp0b : p0 ≤ 1073741840 := by omega
  have Hp0 := hide hp0
  have hst0 : Mk.pad 8 xs ++ Mk.zs (16 * sz) = (Mk.st0 x xs).1 := by unfold Mk.st0; rw [hroom]
  rw [hst0] at hS0 hfs0
  have Hst0 := hide hst0
  have HS0 := hide hS0
  have hWb : base ≤ W0.heap.size := by omega
  obtain ⟨fs0, hfsq⟩ : ∃ fs0, (Mk.st0 x xs).1 = fs0 := ⟨_, rfl⟩
  rw [hfsq] at HS0 hfs0
  have Hfsq := hide hfsq
  have Hfsq0 : Hid ((Mk.st0 x xs).1.length = p0 + 16 * sz) := hide (by unfold Mk.st0; rw [List.length_append, zs_len, unhide Hp0, unhide Hroom2])
  clear hfsq
  clear hE3 hS0 KP HW2 hz2 hp0 hpl hst0 Hown Hb2 Hbz hxl
  go_wp2_with fail
  go_loopg [8, 9] q.nn (fun gk bv iv wr => ∃ (i : Nat) (Ab : Option Addr) (cb : Nat), gk = q.nn - i ∧ i ≤ q.nn ∧ iv = .int .i64 i ∧ bv = .slice Ab (16 * i) cb ∧ SeS g base A l W0 wr fs0 (((Mk.places [0] x.dyn.needed).take i).map fun p => (1, p)) Ab (16 * i) cb)
  case atStart => exact ⟨0, none, 0, by omega, by omega, rfl, rfl, unhide HS0⟩
  case round =>
  clear HS0
  obtain ⟨i, Ab, cb, hgk, hi, rfl, rfl, hS⟩ := hrel
  have Hgk := hide hgk
  have hB := hS.blk (unhide Hbl) (by omega) (fun e => by have := (unhide HAl) _ e; omega)
  have y5 := hB.cell (i := 5) rfl
  have hnd := hS.own (unhide HRows).needed (fun e => by have := (own_bklt (unhide HRows).needed g e).1; omega) (fun k h1 h2 => by have := (own_bklt (unhide HRows).needed k h1).1; have := (unhide HAT) k h2; omega)
  have HS := hide hS
  have hsz3 := hS.size
  clear hgk hS
  by_cases hlt : i < q.nn
  · obtain ⟨pv, hpv⟩ : ∃ pv, (Mk.places [0] x.dyn.needed)[i]? = some pv := ⟨_, List.getElem?_eq_getElem (by rw [places_len, ← unhide Hnn]; exact hlt)⟩
    obtain ⟨b1, o1, hA1, hb1, st⟩ := (Rd.of_own hnd).at_ (k := i) (u := .int .u64 (pv : Nat)) (by simp [u64s, hpv])
    rw [hA1] at y5
    have hpv64 : pv < 18446744073709551616 := by
      have h1 := places_le [0] x.dyn.needed pv (List.mem_of_getElem? hpv)
      have h2 := texts0_pos (Mk.texts2 x.dyn) (Mk.names x.dyn.syms)
      have h3 : (Mk.texts0 x.dyn).length ≤ (Mk.texts1 x.dyn).length := by unfold Mk.texts1 Mk.put; split <;> simp <;> omega
      have h4 : (Mk.texts1 x.dyn).length ≤ (Mk.texts2 x.dyn).length := by unfold Mk.texts2 Mk.put; split <;> simp <;> omega
      have h5 : Mk.texts0 x.dyn = Mk.puts [0] x.dyn.needed := rfl
      have h6 : Mk.texts3 x.dyn = Mk.puts (Mk.texts2 x.dyn) (Mk.names x.dyn.syms) := rfl
      rw [← h5] at h1
      rw [← h6] at h2
      omega
    have KPr := hide ((unhide HS).callPair 1 pv (by omega) hpv64 (by omega) _ _ rfl rfl)
    have Hpv := hide hpv
    clear hA1 hpv hnd hB
    go_wp2_with fail
    refine (unhide KPr).mono ?_
    rintro e w4 ⟨A4, c4, rfl, hS4⟩
    have HS4 := hide hS4
    have Hn16 := hide (show 16 * (i + 1) = 16 * i + 16 by omega)
    clear hS4 KPr y5 st
    go_wp2_with fail
    go_roundg (q.nn - (i + 1))
    case measure => have := unhide Hgk; omega
    case rel => exact ⟨i + 1, A4, c4, rfl, by omega, by go_num, by rw [unhide Hn16], by rw [unhide Hn16, List.take_add_one, unhide Hpv, List.map_append]; exact unhide HS4⟩
  have hi' : i = q.nn := by omega
  have hS := unhide HS
  rw [List.take_of_length_le (by rw [places_len, ← unhide Hnn]; omega)] at hS
  have hS : SeS g base A l W0 wr fs0 (Mk.heads0 x.dyn) Ab (16 * i) cb := hS
  have HSa := hide hS
  have hi8 : 16 * i ≤ 128 := by omega
  have y6 := hB.cell (i := 6) rfl
  have Hlt := hide hlt
  have ige : ¬ (i : Int) < (q.nn : Int) := by omega
  clear hS HS hnd hB hlt hi'
  go_upto_if 33 with fail
  go_cut [8] (fun bv wx => ∃ Ab nb cb, bv = .slice Ab nb cb ∧ nb ≤ 144 ∧ SeS g base A l W0 wx fs0 (Mk.heads1 x.dyn) Ab nb cb)
  case first =>
    by_cases h0 : x.dyn.soname.size = 0
    · have hq := (unhide Hso).2 h0
      have hqb : ((q.so : Int) != 0) = false := by rw [hq]; rfl
      have He : Hid (Mk.heads1 x.dyn = Mk.heads0 x.dyn) := hide (by unfold Mk.heads1; rw [if_pos h0])
      clear hq h0
      go_wp2_with fail
      go_meet
      case rel => exact ⟨Ab, 16 * i, cb, rfl, by omega, by rw [unhide He]; exact unhide HSa⟩
    · have hqb : ((q.so : Int) != 0) = true := by rw [bne_iff_ne]; have := mt (unhide Hso).1 h0; omega
      have He : Hid (Mk.heads1 x.dyn = Mk.heads0 x.dyn ++ [(14, q.so)]) := hide (by unfold Mk.heads1; rw [if_neg h0, unhide Hsoe])
      have KPr := hide ((unhide HSa).callPair 14 q.so (by omega) hso64 (by omega) _ _ rfl rfl)
      clear h0
      go_wp2_with fail
      refine (unhide KPr).mono ?_
      rintro e w4 ⟨A4, c4, rfl, hS4⟩
      have HS4 := hide hS4
      clear hS4 KPr y6
      go_wp2_with fail
      go_meet
      case rel => exact ⟨A4, _, c4, rfl, by omega, by rw [unhide He]; exact unhide HS4⟩
  case rest =>
-- LOOK
    obtain ⟨Ab, nb, cb, rfl, hnb, hS⟩ := hcut
    have hB := hS.blk (unhide Hbl) (by omega) (fun e => by have := (unhide HAl) _ e; omega)
    have y7 := hB.cell (i := 7) rfl
    have HS1 := hide hS
    clear hS hB y6 HSa
    go_upto_if 40 with fail
    go_cut [8] (fun bv wx => ∃ Ab nb cb, bv = .slice Ab nb cb ∧ nb ≤ 160 ∧ SeS g base A l W0 wx fs0 (Mk.heads2 x.dyn) Ab nb cb)
    case first =>
      by_cases h0 : x.dyn.run.size = 0
      · have hq := (unhide Hru).2 h0
        have hqb : ((q.ru : Int) != 0) = false := by rw [hq]; rfl
        have He : Hid (Mk.heads2 x.dyn = Mk.heads1 x.dyn) := hide (by unfold Mk.heads2; rw [if_pos h0])
        clear hq h0
        go_wp2_with fail
        go_meet
        case rel => exact ⟨Ab, nb, cb, rfl, by omega, by rw [unhide He]; exact unhide HS1⟩
      · have hqb : ((q.ru : Int) != 0) = true := by rw [bne_iff_ne]; have := mt (unhide Hru).1 h0; omega
        have He : Hid (Mk.heads2 x.dyn = Mk.heads1 x.dyn ++ [(29, q.ru)]) := hide (by unfold Mk.heads2; rw [if_neg h0, unhide Hrue])
        have KPr := hide ((unhide HS1).callPair 29 q.ru (by omega) hru64 (by omega) _ _ rfl rfl)
        clear h0
        go_wp2_with fail
        refine (unhide KPr).mono ?_
        rintro e w4 ⟨A4, c4, rfl, hS4⟩
        have HS4 := hide hS4
        clear hS4 KPr y7
        go_wp2_with fail
        go_meet
        case rel => exact ⟨A4, _, c4, rfl, by omega, by rw [unhide He]; exact unhide HS4⟩
    case rest =>
      obtain ⟨Ab, nb, cb, rfl, hnb2, hS⟩ := hcut
      have HSx := hide hS
      clear hS y7 HS1
      have hB := (unhide HSx).blk (unhide Hbl) (by omega) (fun e => by have := (unhide HAl) _ e; omega)
      have yc := hB.cell (i := 1) rfl
      clear hB
      go_upto_if 48 with fail
      go_cut [8] (fun bv wx => ∃ Ab nb cb, bv = .slice Ab nb cb ∧ nb ≤ 208 ∧ (Mk.st1 x xs).1.length ≤ 1073744300 ∧ SeS g base A l W0 wx (Mk.st1 x xs).1 (Mk.st1 x xs).2 Ab nb cb)
      case first =>
        by_cases h0 : x.dyn.syms.length = 0
        · have hq : q.ns = 0 := (unhide Hns).2 h0
          have hqb : decide (0 < q.ns) = false := by rw [hq]; rfl
          have hqc : ¬ (0 < q.ns) := by rw [hq]; exact Nat.lt_irrefl 0
          have He : Hid (Mk.st1 x xs = Mk.st0 x xs ∧ (Mk.st0 x xs).1 = fs0 ∧ (Mk.st0 x xs).2 = Mk.heads2 x.dyn) := hide (by refine ⟨?_, unhide Hfsq, rfl⟩; unfold Mk.st1 Mk.partSyms; rw [if_pos h0]; rfl)
          have Hqc := hide hqc
          clear hq h0 hqc
          go_wp2_with fail
          go_meet
          case rel => exact ⟨Ab, nb, cb, rfl, by omega, by rw [(unhide He).1, (unhide He).2.1]; omega, by rw [(unhide He).1, (unhide He).2.1, (unhide He).2.2]; exact unhide HSx⟩
        · have hq : q.ns ≠ 0 := fun e => h0 ((unhide Hns).1 e)
          have hqb : decide (0 < q.ns) = true := by rw [decide_eq_true_eq]; omega
          have hqn : 0 < q.ns := by omega
          have hqi : (0 : Int) < (q.ns : Int) := by omega
          have He1 : Hid ((Mk.st1 x xs).1 = Mk.pad 8 (Mk.pad 8 fs0 ++ hashP x.dyn) ++ symsP x.dyn) := hide (by rw [← unhide Hfsq]; unfold Mk.st1 Mk.partSyms hashP symsP; rw [if_neg h0, if_neg h0, if_neg h0]; rfl)
          have He2 : Hid ((Mk.st1 x xs).2 = (Mk.heads2 x.dyn ++ [(4, Mk.base x + (Mk.pad 8 fs0).length)]) ++ [(6, Mk.base x + (Mk.pad 8 (Mk.pad 8 fs0 ++ hashP x.dyn)).length), (11, 24)]) := hide (by rw [← unhide Hfsq]; unfold Mk.st1 Mk.partSyms hashP; rw [if_neg h0, if_neg h0]; rfl)
          clear h0 hq
          have hpd0 := pad_le 8 (by omega) (fs0)
          have KP0 := hide ((unhide HSx).callPut (unhide Hl1) hbx hWb (by omega) (unhide HRows).hash (by omega) (fun e => by have := (own_bklt (unhide HRows).hash g e).1; omega) (fun k h1 h2 => by have := (own_bklt (unhide HRows).hash k h1).1; have := (unhide HAT) k h2; omega))
          have hBk0 := (unhide HSx).blk (unhide Hbl) (by omega) (fun e => by have := (unhide HAl) _ e; omega)
          have yp0 := hBk0.cell (i := 0) rfl
          clear hBk0
          go_wp2_with fail
          refine (unhide KP0).mono ?_
          rintro e v0 ⟨rfl, hS0⟩
          have HS0s := hide hS0
          clear hS0 KP0
          have KP1 := hide ((unhide HS0s).callPair 4 (Mk.base x + (Mk.pad 8 fs0).length) (by omega) (by omega) (by omega) _ _ (by rfl) (by rfl))
          go_wp2_with fail
          refine (unhide KP1).mono ?_
          rintro e v1 ⟨A1p, c1p, rfl, hS1⟩
          have HS1s := hide hS1
          clear hS1 KP1
          have hpd2 := pad_le 8 (by omega) (Mk.pad 8 (fs0) ++ hashP x.dyn)
          have KP2 := hide ((unhide HS1s).callPut (unhide Hl1) hbx hWb (by rw [List.length_append]; omega) (unhide HRows).syms (by omega) (fun e => by have := (own_bklt (unhide HRows).syms g e).1; omega) (fun k h1 h2 => by have := (own_bklt (unhide HRows).syms k h1).1; have := (unhide HAT) k h2; omega))
          have hBk2 := (unhide HS1s).blk (unhide Hbl) (by omega) (fun e => by have := (unhide HAl) _ e; omega)
          have yp2 := hBk2.cell (i := 1) rfl
          clear hBk2
          go_wp2_with fail
          refine (unhide KP2).mono ?_
          rintro e v2 ⟨rfl, hS2⟩
          have HS2s := hide hS2
          clear hS2 KP2
          have KP3 := hide ((unhide HS2s).callPair 6 (Mk.base x + (Mk.pad 8 (Mk.pad 8 fs0 ++ hashP x.dyn)).length) (by omega) (by rw [List.length_append] at hpd2; omega) (by omega) _ _ (by rfl) (by rfl))
          go_wp2_with fail
          refine (unhide KP3).mono ?_
          rintro e v3 ⟨A3p, c3p, rfl, hS3⟩
          have HS3s := hide hS3
          clear hS3 KP3
          have KP4 := hide ((unhide HS3s).callPair 11 (24) (by omega) (by omega) (by omega) _ _ (by rfl) (by rfl))
          go_wp2_with fail
          refine (unhide KP4).mono ?_
          rintro e v4 ⟨A4p, c4p, rfl, hS4⟩
          have HS4s := hide hS4
          clear hS4 KP4
          go_wp2_with fail
          go_meet
          case rel => exact ⟨A4p, _, c4p, rfl, by omega, by rw [unhide He1]; (rw [List.length_append]; rw [List.length_append] at hpd2; omega), by rw [unhide He1, unhide He2]; simpa [List.append_assoc] using unhide HS4s⟩
      case rest =>
        obtain ⟨Ab, nb, cb, rfl, hnb3, hfs1, hS⟩ := hcut
        have HSy := hide hS
        clear hS HSx yc
        have hB := (unhide HSy).blk (unhide Hbl) (by omega) (fun e => by have := (unhide HAl) _ e; omega)
        have yc := hB.cell (i := 2) rfl
        clear hB
        go_upto_if 66 with fail
        go_cut [8] (fun bv wx => ∃ Ab nb cb, bv = .slice Ab nb cb ∧ nb ≤ 256 ∧ (Mk.st2 x xs).1.length ≤ 1073745900 ∧ SeS g base A l W0 wx (Mk.st2 x xs).1 (Mk.st2 x xs).2 Ab nb cb)
        case first =>
          by_cases h0 : Mk.last x = 0
          · have hq : q.no = 0 := (by have := unhide Hno; omega)
            have hqb : decide (0 < q.no) = false := by rw [hq]; rfl
            have hqc : ¬ (0 < q.no) := by rw [hq]; exact Nat.lt_irrefl 0
            have He : Hid (Mk.st2 x xs = Mk.st1 x xs) := hide (by unfold Mk.st2 Mk.partOne; rw [if_pos h0]; rfl)
            have Hqc := hide hqc
            clear hq h0 hqc
            go_wp2_with fail
            go_meet
            case rel => exact ⟨Ab, nb, cb, rfl, by omega, by rw [unhide He]; omega, by rw [unhide He]; exact unhide HSy⟩
          · have hq : q.no ≠ 0 := fun e => h0 ((by have := unhide Hno; omega))
            have hqb : decide (0 < q.no) = true := by rw [decide_eq_true_eq]; omega
            have hqn : 0 < q.no := by omega
            have hqi : (0 : Int) < (q.no : Int) := by omega
            have He1 : Hid ((Mk.st2 x xs).1 = Mk.pad 8 (Mk.st1 x xs).1 ++ Mk.relsB (x.dyn.relas.take (Mk.last x))) := hide (by unfold Mk.st2 Mk.partOne; rw [if_neg h0]; rfl)
            have He2 : Hid ((Mk.st2 x xs).2 = (Mk.st1 x xs).2 ++ [(7, Mk.base x + (Mk.pad 8 (Mk.st1 x xs).1).length), (8, q.no), (9, 24)]) := hide (by rw [unhide Hnol]; unfold Mk.st2 Mk.partOne; rw [if_neg h0]; rfl)
            clear h0 hq
            have hpd0 := pad_le 8 (by omega) ((Mk.st1 x xs).1)
            have KP0 := hide ((unhide HSy).callPut (unhide Hl1) hbx hWb (by omega) (unhide HRows).one (by omega) (fun e => by have := (own_bklt (unhide HRows).one g e).1; omega) (fun k h1 h2 => by have := (own_bklt (unhide HRows).one k h1).1; have := (unhide HAT) k h2; omega))
            have hBk0 := (unhide HSy).blk (unhide Hbl) (by omega) (fun e => by have := (unhide HAl) _ e; omega)
            have yp0 := hBk0.cell (i := 2) rfl
            clear hBk0
            go_wp2_with fail
            refine (unhide KP0).mono ?_
            rintro e v0 ⟨rfl, hS0⟩
            have HS0s := hide hS0
            clear hS0 KP0
            have KP1 := hide ((unhide HS0s).callPair 7 (Mk.base x + (Mk.pad 8 (Mk.st1 x xs).1).length) (by omega) (by omega) (by omega) _ _ (by rfl) (by rfl))
            go_wp2_with fail
            refine (unhide KP1).mono ?_
            rintro e v1 ⟨A1p, c1p, rfl, hS1⟩
            have HS1s := hide hS1
            clear hS1 KP1
            have KP2 := hide ((unhide HS1s).callPair 8 (q.no) (by omega) (by omega) (by omega) _ _ (by rfl) (by rfl))
            have hBk2 := (unhide HS1s).blk (unhide Hbl) (by omega) (fun e => by have := (unhide HAl) _ e; omega)
            have yp2 := hBk2.cell (i := 2) rfl
            clear hBk2
            go_wp2_with fail
            refine (unhide KP2).mono ?_
            rintro e v2 ⟨A2p, c2p, rfl, hS2⟩
            have HS2s := hide hS2
            clear hS2 KP2
            have KP3 := hide ((unhide HS2s).callPair 9 (24) (by omega) (by omega) (by omega) _ _ (by rfl) (by rfl))
            go_wp2_with fail
            refine (unhide KP3).mono ?_
            rintro e v3 ⟨A3p, c3p, rfl, hS3⟩
            have HS3s := hide hS3
            clear hS3 KP3
            go_wp2_with fail
            go_meet
            case rel => exact ⟨A3p, _, c3p, rfl, by omega, by rw [unhide He1]; (rw [List.length_append]; omega), by rw [unhide He1, unhide He2]; simpa [List.append_assoc] using unhide HS3s⟩
        case rest =>
          obtain ⟨Ab, nb, cb, rfl, hnb4, hfs2, hS⟩ := hcut
          have HSz := hide hS
          clear hS HSy yc
          have hB := (unhide HSz).blk (unhide Hbl) (by omega) (fun e => by have := (unhide HAl) _ e; omega)
          have yc := hB.cell (i := 3) rfl
          clear hB
          go_upto_if 84 with fail
          go_cut [8] (fun bv wx => ∃ Ab nb cb, bv = .slice Ab nb cb ∧ nb ≤ 304 ∧ (Mk.st3 x xs).1.length ≤ 1073747500 ∧ SeS g base A l W0 wx (Mk.st3 x xs).1 (Mk.st3 x xs).2 Ab nb cb)
          case first =>
            by_cases h0 : x.apart.toNat = 0
            · have hq : q.nw = 0 := (by have := unhide Hnw; omega)
              have hqb : decide (0 < q.nw) = false := by rw [hq]; rfl
              have hqc : ¬ (0 < q.nw) := by rw [hq]; exact Nat.lt_irrefl 0
              have He : Hid (Mk.st3 x xs = Mk.st2 x xs) := hide (by unfold Mk.st3 Mk.partTwo; rw [if_pos h0]; rfl)
              have Hqc := hide hqc
              clear hq h0 hqc
              go_wp2_with fail
              go_meet
              case rel => exact ⟨Ab, nb, cb, rfl, by omega, by rw [unhide He]; omega, by rw [unhide He]; exact unhide HSz⟩
            · have hq : q.nw ≠ 0 := fun e => h0 ((by have := unhide Hnw; omega))
              have hqb : decide (0 < q.nw) = true := by rw [decide_eq_true_eq]; omega
              have hqn : 0 < q.nw := by omega
              have hqi : (0 : Int) < (q.nw : Int) := by omega
              have He1 : Hid ((Mk.st3 x xs).1 = Mk.pad 8 (Mk.st2 x xs).1 ++ Mk.relsB (x.dyn.relas.drop (Mk.last x))) := hide (by unfold Mk.st3 Mk.partTwo; rw [if_neg h0]; rfl)
              have He2 : Hid ((Mk.st3 x xs).2 = (Mk.st2 x xs).2 ++ [(23, Mk.base x + (Mk.pad 8 (Mk.st2 x xs).1).length), (2, q.nw), (20, 7)]) := hide (by rw [unhide Hnwl]; unfold Mk.st3 Mk.partTwo; rw [if_neg h0]; rfl)
              clear h0 hq
              have hpd0 := pad_le 8 (by omega) ((Mk.st2 x xs).1)
              have KP0 := hide ((unhide HSz).callPut (unhide Hl1) hbx hWb (by omega) (unhide HRows).two (by omega) (fun e => by have := (own_bklt (unhide HRows).two g e).1; omega) (fun k h1 h2 => by have := (own_bklt (unhide HRows).two k h1).1; have := (unhide HAT) k h2; omega))
              have hBk0 := (unhide HSz).blk (unhide Hbl) (by omega) (fun e => by have := (unhide HAl) _ e; omega)
              have yp0 := hBk0.cell (i := 3) rfl
              clear hBk0
              go_wp2_with fail
              refine (unhide KP0).mono ?_
              rintro e v0 ⟨rfl, hS0⟩
              have HS0s := hide hS0
              clear hS0 KP0
              have KP1 := hide ((unhide HS0s).callPair 23 (Mk.base x + (Mk.pad 8 (Mk.st2 x xs).1).length) (by omega) (by omega) (by omega) _ _ (by rfl) (by rfl))
              go_wp2_with fail
              refine (unhide KP1).mono ?_
              rintro e v1 ⟨A1p, c1p, rfl, hS1⟩
              have HS1s := hide hS1
              clear hS1 KP1
              have KP2 := hide ((unhide HS1s).callPair 2 (q.nw) (by omega) (by omega) (by omega) _ _ (by rfl) (by rfl))
              have hBk2 := (unhide HS1s).blk (unhide Hbl) (by omega) (fun e => by have := (unhide HAl) _ e; omega)
              have yp2 := hBk2.cell (i := 3) rfl
              clear hBk2
              go_wp2_with fail
              refine (unhide KP2).mono ?_
              rintro e v2 ⟨A2p, c2p, rfl, hS2⟩
              have HS2s := hide hS2
              clear hS2 KP2
              have KP3 := hide ((unhide HS2s).callPair 20 (7) (by omega) (by omega) (by omega) _ _ (by rfl) (by rfl))
              go_wp2_with fail
              refine (unhide KP3).mono ?_
              rintro e v3 ⟨A3p, c3p, rfl, hS3⟩
              have HS3s := hide hS3
              clear hS3 KP3
              go_wp2_with fail
              go_meet
              case rel => exact ⟨A3p, _, c3p, rfl, by omega, by rw [unhide He1]; (rw [List.length_append]; omega), by rw [unhide He1, unhide He2]; simpa [List.append_assoc] using unhide HS3s⟩
          case rest =>
            obtain ⟨Ab, nb, cb, rfl, hnb5, hfs3, hS⟩ := hcut
            have HSw := hide hS
            clear hS HSz yc
            have hB := (unhide HSw).blk (unhide Hbl) (by omega) (fun e => by have := (unhide HAl) _ e; omega)
            have y4 := hB.cell (i := 4) rfl
            clear hB
            have hpd := pad_le 8 (by omega) (Mk.st3 x xs).1
            have KP := hide ((unhide HSw).callPut (unhide Hl1) hbx hWb (by omega) (unhide HRows).texts (by omega) (fun e => by have := (own_bklt (unhide HRows).texts g e).1; omega) (fun k h1 h2 => by have := (own_bklt (unhide HRows).texts k h1).1; have := (unhide HAT) k h2; omega))
            go_wp2_with fail
            refine (unhide KP).mono ?_
            rintro e v0 ⟨rfl, hS⟩
            have KP1 := hide (hS.callPair 5 (Mk.base x + (Mk.pad 8 (Mk.st3 x xs).1).length) (by omega) (by omega) (by omega) _ _ (by rfl) (by rfl))
            clear hS KP y4
            go_wp2_with fail
            refine (unhide KP1).mono ?_
            rintro e v1 ⟨A1p, c1p, rfl, hS⟩
            have hB := hS.blk (unhide Hbl) (by omega) (fun e => by have := (unhide HAl) _ e; omega)
            have y4 := hB.cell (i := 4) rfl
            have KP2 := hide (hS.callPair 10 q.nt (by omega) (by omega) (by omega) _ _ (by rfl) (by rfl))
            clear hS hB KP1
            go_wp2_with fail
            refine (unhide KP2).mono ?_
            rintro e v2 ⟨A2p, c2p, rfl, hS⟩
            have KP3 := hide (hS.callPair 0 0 (by omega) (by omega) (by omega) _ _ (by rfl) (by rfl))
            clear hS KP2 y4
            go_wp2_with fail
            refine (unhide KP3).mono ?_
            rintro e v3 ⟨A3p, c3p, rfl, hS⟩
            have hlaid : Mk.laidParts x xs = (Mk.pad 8 (Mk.st3 x xs).1 ++ Mk.texts3 x.dyn, (((Mk.st3 x xs).2 ++ [(5, Mk.base x + (Mk.pad 8 (Mk.st3 x xs).1).length)]) ++ [(10, q.nt)]) ++ [(0, 0)]) := by
              rw [laid_st, unhide Hntl]
              unfold Mk.stepPart
              simp [Mk.tell, List.append_assoc]
            have hS : SeS g base A l W0 v3 (Mk.laidParts x xs).1 (Mk.laidParts x xs).2 A3p (nb + 16 + 16 + 16) c3p := by rw [hlaid]; exact hS
            have hl2 := laid_len x xs
            have hrl := hS.row.1
            simp only [bys, List.length_map, entsB_len, hl2] at hrl
            have hnb16 : nb + 16 + 16 + 16 = 16 * sz := by
              have := unhide Hroom2
              unfold Mk.room at this
              rw [this] at hrl
              omega
            have hl1 := laid_len1 x xs
            rw [unhide Hfsq0] at hl1
            obtain ⟨Af, nf, cf, hE, hd⟩ := hS.fi
            have hnf := hE.m.len
            have hnf2 : p0 + 16 * sz ≤ nf := by omega
            have hsz3' : 3 ≤ sz := by have := unhide Hsz; unfold sizeT at this; omega
            obtain ⟨kf, hkf, -, hkf2⟩ := own_some hE.m.row (by omega)
            subst hkf
            obtain ⟨kb, hkb, -, -⟩ := own_some hS.row (by omega)
            subst hkb
            have hcf := (own_at hE.m.row).2.2
            rw [hnb16] at hS
            rw [hnb16]
            have x0 := hE.m.cell
            have x1 := hE.m.blk.cell (i := 1) (by rw [List.getElem?_set_ne (by omega)]; exact unhide Hl1)
            have ks : ∀ w', (Instr.slice 24 (.slice (some ⟨kf, 0, none⟩) nf cf) (some (.int .u64 (p0 : Nat))) none none).run Tryz.prog w' = .ok (.slice (some ⟨kf, p0, none⟩) (nf - p0) (cf - p0)) w' := fun w' => by
              have h := run_fromK (P := Tryz.prog) Tryz.underlying24 u8sz .u64 (some ⟨kf, 0, none⟩) nf cf p0 (by omega) w'
              unfold fromA at h
              rw [if_neg (by omega), Option.map_some, Addr.add_lit, Nat.zero_add] at h
              exact h
            have hsub : ((Mk.base x : Nat) : Int) + (p0 : Int) - ((Mk.base x : Nat) : Int) = (p0 : Int) := by omega
            have hwp : IntKind.u64.wrap (p0 : Int) = (p0 : Int) := by rw [IntKind.wrap_u64]; omega
            have hgk : g ≠ kf := fun e => hE.m.ne (by rw [← e]; rfl)
            have HS9 := hide hS
            have HE9 := hide hE
            have Hcpr := hide (Rd.of_own hS.row)
            clear hS hE hlaid hl2 hrl hl1 KP3
-- LOOK
            go_wp2_with fail
            refine wp_region_noPanic ?_
            refine wp_region_held_drew (S := fun W => W.cell? ⟨g, 0, none⟩ = some (.slice (some ⟨kf, 0, none⟩) nf cf) ∧ W.cell? ⟨g, 1, none⟩ = some (.int .u64 (Mk.base x : Nat))) (by kernel_rfl) (⟨x0, x1⟩) (fun HS0 => ?_)
            refine takeD (i := 0) (d := some 115) (v := ?_) rfl rfl (by kernel_rfl) (by kernel_rfl) (by kernel_rfl) (fun _ _ _ h => h) (Or.inl ⟨by rfl, ?y0⟩) HS0 ?_
            case y0 => (intro w' hSw; (try dsimp only at hSw); go_simp; (try with_reducible rfl))
            simp only [Act.put, List.setIfInBounds_toArray, List.set_cons_zero, List.set_cons_succ]
            refine takeD (i := 1) (d := some 116) (v := ?_) rfl rfl (by kernel_rfl) (by kernel_rfl) (by kernel_rfl) (fun _ _ _ h => h) (Or.inl ⟨by rfl, ?y1⟩) HS0 ?_
            case y1 => (intro w' hSw; (try dsimp only at hSw); go_simp; (try with_reducible rfl))
            simp only [Act.put, List.setIfInBounds_toArray, List.set_cons_zero, List.set_cons_succ]
            refine takeD (i := 2) (d := some 117) (v := ?_) rfl rfl (by kernel_rfl) (by kernel_rfl) (by kernel_rfl) (fun _ _ _ h => h) (Or.inl ⟨by rfl, ?y2⟩) HS0 ?_
            case y2 => (intro w' hSw; (try dsimp only at hSw); go_simp; (try with_reducible rfl))
            simp only [Act.put, List.setIfInBounds_toArray, List.set_cons_zero, List.set_cons_succ]
            refine takeD (i := 3) (d := some 118) (v := ?_) rfl rfl (by kernel_rfl) (by kernel_rfl) (by kernel_rfl) (fun _ _ _ h => h) (Or.inl ⟨by rfl, ?y3⟩) HS0 ?_
            case y3 => (intro w' hSw; (try dsimp only at hSw); go_simp; (try with_reducible rfl))
            simp only [Act.put, List.setIfInBounds_toArray, List.set_cons_zero, List.set_cons_succ]
            refine takeD (i := 4) (d := some 119) (v := ?_) rfl rfl (by kernel_rfl) (by kernel_rfl) (by kernel_rfl) (fun _ _ _ h => h) (Or.inl ⟨by rfl, ?y4⟩) HS0 ?_
            case y4 => (intro w' hSw; (try dsimp only at hSw); go_simp; (try with_reducible rfl))
            simp only [Act.put, List.setIfInBounds_toArray, List.set_cons_zero, List.set_cons_succ]
            refine takeD (i := 5) (d := some 120) (v := ?_) rfl rfl (by kernel_rfl) (by kernel_rfl) (by kernel_rfl) (fun _ _ _ h => h) (Or.inl ⟨by rfl, ?y5⟩) HS0 ?_
            case y5 => (intro w' hSw; (try dsimp only at hSw); go_simp; (try with_reducible rfl))
            simp only [Act.put, List.setIfInBounds_toArray, List.set_cons_zero, List.set_cons_succ]
            refine takeD (i := 6) (d := some 121) (v := ?_) rfl rfl (by kernel_rfl) (by kernel_rfl) (by kernel_rfl) (fun _ _ _ h => h) (Or.inl ⟨by rfl, ?y6⟩) HS0 ?_
            case y6 => (intro w' hSw; (try dsimp only at hSw); go_simp; (try with_reducible rfl))
            simp only [Act.put, List.setIfInBounds_toArray, List.set_cons_zero, List.set_cons_succ]
            refine takeD (i := 7) (d := some 122) (v := ?_) rfl rfl (by kernel_rfl) (by kernel_rfl) (by kernel_rfl) (fun _ _ _ h => h) (Or.inl ⟨by rfl, ?y7⟩) HS0 ?_
            case y7 => (intro w' hSw; (try dsimp only at hSw); go_simp; (try with_reducible rfl))
            simp only [Act.put, List.setIfInBounds_toArray, List.set_cons_zero, List.set_cons_succ]
            refine takeD (i := 8) (d := some 123) (v := ?_) rfl rfl (by kernel_rfl) (by kernel_rfl) (by kernel_rfl) (fun _ _ _ h => h) (Or.inl ⟨by rfl, ?y8⟩) HS0 ?_
            case y8 => (intro w' hSw; (try dsimp only at hSw); go_simp; (try with_reducible rfl))
            simp only [Act.put, List.setIfInBounds_toArray, List.set_cons_zero, List.set_cons_succ]
            refine takeD (i := 9) (d := some 124) (v := .int .u64 (p0 : Nat)) rfl rfl (by kernel_rfl) (by kernel_rfl) (by kernel_rfl) (fun _ _ _ h => h) (Or.inl ⟨by rfl, ?y9⟩) HS0 ?_
            case y9 => (intro w' hSw; (try dsimp only at hSw); go_simp; (try simp only [hsub]); (try rw [hwp]))
            simp only [Act.put, List.setIfInBounds_toArray, List.set_cons_zero, List.set_cons_succ]
            refine takeD (i := 10) (d := some 125) (v := .slice (some ⟨kf, p0, none⟩) (nf - p0) (cf - p0)) rfl rfl (by kernel_rfl) (by kernel_rfl) (by kernel_rfl) (fun _ _ _ h => h) (Or.inl ⟨by rfl, ?y10⟩) HS0 ?_
            case y10 => (intro w' hSw; (try dsimp only at hSw); go_simp; (try simp [ks]))
            simp only [Act.put, List.setIfInBounds_toArray, List.set_cons_zero, List.set_cons_succ]
            refine takeD (i := 11) (d := some 126) (v := ?_) rfl rfl (by kernel_rfl) (by kernel_rfl) (by kernel_rfl) (fun _ _ _ h => h) (Or.inl ⟨by rfl, ?y11⟩) HS0 ?_
            case y11 => (intro w' hSw; (try dsimp only at hSw); go_simp; (try with_reducible rfl))
            simp only [Act.put, List.setIfInBounds_toArray, List.set_cons_zero, List.set_cons_succ]
            refine wpAnyH_ready (rs := [12]) (by kernel_rfl) (by simp) ?_
            refine AllReadyH.cons (i := 12) rfl (fun K hK => ?_) AllReadyH.nil
            rw [if_pos (by rfl)]
            refine wp_copyB (.tmp 125) (.tmp 126) rfl kf p0 (nf - p0) (cf - p0) base nf cf _ _ rfl (unhide HE9).m.row kb 0 (16 * sz) c3p _ rfl (unhide Hcpr) (by omega) (by omega) ?_
            rintro w9 ho9 ⟨cs, rfl⟩
            have hEF := (unhide HE9).copy cs ho9
            have HEF := hide hEF
            clear ho9 hEF
            refine hK.out _ _ (⟨(cell_blk (setRow_other _ kf g cs hgk) 0).trans x0, (cell_blk (setRow_other _ kf g cs hgk) 1).trans x1⟩) (fun hHeld => ?_)
            clear hK K HS0
            have HS0 := hHeld
            clear hHeld
            (try simp only [Act.put, List.setIfInBounds_toArray, List.set_cons_zero, List.set_cons_succ])
            refine wpAnyH_done (by kernel_rfl) ?_ _
            refine NoPanic.normal ?_
            have hw16 : IntKind.u64.wrap (16 * (sz : Int)) = 16 * (sz : Int) := by rw [IntKind.wrap_u64]; omega
            have Hw16 := hide hw16
            clear HS0 x0 x1 ks hsub hwp hw16
            go_wp2_with fail
            go_ret2
            have hsec : Mk.section_ x xs = Mk.over (Mk.laidParts x xs).1 p0 (Mk.entsB (Mk.laidParts x xs).2) := by unfold Mk.section_; rw [unhide Hp0]
            rw [hsec, hroom, unhide Hp0]
            exact ⟨some ⟨kf, 0, none⟩, nf, cf, by first | rfl | (rw [unhide Hw16]; rfl) | (simp; done), FiE.after (unhide Hb1) ((unhide HEF).then_ (below_drew' (Below.refl _ _)))⟩
end Go.Proofs.YtnbecdahfgkffaaGreat
namespace Go.Proofs.YtnbecdahfgkffaaGreat
open Go.RowKit Go.Lib
structure ItKp (B : Nat) (w w' : World) : Prop where
  os : w'.os = w.os
  tape : w'.tape = w.tape
  output : w'.output = w.output
  size : w.heap.size ≤ w'.heap.size
  low : ∀ k, k < B → w'.heap[k]? = w.heap[k]?
  rest : ∀ (k : Nat) (o : Obj), w.heap[k]? = some o → (∀ s p, o ≠ .stringIter s p) → w'.heap[k]? = some o
def IterKept (w w' : World) : Prop := ∀ (k : Nat) (s : ByteArray) (p : Nat), w.heap[k]? = some (.stringIter s p) → w'.heap[k]? = some (.stringIter s p)
theorem ItKp.iter {B : Nat} {w : World} (hB : B ≤ w.heap.size) (s : ByteArray) (p : Nat) : ItKp B w (w.iter s p) :=
  ⟨rfl, rfl, rfl, by simp [World.iter], fun k hk => Below.heap_alloc _ _ _ (by omega), fun k o h _ => by
    rw [← h]
    exact Below.heap_alloc _ _ _ (Array.getElem?_eq_some_iff.1 h).1⟩
theorem ItKp.iterAt {B : Nat} {w : World} {k : Nat} (hB : B ≤ k) (s : ByteArray) (p q : Nat) (h : w.heap[k]? = some (.stringIter s q)) : ItKp B w (w.iterAt k s p) :=
  ⟨rfl, rfl, rfl, by rw [iterAt_size]; exact Nat.le_refl _, fun j hj => iterAt_other _ _ _ _ _ (by omega), fun j o hj hn => by
    by_cases e : j = k
    · subst e
      rw [h] at hj
      exact absurd (Option.some.inj hj).symm (hn _ _)
    · rw [iterAt_other _ _ _ _ _ e]
      exact hj⟩
set_option maxHeartbeats 800000 in
theorem pieces_any {S : Type} (fn : FuncId) (c : Value) (I : Nat → S → World → Prop) (step : S → ByteArray → S × Bool) (B : Nat) (p : ByteArray) (hp : p.size ≤ maxLen)
    (hf : ∀ (args : Array Value) (w : World), (callFunc fn args).run Tryz.prog w = .ok (.enter fn args) w)
    (hI : ∀ n s w w', ItKp B w w' → I n s w → I n s w')
    (hcall : ∀ n s w (x : ByteArray), n ≤ p.size → x.size ≤ p.size → I n s w → Calls Tryz.prog fn #[.string x, c] w fun e w' => e = .returned (.bool (step s x).2) ∧ I (n + 1) (step s x).1 w' ∧ IterKept w w')
    (s0 : S) (w : World) (hB : B ≤ w.heap.size) (h0 : I 0 s0 w) :
    Calls Tryz.prog 97 #[.string p, .func (.func fn) #[] #[c]] w fun e w' => e = .returned (.tuple #[]) ∧ ∃ n, I n (Pth.goF step s0 (Pth.pcs p)) w' := by
  have Hc := hide hcall
  have HI := hide hI
  clear hcall hI
  unfold maxLen at hp
  go_enter Tryz.func97, Tryz.ntmps97
  go_wp2
  go_loopw [4] (fun f wr => ∃ (n pos fr : Nat) (s : S), n ≤ pos ∧ f = .int .i64 fr ∧ fr ≤ pos ∧ pos ≤ p.size ∧ wr.heap[w.heap.size]? = some (.stringIter p pos) ∧ I n s wr ∧ Pth.goF step s (Pth.pcsAt p pos fr) = Pth.goF step s0 (Pth.pcs p)) (fun _ wr => p.size - wr.iterPos w.heap.size)
  case atStart => exact ⟨0, 0, 0, s0, Nat.le_refl _, rfl, Nat.le_refl _, Nat.zero_le _, World.iter_heap _ _ _, unhide HI _ _ _ _ (ItKp.iter hB _ _) h0, rfl⟩
  case round =>
    obtain ⟨n, pos, fr, s, hnp, rfl, hfr, hps, hit, hIs, hg⟩ := hrel
    have Hg := hide hg
    clear hg
    by_cases hlt : pos < p.size
    · obtain ⟨c1, c2, c3, c4, c5⟩ := Pth.decode_cover p pos hlt
      have hI1 : I n s (wr.iterAt w.heap.size p (pos + (Utf8.decode p pos).2))   := unhide HI _ _ _ _ (ItKp.iterAt hB _ _ _ hit) hIs
      have hit1 := iterAt_heap wr w.heap.size p pos (pos + (Utf8.decode p pos).2) hit
      have hip := iterPos_of hit
      have hip1 := iterPos_of hit1
      have hnx := fun ty => run_next_any_at (P := Tryz.prog) wr w.heap.size p pos ty hit hlt
      by_cases hc : p[pos] = 47
      · have hd1 := c4 hc
        have hc' := c3.2 hc
        rw [hd1] at hI1 hit1 hip1 hnx
        rw [hc'] at hnx
        have hgoal : Pth.goF step s (p.extract fr pos :: Pth.pcsAt p (pos + 1) (pos + 1)) = Pth.goF step s0 (Pth.pcs p) := by rw [← Pth.pcsAt_slash p pos fr hlt hc]; exact unhide Hg
        have Hgoal := hide hgoal
        have Hip := hide hip
        have Hit := hide hit1
        clear hgoal hd1 hc' hc hip hip1 hit1 hit c3 c4 c5 c1 c2
        go_wp2_with (refine ((unhide Hc) n s _ (p.extract fr pos) (by omega) (by simp only [ByteArray.size_extract]; omega) hI1).mono ?_; rintro e w1 ⟨rfl, hI2, hk2⟩)
        · have hst : (step s (p.extract fr pos)).2 = false := by
            have h : (!(step s (p.extract fr pos)).2) = true := by assumption
            simpa using h
          refine bodyPost_ret (results_none rfl _ _ _) rfl ⟨rfl, n + 1, ?_⟩
          rw [← unhide Hgoal]
          simp only [Pth.goF, hst, if_false, Bool.false_eq_true]
          exact hI2
        · have hit2 := hk2 _ _ _ (unhide Hit)
          have hip2 := iterPos_of hit2
          have hst : (step s (p.extract fr pos)).2 = true := by
            have h : (!(step s (p.extract fr pos)).2) = false := by assumption
            simpa using h
          go_roundw
          case rel => exact ⟨n + 1, pos + 1, pos + 1, _, by omega, by go_num, Nat.le_refl _, by omega, hit2, hI2, by rw [← unhide Hgoal]; simp [Pth.goF, hst]⟩
          case measure => rw [hip2, unhide Hip]; omega
      · have hne : ((((Utf8.decode p pos).1 : Nat) : Int) != 47) = true := by
          have : (Utf8.decode p pos).1 ≠ 47 := fun e => hc (c3.1 e)
          rw [bne_iff_ne]; omega
        have hgoal : Pth.goF step s (Pth.pcsAt p (pos + (Utf8.decode p pos).2) fr) = Pth.goF step s0 (Pth.pcs p) := by
          rw [← Pth.pcsAt_skips p fr _ pos (c5 hc)]; exact unhide Hg
        have Hgoal := hide hgoal
        have Hip := hide hip
        have Hip1 := hide hip1
        have Hit := hide hit1
        clear hgoal hip hip1 hit1 c3 c4 c5
        go_wp2
        go_roundw
        case rel => exact ⟨n, pos + (Utf8.decode p pos).2, fr, s, by omega, rfl, by omega, c2, unhide Hit, hI1, unhide Hgoal⟩
        case measure => rw [unhide Hip, unhide Hip1]; omega
    · have hnx := fun ty => run_next_end_at (P := Tryz.prog) wr w.heap.size p pos ty hit hlt
      obtain rfl : pos = p.size := by omega
      have hgoal : Pth.goF step s [p.extract fr p.size] = Pth.goF step s0 (Pth.pcs p) := by rw [← Pth.pcsAt_end]; exact unhide Hg
      have Hgoal := hide hgoal
      clear hgoal hps hlt
      go_wp2_with (refine ((unhide Hc) n s _ (p.extract fr p.size) (by omega) (by simp only [ByteArray.size_extract]; omega) hIs).mono ?_; rintro e w1 ⟨rfl, hI2, hk2⟩)
      go_end0
      refine ⟨rfl, n + 1, ?_⟩
      rw [← unhide Hgoal]
      simp only [Pth.goF]
      split <;> exact hI2
def ChkI (w0 : World) (g : Nat) (e : Int) (w : World) : Prop := w.heap[g]? = some (.cells #[.int .i64 e] 35 (0, 0)) ∧ Below w0.heap.size w0 w
theorem ChkI.stable {w0 : World} {g : Nat} (e : Int) (w w' : World) (h : ItKp w0.heap.size w w') (hI : ChkI w0 g e w) : ChkI w0 g e w' :=
  ⟨h.rest _ _ hI.1 (fun _ _ => by simp), hI.2.trans ⟨h.os, h.tape, h.output, h.size, h.low⟩⟩
theorem iterKept_setCell {w : World} {g : Nat} {cs : Array Value} {t : TypeId} {fz : Nat × Nat} (h : w.heap[g]? = some (.cells cs t fz)) (o : Nat) (v : Value) : IterKept w (w.setCell ⟨g, o, none⟩ v) := by
  intro k s p hk
  rw [Below.heap_setCell _ _ _ _ ?_]
  · exact hk
  · rintro rfl
    rw [h] at hk
    cases hk
theorem check1_any (w0 : World) (g : Nat) (hg : w0.heap.size ≤ g) (e : Int) (w : World) (x : ByteArray) (hx : x.size ≤ maxLen) (hI : ChkI w0 g e w) :
    Calls Tryz.prog 98 #[.string x, .pointer (some ⟨g, 0, none⟩)] w fun r w' => r = .returned (.bool (Pth.checkStep e x).2) ∧ ChkI w0 g (Pth.checkStep e x).1 w' ∧ IterKept w w' := by
  have HI := hide hI
  obtain ⟨hc, hb⟩ := hI
  have h1 := cell_of_one hc
  have h2 := free_of_one hc
  have h3 := cell_of_one (one_setCell (u := .int .i64 11) hc)
  clear hc hb
  unfold maxLen at hx
  by_cases hl : 32 < x.size
  · go_enter Tryz.func98, Tryz.ntmps98
    go_wp2
    go_ret
    refine ⟨by simp [Pth.checkStep, hl], ⟨?_, ?_⟩, ?_⟩
    · simp only [Pth.checkStep, hl, if_true]
      exact one_setCell (unhide HI).1
    · exact (unhide HI).2.setCell hg _
    · exact iterKept_setCell (unhide HI).1 _ _
  · go_enter Tryz.func98, Tryz.ntmps98
    go_wp2
    go_ret
    exact ⟨by simp [Pth.checkStep, hl], by simpa [Pth.checkStep, hl] using unhide HI, fun _ _ _ h => h⟩
theorem callFunc_check1 (args : Array Value) (w : World) : (callFunc 98 args).run Tryz.prog w = .ok (.enter 98 args) w := by kernel_rfl
theorem check_any (p : ByteArray) (hp : p.size ≤ maxLen) (w : World) :
    Calls Tryz.prog 54 #[.string p] w fun e w' => e = .returned (.int .i64 (Pth.chk p)) ∧ Below w.heap.size w w' := by
  have hp' := hp
  unfold maxLen at hp
  have hmf : ∀ (fn : Fn) (first cap : Array Value) (w : World), (Instr.makeFunc fn first cap).run Tryz.prog w = .ok (.func fn first cap) w := fun _ _ _ _ => rfl
  have he0 : p.toList.isEmpty = decide (p.size = 0) := isEmpty_toList p
  have hcn := Lib.contains_iff_indexByte p.data.toList 0
  by_cases h0 : p.size = 0
  · have hr : Pth.chk p = 3 := by simp [Pth.chk, h0]
    have Hr := hide hr
    have he : p.toList.isEmpty = true := by rw [he0]; simpa using h0
    clear he0 hr h0 hcn
    go_enter Tryz.func54, Tryz.ntmps54
    go_wp2_with fail
    go_ret
    exact ⟨by rw [unhide Hr]; rfl, Below.refl _ _⟩
  · have he : p.toList.isEmpty = false := by rw [he0]; simpa using h0
    by_cases h1 : p.data.toList.contains 0 = true
    · have hr : Pth.chk p = 1 := by simp only [Pth.chk, h0, h1, if_true, if_false]
      have Hr := hide hr
      have hi : decide (0 ≤ Lib.indexByte p.data.toList 0) = true := by rw [← hcn]; exact h1
      clear he0 hr h0 hcn h1
      go_enter Tryz.func54, Tryz.ntmps54
      go_wp2_with (go_at_call 69; refine (flipw (Tryz.strings_Contains_one _ _ _)).mono ?_; rintro e w1 ⟨rfl, rfl⟩)
      go_ret
      exact ⟨by rw [unhide Hr]; rfl, Below.refl _ _⟩
    · have hi : decide (0 ≤ Lib.indexByte p.data.toList 0) = false := by rw [← hcn]; simpa using h1
      by_cases h2 : 200 < p.size
      · have hr : Pth.chk p = 11 := by simp only [Pth.chk, h0, h1, h2, if_true, if_false, Bool.false_eq_true]
        have Hr := hide hr
        clear he0 hr h0 hcn h1
        go_enter Tryz.func54, Tryz.ntmps54
        go_wp2_with (go_at_call 69; refine (flipw (Tryz.strings_Contains_one _ _ _)).mono ?_; rintro e w1 ⟨rfl, rfl⟩)
        go_ret
        exact ⟨by rw [unhide Hr]; rfl, Below.refl _ _⟩
      · have hr : Pth.chk p = Pth.goF Pth.checkStep 0 (Pth.pcs p) := by rw [Pth.goF_check]; simp only [Pth.chk, h0, h1, h2, if_false, Bool.false_eq_true]
        have Hr := hide hr
        clear he0 hr h0 hcn h1
        have hini : ChkI w w.heap.size 0 (w.alloc (.cells #[.int .i64 0] 35)) := ⟨heap_alloc_new _ _, (Below.refl _ _).alloc (Nat.le_refl _) _⟩
        have Hini := hide hini
        clear hini
        go_enter Tryz.func54, Tryz.ntmps54
        go_wp2_with (first
          | (go_at_call 69; refine (flipw (Tryz.strings_Contains_one _ _ _)).mono ?_; rintro e w1 ⟨rfl, rfl⟩)
          | (go_at_call 97; refine (pieces_any 98 _ (fun _ => ChkI w w.heap.size) Pth.checkStep w.heap.size p hp' callFunc_check1 (fun _ => ChkI.stable) (fun _ s w' x _ hx hI => check1_any w w.heap.size (Nat.le_refl _) s w' x (Nat.le_trans hx hp') hI) 0 _ (Nat.le_of_lt (by simp)) (unhide Hini)).mono ?_; rintro e w1 ⟨rfl, _, hI⟩; have h9 := cell_of_one hI.1; have HI9 := hide hI; clear hI))
        go_ret
        exact ⟨by rw [unhide Hr]; rfl, (unhide HI9).2⟩
theorem strTy : SlTy Tryz.prog 25 9 1 16 := slTy_mk (z := .string ⟨#[]⟩) Tryz.underlying25 (by kernel_rfl) rfl (by omega) (by omega)
end Go.Proofs.YtnbecdahfgkffaaGreat
namespace Go.Proofs.YtnbecdahfgkffaaGreat
open Go.RowKit Go.Lib
def PrtI (w0 : World) (g : Nat) (n : Nat) (l : List ByteArray) (w : World) : Prop :=
  ∃ A c, w.heap[g]? = some (.cells #[.slice A l.length c] 25 (0, 0)) ∧ w.ownsRow w0.heap.size 9 1 (.slice A l.length c) l.length (l.map Value.string) ∧ Below w0.heap.size w0 w ∧ (Value.slice A l.length c).ownBlock ≠ some g ∧ l.length ≤ n
theorem PrtI.sz {w0 w : World} {g n : Nat} {l : List ByteArray} (h : PrtI w0 g n l w) : w0.heap.size ≤ w.heap.size := h.choose_spec.choose_spec.2.2.1.size
end Go.Proofs.YtnbecdahfgkffaaGreat
namespace Go.Proofs.YtnbecdahfgkffaaGreat
open Go.RowKit
end Go.Proofs.YtnbecdahfgkffaaGreat
namespace Go.Proofs.YtnbecdahfgkffaaGreat
open Go.RowKit
theorem take_ext {α : Type} {xs ys : List α} {k : Nat} {x : α} (h : xs.take k = ys.take k) (hx : xs[k]? = some x) (hy : ys[k]? = some x) : xs.take (k + 1) = ys.take (k + 1) := by
  rw [List.take_add_one, List.take_add_one, h, hx, hy]
set_option maxHeartbeats 1000000 in
theorem eqTexts_any (A B : Option Addr) (n m c d K : Nat) (xs ys : List ByteArray) (w : World) (ha : Rd w K 1 A n (xs.map Value.string)) (hb : Rd w K 1 B m (ys.map Value.string)) (hn : n ≤ maxLen) (hm : m ≤ maxLen) :
    Calls Tryz.prog 66 #[.slice A n c, .slice B m d] w fun e w' => e = .returned (.bool (decide (xs = ys))) ∧ ∃ j, w' = w.drewN j := by
  have hxl : xs.length = n := by simpa using ha.len1
  have hyl : ys.length = m := by simpa using hb.len1
  unfold maxLen at hn hm
  have Hxl := hide hxl
  have Hyl := hide hyl
  have Ha := hide ha
  have Hb := hide hb
  clear hxl hyl ha hb
  go_enter Tryz.func66, Tryz.ntmps66
  go_wp2
  go_loopw [5] (fun at_ wr => ∃ k j : Nat, at_ = .int .i64 k ∧ k ≤ n ∧ k ≤ m ∧ xs.take k = ys.take k ∧ wr = w.drewN j) (fun at_ _ => n - (intOf at_).toNat)
  case atStart => exact ⟨0, 0, rfl, Nat.zero_le _, Nat.zero_le _, rfl, rfl⟩
  case round =>
    obtain ⟨k, j, rfl, hkn, hkm, htk, rfl⟩ := hrel
    have Htk := hide htk
    clear htk
    by_cases h1 : k < n
    · have d1 : decide (k < n) = true := by simpa using h1
      have i1 : (k : Int) < (n : Int) := by omega
      by_cases h2 : k < m
      · have d2 : decide (k < m) = true := by simpa using h2
        have i2 : (k : Int) < (m : Int) := by omega
        obtain ⟨x, hx⟩ : ∃ x, xs[k]? = some x := ⟨_, List.getElem?_eq_getElem (by rw [unhide Hxl]; exact h1)⟩
        obtain ⟨y, hy⟩ : ∃ y, ys[k]? = some y := ⟨_, List.getElem?_eq_getElem (by rw [unhide Hyl]; exact h2)⟩
        obtain ⟨b1, o1, rfl, _, c1⟩ := (unhide Ha).at_ (k := k) (u := .string x) (by simp [hx])
        obtain ⟨b2, o2, rfl, _, c2⟩ := (unhide Hb).at_ (k := k) (u := .string y) (by simp [hy])
        have Hx := hide hx
        have Hy := hide hy
        have hbq := beq_toList x y
        clear hx hy
        by_cases he : x = y
        · have q : (x.toList == y.toList) = true := by rw [hbq]; simpa using he
          subst he
          clear hbq
          go_wp2
          go_quiet (fail)
          go_wp2
          go_round
          case rel => exact ⟨k + 1, j + nq, by go_num, by omega, by omega, take_ext (unhide Htk) (unhide Hx) (unhide Hy), rfl⟩
          case measure => simp [intOf]; omega
        · have q : (x.toList == y.toList) = false := by rw [hbq]; simpa using he
          have He := hide he
          clear hbq he
          go_wp2
          go_quiet (fail)
          go_wp2
          go_ret
          refine ⟨ret_bool ?_, _, rfl⟩
          symm
          simp only [decide_eq_false_iff_not]
          rintro rfl
          exact unhide He (Option.some.inj ((unhide Hx).symm.trans (unhide Hy)))
      · have d2 : decide (k < m) = false := by simpa using h2
        go_wp2
        go_quiet (fail)
        go_wp2
        go_ret
        refine ⟨ret_bool ?_, _, rfl⟩
        symm
        simp only [decide_eq_false_iff_not]
        rintro rfl
        have := unhide Hxl
        have := unhide Hyl
        omega
    · have d1 : decide (k < n) = false := by simpa using h1
      go_wp2
      go_quiet (fail)
      go_wp2
      go_ret
      refine ⟨ret_bool ?_, _, rfl⟩
      have hl1 := unhide Hxl
      have hl2 := unhide Hyl
      rw [Bool.eq_iff_iff, beq_iff_eq, decide_eq_true_eq]
      constructor
      · intro e
        have e' := unhide Htk
        rwa [List.take_of_length_le (by omega), List.take_of_length_le (by omega)] at e'
      · rintro rfl
        omega
end Go.Proofs.YtnbecdahfgkffaaGreat
namespace Go.Proofs.YtnbecdahfgkffaaGreat
open Go.RowKit
theorem pcsAt_len (s : ByteArray) : ∀ (l : List UInt8) (i f : Nat), (Pth.pcsL s l i f).length ≤ l.length + 1 := by
  intro l
  induction l with
  | nil => intro i f; exact Nat.le_refl _
  | cons c r ih =>
    intro i f
    unfold Pth.pcsL
    have h1 := ih (i + 1) (i + 1)
    have h2 := ih (i + 1) f
    split
    · simp only [List.length_cons]; omega
    · simp only [List.length_cons]; omega
theorem pcs_len (s : ByteArray) : (Pth.pcs s).length ≤ s.size + 1 := pcsAt_len s s.data.toList 0 0
set_option maxHeartbeats 1000000 in
theorem rpieces_any (p : ByteArray) (hp : p.size ≤ 4294967296) (w : World) :
    Calls Tryz.prog 114 #[.string p] w fun e w' => ∃ A c, e = .returned (.slice A (Pth.pcs p).length c) ∧ w'.ownsRow w.heap.size 9 1 (.slice A (Pth.pcs p).length c) (Pth.pcs p).length ((Pth.pcs p).map Value.string) ∧ Below w.heap.size w w' := by
  go_enter Tryz.func114, Tryz.ntmps114
  go_wp2
  go_loopw [3, 4, 5] (fun out fr i wr => ∃ (k f : Nat) (A : Option Addr) (c : Nat) (l : List ByteArray), k ≤ p.size + 1 ∧ f ≤ k ∧ l.length ≤ k ∧ i = .int .i64 k ∧ fr = .int .i64 f ∧ out = .slice A l.length c ∧
    wr.ownsRow w.heap.size 9 1 (.slice A l.length c) l.length (l.map Value.string) ∧ Below w.heap.size w wr ∧ (k ≤ p.size → Pth.pcs p = l ++ Pth.pcsAt p k f) ∧ (k = p.size + 1 → Pth.pcs p = l)) (fun _ _ i _ => p.size + 1 - (intOf i).toNat)
  case atStart => exact ⟨0, 0, none, 0, [], by omega, Nat.le_refl _, Nat.le_refl _, rfl, rfl, rfl, World.ownsRow_nil _ _ _ _, Below.refl _ _, fun _ => rfl, fun h => by omega⟩
  case round =>
    obtain ⟨k, f, A, c, l, hk, hfk, hlk, rfl, rfl, rfl, hown, hb, h1, h2⟩ := hrel
    have H1 := hide h1
    have H2 := hide h2
    have hsz := hb.size
    clear h1 h2
    by_cases hlt : k ≤ p.size
    · have he := unhide H1 hlt
      by_cases hend : k = p.size
      · subst hend
        have b1 : ((p.size : Int) == (p.size : Int)) = true := by simp
        have hgo : Pth.pcs p = l ++ [p.extract f p.size] := by rw [he, Pth.pcsAt_end]
        have Hgo := hide hgo
        clear he hgo
        go_wp2_with (at_builtin; refine wpList_app1 strTy rfl _ _ rfl w.heap.size (.slice A l.length c) l.length (l.map Value.string) rfl hown #[.string (p.extract f p.size)] rfl rfl (by simp [Value.oneCell']) (by omega) (by omega) ?_; intro A' c' w1 hown' hgrow hat; have hb1 := hide (hb.grown hgrow hsz (fun k hk => (hown.lt k hk).1)); have Hown' := hide hown'; clear hgrow hat hown')
        go_roundw
        case rel =>
          refine ⟨p.size + 1, p.size + 1, A', c', l ++ [p.extract f p.size], by omega, by omega, by simp; omega, by go_num, by go_num, by simp, ?_, unhide hb1, fun h => by omega, fun _ => unhide Hgo⟩
          simpa using unhide Hown'
        case measure => simp [intOf]
      · have hl2 : k < p.size := by omega
        have b1 : ((k : Int) == (p.size : Int)) = false := by simp; omega
        by_cases hc : p[k] = 47
        · have b2 : (((p[k].toNat : Nat) : Int) == 47) = true := by rw [byte_47]; simpa using hc
          have hgo : Pth.pcs p = (l ++ [p.extract f k]) ++ Pth.pcsAt p (k + 1) (k + 1) := by rw [he, Pth.pcsAt_slash p k f hl2 hc]; simp
          have Hgo := hide hgo
          clear he hgo hc hend
          go_wp2_with (at_builtin; refine wpList_app1 strTy rfl _ _ rfl w.heap.size (.slice A l.length c) l.length (l.map Value.string) rfl hown #[.string (p.extract f k)] rfl rfl (by simp [Value.oneCell']) (by omega) (by omega) ?_; intro A' c' w1 hown' hgrow hat; have hb1 := hide (hb.grown hgrow hsz (fun k hk => (hown.lt k hk).1)); have Hown' := hide hown'; clear hgrow hat hown')
          go_roundw
          case rel =>
            refine ⟨k + 1, k + 1, A', c', l ++ [p.extract f k], by omega, by omega, by simp; omega, by go_num, by go_num, by simp, ?_, unhide hb1, fun _ => unhide Hgo, fun h => by omega⟩
            simpa using unhide Hown'
          case measure => simp [intOf]; omega
        · have b2 : (((p[k].toNat : Nat) : Int) == 47) = false := by rw [byte_47]; simpa using hc
          have hgo : Pth.pcs p = l ++ Pth.pcsAt p (k + 1) f := by rw [he, Pth.pcsAt_skip p k f hl2 hc]
          have Hgo := hide hgo
          clear he hgo hc hend
          go_wp2
          go_roundw
          case rel => exact ⟨k + 1, f, A, c, l, by omega, by omega, by omega, by go_num, rfl, rfl, hown, hb, fun _ => unhide Hgo, fun h => by omega⟩
          case measure => simp [intOf]; omega
    · have he := unhide H2 (by omega)
      have He := hide he
      clear he
      go_wp2
      go_ret
      rw [unhide He]
      exact ⟨A, c, rfl, hown, hb⟩
set_option maxHeartbeats 1000000 in
theorem rcheck_any (p : ByteArray) (hp : p.size ≤ 4294967296) (w : World) :
    Calls Tryz.prog 81 #[.string p] w fun e w' => e = .returned (.int .i64 (Pth.chk p)) ∧ Below w.heap.size w w' := by
  have he0 := isEmpty_toList p
  by_cases h0 : p.size = 0
  · have hr : Pth.chk p = 3 := by simp [Pth.chk, h0]
    have he : p.toList.isEmpty = true := by rw [he0]; simpa using h0
    rw [hr]
    clear he0 hr h0
    go_enter Tryz.func81, Tryz.ntmps81
    go_wp2_with fail
    go_ret
    exact ⟨rfl, Below.refl _ _⟩
  · have he : p.toList.isEmpty = false := by rw [he0]; simpa using h0
    have H0 := hide h0
    clear he0 h0
    go_enter Tryz.func81, Tryz.ntmps81
    go_wp2_with fail
    go_loop [3] (fun i => ∃ k : Nat, k ≤ p.size ∧ i = .int .i64 k ∧ (p.data.toList.take k).contains 0 = false) (fun i => p.size - (intOf i).toNat)
    case atStart => exact ⟨0, by omega, rfl, by simp⟩
    case round =>
      obtain ⟨k, hk, rfl, hz⟩ := hrel
      have Hz := hide hz
      clear hz
      by_cases hlt : k < p.size
      · by_cases hc : p[k] = 0
        · have b2 : (((p[k].toNat : Nat) : Int) == 0) = true := by rw [byte_0]; simpa using hc
          have hr : Pth.chk p = 1 := by
            have hm : p.data.toList.contains 0 = true := by
              rw [List.contains_iff_mem, ← hc]
              exact Array.getElem_mem_toList _
            simp only [Pth.chk, unhide H0, hm, if_true, if_false]
          have Hr := hide hr
          clear hr hc
          go_wp2
          go_ret
          exact ⟨by rw [unhide Hr]; rfl, Below.refl _ _⟩
        · have b2 : (((p[k].toNat : Nat) : Int) == 0) = false := by rw [byte_0]; simpa using hc
          have hz : (p.data.toList.take (k + 1)).contains 0 = false := by
            rw [List.take_succ_eq_append_getElem (by simpa using hlt), List.contains_append, unhide Hz]
            simp only [Bool.false_or]
            exact by simpa using fun h => hc h.symm
          have Hz2 := hide hz
          clear hz hc
          go_wp2
          go_round
          case rel => exact ⟨k + 1, by omega, by go_num, unhide Hz2⟩
          case measure => simp [intOf]; omega
      · have hz : p.data.toList.contains 0 = false := by
          have := unhide Hz
          rwa [List.take_of_length_le (by simp; omega)] at this
        by_cases h2 : 200 < p.size
        · have hr : Pth.chk p = 11 := by simp only [Pth.chk, unhide H0, hz, h2, if_true, if_false, Bool.false_eq_true]
          have Hr := hide hr
          clear hr hz
          go_wp2
          go_ret
          exact ⟨by rw [unhide Hr]; rfl, Below.refl _ _⟩
        · have hr : Pth.chk p = if (Pth.pcs p).any Pth.tooLong then 11 else 0 := by simp only [Pth.chk, unhide H0, hz, h2, if_false, Bool.false_eq_true]
          have Hr := hide hr
          have hl := pcs_len p
          clear hr hz
          go_wp2_with (go_at_call 114; refine (rpieces_any p (by omega) _).mono ?_; rintro e w1 ⟨A, c, rfl, hown, hb⟩)
          generalize Pth.pcs p = l at *
          have hrd := Rd.of_own hown
          have Hrd := hide hrd
          clear hrd hown
          go_loop [5] (fun i => ∃ k : Nat, k ≤ l.length ∧ i = .int .i64 k ∧ (l.take k).any Pth.tooLong = false) (fun i => l.length - (intOf i).toNat)
          case atStart => exact ⟨0, by omega, rfl, by simp⟩
          case round =>
            obtain ⟨k, hk, rfl, hz⟩ := hrel
            have Hz := hide hz
            clear hz
            by_cases hlt : k < l.length
            · obtain ⟨x, hx⟩ : ∃ x, l[k]? = some x := ⟨_, List.getElem?_eq_getElem hlt⟩
              obtain ⟨b1, o1, rfl, _, c1⟩ := (unhide Hrd).at_ (k := k) (u := .string x) (by simp [hx])
              by_cases hlong : 32 < x.size
              · have ha : l.any Pth.tooLong = true := List.any_eq_true.2 ⟨x, List.mem_of_getElem? hx, by simpa [Pth.tooLong] using hlong⟩
                have Ha := hide ha
                clear ha hx
                go_wp2
                go_ret
                exact ⟨by rw [unhide Hr, unhide Ha]; rfl, hb⟩
              · have hz : (l.take (k + 1)).any Pth.tooLong = false := by
                  rw [List.take_add_one, hx, List.any_append, unhide Hz]
                  simp [Pth.tooLong, hlong]
                have Hz2 := hide hz
                clear hz hx
                go_wp2
                go_round
                case rel => exact ⟨k + 1, by omega, by go_num, unhide Hz2⟩
                case measure => simp [intOf]; omega
            · have hz : l.any Pth.tooLong = false := by
                have := unhide Hz
                rwa [List.take_of_length_le (by omega)] at this
              have Hz2 := hide hz
              clear hz
              go_wp2
              go_ret
              exact ⟨by rw [unhide Hr, unhide Hz2]; rfl, hb⟩
end Go.Proofs.YtnbecdahfgkffaaGreat
namespace Go.Proofs.YtnbecdahfgkffaaGreat
open Go.RowKit
end Go.Proofs.YtnbecdahfgkffaaGreat
