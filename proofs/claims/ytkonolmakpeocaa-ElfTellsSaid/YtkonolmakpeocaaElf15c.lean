/- The walks of Interp, the program's and the reference's. Conditions: the numbers fit their kinds; there are fewer than 2^32 bytes and headers. -/
import Derived.Test.YtkonolmakpeocaaElf15a
import Derived.Test.YtkonolmakpeocaaRefC
import Derived.Test.YtkonolmakpeocaaBytes
namespace Go.Proofs.Ytkonolmakpeocaa
set_option linter.unusedVariables false
set_option linter.unusedSimpArgs false
open Go.RowKit

theorem Rd.sub {w : World} {B n : Nat} {b1 o1 : Nat} {xs : List Value} (h : Rd w B 1 (some ⟨b1, o1, none⟩) n xs) {off k : Nat} (hk : off + k ≤ n) : Rd w B 1 (some ⟨b1, o1 + off, none⟩) k ((xs.drop off).take k) := by
  have hl := h.len1
  refine ⟨by simp; omega, ?_⟩
  rcases h.2 with h0 | ⟨b, o, e, hb, hc⟩
  · exact .inl (by simp [h0])
  · obtain ⟨rfl, rfl⟩ : b1 = b ∧ o1 = o := by injection e with e; injection e with h1 h2 h3; exact ⟨h1, h2⟩
    refine .inr ⟨b1, o1 + off, rfl, hb, fun j u hu => ?_⟩
    by_cases hj : j < k
    · rw [List.getElem?_take_of_lt hj, List.getElem?_drop] at hu
      rw [Nat.add_assoc]
      exact hc _ _ hu
    · rw [List.getElem?_take_eq_none (by omega)] at hu
      cases hu

theorem conv_rd {P : Program} {w : World} {B n c : Nat} {b1 o1 : Nat} {l : List UInt8} {src dst e : TypeId} (h : Rd w B 1 (some ⟨b1, o1, none⟩) n (bys l)) (hs : P.underlying src = some (.slice e)) (he : P.underlying e = some (.int .u8)) (hd : P.underlying dst = some .string) :
    (convert src dst (.slice (some ⟨b1, o1, none⟩) n c)).run P w = .ok (.string ⟨l.toArray⟩) w := by
  have hl : l.length = n := by simpa [bys] using h.len1
  subst hl
  refine run_convert_bytes_back w src dst e ⟨b1, o1, none⟩ c l hs he hd fun j hj => ?_
  obtain ⟨b, o, e1, _, hc⟩ := h.at_ (k := j) (u := .int .u8 (l[j].toNat : Nat)) (bys_at (List.getElem?_eq_getElem hj))
  obtain ⟨rfl, rfl⟩ : b1 = b ∧ o1 = o := by injection e1 with e; injection e with h1 h2 h3; exact ⟨h1, h2⟩
  rw [Addr.add_lit]
  exact hc

theorem hasSuffix_zero (l : List UInt8) (k : Nat) (hk : l.length = k + 1) : Lib.hasSuffix l [0] = (l[k]? == some 0) := by
  rw [← Lib.hasSuffix_of_drop, hk]
  have e : l.drop (k + 1 - [(0 : UInt8)].length) = [l[k]'(by omega)] := by
    show l.drop k = _
    rw [List.drop_eq_getElem_cons (by omega), List.drop_eq_nil_of_le (by omega)]
  rw [e, List.getElem?_eq_getElem (by omega)]
  simp

theorem cutZero_yes (b1 o1 n1 n c d : Nat) (l : List UInt8) (B p2 : Nat) (w : World) (hn1 : n1 = n + 1) (hr : Rd w B 1 (some ⟨b1, o1, none⟩) n1 (bys l)) (hz : Rd w B 1 (some ⟨p2, 0, none⟩) 1 (bys [0])) (hnc : n1 ≤ c) (hn : n ≤ 4294967296) (h : l[n]? = some 0) :
    Calls Try.prog 39 #[.slice (some ⟨b1, o1, none⟩) n1 c, .slice (some ⟨p2, 0, none⟩) 1 d] w fun e w' => e = .returned (.tuple #[.slice (some ⟨b1, o1, none⟩) n c, .bool true]) ∧ w = w' := by
  subst hn1
  have hl : l.length = n + 1 := by simpa [bys] using hr.len1
  have hc := Try.bytes_CutSuffix_all (some ⟨b1, o1, none⟩) (some ⟨p2, 0, none⟩) (n + 1) c 1 d (l.map fun c => ((c.toNat : Nat) : Int)) ([0].map fun c : UInt8 => ((c.toNat : Nat) : Int)) w (by simpa using hl) rfl hnc (by omega) (bytesIn_rd hr) (bytesIn_rd hz)
  have hs : Lib.hasSuffix l [0] = true := by rw [hasSuffix_zero l n hl, h]; rfl
  have ht : Lib.trimSuffixV (some ⟨b1, o1, none⟩) (n + 1) c (l.map fun c => ((c.toNat : Nat) : Int)) ([0].map fun c : UInt8 => ((c.toNat : Nat) : Int)) = .slice (some ⟨b1, o1, none⟩) n c := by
    show Lib.bytesTrimSuffix b1 o1 (n + 1) c _ _ = _
    unfold Lib.bytesTrimSuffix
    rw [bytesOf_map, bytesOf_map, hs]
    rfl
  rw [bytesOf_map, bytesOf_map, hs, ht] at hc
  exact hc.mono fun e w' ⟨a, b⟩ => ⟨a, b.symm⟩
theorem cutZero_no (b1 o1 n1 n c d : Nat) (l : List UInt8) (B p2 : Nat) (w : World) (hn1 : n1 = n + 1) (hr : Rd w B 1 (some ⟨b1, o1, none⟩) n1 (bys l)) (hz : Rd w B 1 (some ⟨p2, 0, none⟩) 1 (bys [0])) (hnc : n1 ≤ c) (hn : n ≤ 4294967296) (h : ¬ l[n]? = some 0) :
    Calls Try.prog 39 #[.slice (some ⟨b1, o1, none⟩) n1 c, .slice (some ⟨p2, 0, none⟩) 1 d] w fun e w' => e = .returned (.tuple #[.slice (some ⟨b1, o1, none⟩) n1 c, .bool false]) ∧ w = w' := by
  subst hn1
  have hl : l.length = n + 1 := by simpa [bys] using hr.len1
  have hc := Try.bytes_CutSuffix_all (some ⟨b1, o1, none⟩) (some ⟨p2, 0, none⟩) (n + 1) c 1 d (l.map fun c => ((c.toNat : Nat) : Int)) ([0].map fun c : UInt8 => ((c.toNat : Nat) : Int)) w (by simpa using hl) rfl hnc (by omega) (bytesIn_rd hr) (bytesIn_rd hz)
  have hs : Lib.hasSuffix l [0] = false := by rw [hasSuffix_zero l n hl]; simpa using h
  have ht : Lib.trimSuffixV (some ⟨b1, o1, none⟩) (n + 1) c (l.map fun c => ((c.toNat : Nat) : Int)) ([0].map fun c : UInt8 => ((c.toNat : Nat) : Int)) = .slice (some ⟨b1, o1, none⟩) (n + 1) c := by
    show Lib.bytesTrimSuffix b1 o1 (n + 1) c _ _ = _
    unfold Lib.bytesTrimSuffix
    rw [bytesOf_map, bytesOf_map, hs]
    rfl
  rw [bytesOf_map, bytesOf_map, hs, ht] at hc
  exact hc.mono fun e w' ⟨a, b⟩ => ⟨a, b.symm⟩

/-- What Interp answers of a segment. -/
def El.interpS (b : List UInt8) (s : El.Sg) : ByteArray × Bool × Int :=
  if s.fsz = 0 ∨ b.length < s.off + s.fsz then (⟨#[]⟩, false, 25)
  else if ((b.drop s.off).take s.fsz)[s.fsz - 1]? = some 0 ∧ Pth.chk ⟨((b.drop s.off).take (s.fsz - 1)).toArray⟩ = 0 then (⟨((b.drop s.off).take (s.fsz - 1)).toArray⟩, true, 0) else (⟨#[]⟩, false, 25)
def El.interpOf (b : List UInt8) (l : List El.Sg) : ByteArray × Bool × Int :=
  match El.firstK l 3 with
  | some s => El.interpS b s
  | none => (⟨#[]⟩, false, 0)
def InterpEnd (b : List UInt8) (l : List El.Sg) (w : World) (e : Ending) (w' : World) : Prop :=
  e = .returned (.tuple #[.string (El.interpOf b l).1, .bool (El.interpOf b l).2.1, .int .i64 (El.interpOf b l).2.2]) ∧ Below w.heap.size w w'
theorem interp_end {b : List UInt8} {l : List El.Sg} {w w' : World} {s : ByteArray} {q : Bool} {x : Int} (h : El.interpOf b l = (s, q, x)) (hb : Below w.heap.size w w') : InterpEnd b l w (.returned (.tuple #[.string s, .bool q, .int .i64 x])) w' := by
  unfold InterpEnd
  rw [h]
  exact ⟨rfl, hb⟩

set_option maxHeartbeats 4000000 in
theorem interp_any (Ab : Option Addr) (m cb : Nat) (b : List UInt8) (A : Option Addr) (n c B : Nat) (l : List El.Sg) (ty en ph : Int) (w : World) (hB : B ≤ w.heap.size) (hb : Rd w B 1 Ab m (bys b)) (hl : Rd w B 6 A n (segCells l)) (hm : m ≤ 4294967296) (hmc : m ≤ cb) (hn : n ≤ 4294967296) (hf : ∀ x ∈ l, SgFit x) :
    Calls Try.prog 17 #[.slice Ab m cb, .agg #[.int .u16 ty, .int .u64 en, .int .u64 ph, .slice A n c]] w (InterpEnd b l w) := by
  have hbl : b.length = m := by simpa [bys] using hb.len1
  have hfst := fun (w' : World) (hx : Below w.heap.size w w') => first_any A n c B l ty en ph 3 w' (Nat.le_trans hB hx.size) (hl.below (hx.mono hB)) hn
  unfold FirstEnd at hfst
  have hio : El.interpOf b l = match El.firstK l 3 with
    | some s => El.interpS b s
    | none => (⟨#[]⟩, false, 0) := rfl
  have hmem : ∀ s, El.firstK l 3 = some s → SgFit s := fun s hs => hf s (List.mem_of_find?_eq_some hs)
  cases hfk : El.firstK l 3 with
  | none =>
    rw [hfk] at hio
    simp only [hfk, Option.getD_none, Option.isSome_none, segVal, El.zeroSg] at hfst
    have Hfst := hide hfst
    have Hio := hide hio
    clear hfst hio hfk hmem hl hb hf hbl
    go_enter Try.func17, Try.ntmps17
    go_wp2_with (go_at_call 38; refine ((unhide Hfst) _ ((Below.refl _ _).alloc (Nat.le_refl _) _)).mono ?_; rintro e w1 ⟨rfl, hb1⟩; have hb2 := below_new hb1; have hsz := hb2.size; have Hb2 := hide hb2; clear hb1 hb2)
    go_ret3
    exact interp_end (unhide Hio) ((unhide Hb2).alloc hsz _)
  | some s =>
    rw [hfk] at hio
    obtain ⟨i1, i2, i3, i4, i5, i6⟩ := hmem s hfk
    simp only [hfk, Option.getD_some, Option.isSome_some, segVal] at hfst
    obtain ⟨sk, sfl, so, sa, sf, sm⟩ := s
    simp only at i1 i2 i3 i4 i5 i6 hfst hio
    have Hfst := hide hfst
    clear hfst hfk hmem hl hf
    by_cases h1 : sf = 0
    · have hfin : El.interpOf b l = (⟨#[]⟩, false, 25) := by rw [hio]; simp [El.interpS, h1]
      have Hfin := hide hfin
      have q1 : (((sf : Nat) : Int) == 0) = true := beq_iff_eq.2 (by omega)
      clear hio hfin hb hbl h1
      go_enter Try.func17, Try.ntmps17
      go_wp2_with (go_at_call 38; refine ((unhide Hfst) _ ((Below.refl _ _).alloc (Nat.le_refl _) _)).mono ?_; rintro e w1 ⟨rfl, hb1⟩; have hb2 := below_new hb1; have hsz := hb2.size; have Hb2 := hide hb2; clear hb1 hb2)
      go_ret3
      exact interp_end (unhide Hfin) ((unhide Hb2).alloc hsz _)
    have q1 : (((sf : Nat) : Int) == 0) = false := beq_eq_false_iff_ne.2 (by omega)
    by_cases h2 : so + sf ≤ m
    case neg =>
      have hfin : El.interpOf b l = (⟨#[]⟩, false, 25) := by rw [hio]; unfold El.interpS; rw [if_pos (.inr (by simp only; omega))]
      have Hfin := hide hfin
      have q2 : decide (((so : Nat) : Int) + ((sf : Nat) : Int) ≤ ((m : Nat) : Int)) = false := by simp; omega
      clear hio hfin hb hbl h2
      go_enter Try.func17, Try.ntmps17
      go_wp2_with (first
        | (go_at_call 38; refine ((unhide Hfst) _ ((Below.refl _ _).alloc (Nat.le_refl _) _)).mono ?_; rintro e w1 ⟨rfl, hb1⟩; have hb2 := below_new hb1; have hsz := hb2.size; have Hb2 := hide hb2; clear hb1 hb2)
        | (go_at_call 29; refine (inside_any _ _ _ _ (by omega) (by omega) (by omega) (by omega) (by omega)).mono ?_; rintro e w1 ⟨rfl, rfl⟩))
      go_ret3
      exact interp_end (unhide Hfin) ((unhide Hb2).alloc hsz _)
    have q2 : decide (((so : Nat) : Int) + ((sf : Nat) : Int) ≤ ((m : Nat) : Int)) = true := by simp; omega
    obtain ⟨k, hk⟩ : ∃ k, sf = k + 1 := ⟨sf - 1, by omega⟩
    have hk1 : k < sf := by omega
    have hio2 : El.interpOf b l = if ((b.drop so).take sf)[k]? = some 0 ∧ Pth.chk ⟨((b.drop so).take k).toArray⟩ = 0 then (⟨((b.drop so).take k).toArray⟩, true, 0) else (⟨#[]⟩, false, 25) := by
      rw [hio]; unfold El.interpS; rw [if_neg (by simp only; omega)]; simp only [hk, Nat.add_sub_cancel]
    obtain ⟨b1, o1, rfl, hb1, _⟩ := hb.open_ (by intro e; have := hb.len1; rw [e] at this; simp at this; omega)
    have hsub := hb.sub (off := so) (k := sf) h2
    have hsub2 := hb.sub (off := so) (k := k) (by omega)
    have e1 : ((bys b).drop so).take sf = bys ((b.drop so).take sf) := by simp [bys]
    have e2 : ((bys b).drop so).take k = bys ((b.drop so).take k) := by simp [bys]
    rw [e1] at hsub
    rw [e2] at hsub2
    have hts : (⟨((b.drop so).take k).toArray⟩ : ByteArray).size = k := by
      have := hsub2.len1
      rw [bys_len] at this
      simpa [ByteArray.size] using this
    have hbs : b1 < w.heap.size := by omega
    generalize (b.drop so).take sf = lx at *
    generalize (b.drop so).take k = ly at *
    have Hio := hide hio2
    have Hk := hide hk
    have Hsub := hide hsub
    have Hsub2 := hide hsub2
    clear hio hio2 hk hsub hsub2 e1 e2 hb hbl
    generalize ht : (⟨ly.toArray⟩ : ByteArray) = t at *
    have Ht := hide ht
    clear ht
    go_enter Try.func17, Try.ntmps17
    go_wp2_with (first
      | (go_at_call 38; refine ((unhide Hfst) _ ((Below.refl _ _).alloc (Nat.le_refl _) _)).mono ?_; rintro e w1 ⟨rfl, hb1⟩; have hb2 := below_new hb1; have hsz := hb2.size; have Hb2 := hide hb2; clear hb1 hb2)
      | (go_at_call 29; refine (inside_any _ _ _ _ (by omega) (by omega) (by omega) (by omega) (by omega)).mono ?_; rintro e w1 ⟨rfl, rfl⟩))
    obtain ⟨WB, hWB⟩ : ∃ WB, WB = (w1.alloc (.cells #[.int .u32 sk, .int .u8 sfl, .int .u64 so, .int .u64 sa, .int .u64 sf, .int .u64 sm] 37)).alloc (.cells #[.int .u8 0] 5) := ⟨_, rfl⟩
    have hbw : Below w.heap.size w WB := by rw [hWB]; exact ((unhide Hb2).alloc hsz _).alloc (by simp; omega) _
    have hszW : WB.heap.size = w1.heap.size + 2 := by rw [hWB]; simp
    have hz : Rd WB (w1.heap.size + 2) 1 (some ⟨w1.heap.size + 1, 0, none⟩) 1 (bys [0]) := by
      rw [hWB]
      have := Rd.row (w := w1.alloc (.cells #[.int .u32 sk, .int .u8 sfl, .int .u64 so, .int .u64 sa, .int .u64 sf, .int .u64 sm] 37)) (cs := #[.int .u8 0]) (e := 5) (size := 1) rfl
      simp only [World.size_alloc] at this
      exact this
    have hr := ((unhide Hsub).below (hbw.mono hB)).more (B' := w1.heap.size + 2) (by omega)
    have hr2 := (unhide Hsub2).below (hbw.mono hB)
    have hcv := conv_rd (P := Try.prog) (c := cb - so) hr2 Try.underlying22 Try.underlying5 Try.underlying9
    rw [unhide Ht] at hcv
    rw [← hWB]
    have hs1 := hbw.size
    have Hbw := hide hbw
    have Hz := hide hz
    have Hr := hide hr
    have Hr2 := hide hr2
    clear hWB hbw hz hr hr2 Hsub Hsub2 Hb2
    by_cases h3 : lx[k]? = some 0
    case neg =>
      have hfin : El.interpOf b l = (⟨#[]⟩, false, 25) := by rw [unhide Hio, if_neg (fun h => h3 h.1)]
      have Hfin := hide hfin
      have hc := cutZero_no b1 (o1 + so) sf k (cb - so) 1 lx (w1.heap.size + 2) (w1.heap.size + 1) WB (unhide Hk) (unhide Hr) (unhide Hz) (by omega) (by omega) h3
      have Hc := hide hc
      clear hfin hc h3
      refine (unhide Hc).mono ?_
      rintro e w2 ⟨rfl, rfl⟩
      go_wp2_with fail
      go_ret3
      exact interp_end (unhide Hfin) (unhide Hbw)
    have hc := cutZero_yes b1 (o1 + so) sf k (cb - so) 1 lx (w1.heap.size + 2) (w1.heap.size + 1) WB (unhide Hk) (unhide Hr) (unhide Hz) (by omega) (by omega) h3
    refine hc.mono ?_
    rintro e w2 ⟨rfl, rfl⟩
    have hck := fun (w' : World) => check_any t (by unfold maxLen; omega) w'
    have Hck := hide hck
    clear hc hck
    by_cases h4 : Pth.chk t = 0
    case neg =>
      have hfin : El.interpOf b l = (⟨#[]⟩, false, 25) := by rw [unhide Hio, if_neg (fun h => h4 h.2)]
      have Hfin := hide hfin
      have q4 : (Pth.chk t != 0) = true := by simpa using h4
      clear hfin h3 h4
      go_wp2_with (go_at_call 40; refine ((unhide Hck) _).mono ?_; rintro e w3 ⟨rfl, hb3⟩; have Hb3 := hide hb3; clear hb3)
      go_ret3
      exact interp_end (unhide Hfin) ((unhide Hbw).trans ((unhide Hb3).mono hs1))
    have hfin : El.interpOf b l = (t, true, 0) := by rw [unhide Hio, if_pos ⟨h3, h4⟩]
    have Hfin := hide hfin
    rw [h4] at Hck
    clear hfin h3 h4
    go_wp2_with (go_at_call 40; refine ((unhide Hck) _).mono ?_; rintro e w3 ⟨rfl, hb3⟩; have hcv3 := conv_rd (P := Try.prog) (c := cb - so) ((unhide Hr2).below (hb3.mono (by omega))) Try.underlying22 Try.underlying5 Try.underlying9; rw [unhide Ht] at hcv3; have Hb3 := hide hb3; clear hb3)
    go_ret3
    exact interp_end (unhide Hfin) ((unhide Hbw).trans ((unhide Hb3).mono hs1))

set_option maxHeartbeats 4000000 in
theorem rinterp_any (Ab : Option Addr) (m cb : Nat) (b : List UInt8) (A : Option Addr) (n c B : Nat) (l : List El.Sg) (ty en ph : Int) (w : World) (hB : B ≤ w.heap.size) (hb : Rd w B 1 Ab m (bys b)) (hl : Rd w B 6 A n (segCells l)) (hm : m ≤ 4294967296) (hmc : m ≤ cb) (hn : n ≤ 4294967296) (hf : ∀ x ∈ l, SgFit x) :
    Calls Try.prog 18 #[.slice Ab m cb, .agg #[.int .u16 ty, .int .u64 en, .int .u64 ph, .slice A n c]] w (InterpEnd b l w) := by
  have hbl : b.length = m := by simpa [bys] using hb.len1
  have hln : l.length = n := by have := hl.1; rw [segCells_len] at this; omega
  have hio1 : El.firstK l 3 = none → El.interpOf b l = (⟨#[]⟩, false, 0) := fun h => by unfold El.interpOf; rw [h]
  have hio2 : ∀ s, El.firstK l 3 = some s → El.interpOf b l = El.interpS b s := fun s h => by unfold El.interpOf; rw [h]
  unfold El.firstK at hio1 hio2
  have Hio1 := hide hio1
  have Hio2 := hide hio2
  have Hl := hide hl
  have Hln := hide hln
  have Hf := hide hf
  have Hb := hide hb
  have Hbl := hide hbl
  clear hio1 hio2 hl hln hf hb hbl
  go_enter Try.func18, Try.ntmps18
  go_wp2
  go_loopg [7] n (fun gk i wr => ∃ k : Nat, gk = n - k ∧ k ≤ n ∧ i = .int .i64 k ∧ (l.take k).find? (fun s => s.kind == 3) = none ∧ Below w.heap.size w wr ∧ wr.heap[w.heap.size]? = some (.cells #[.int .u16 ty, .int .u64 en, .int .u64 ph, .slice A n c] 28 (0, 0)))
  case atStart => exact ⟨0, by omega, Nat.zero_le _, rfl, rfl, (Below.refl _ _).alloc (Nat.le_refl _) _, heap_alloc_new _ _⟩
  case round =>
  obtain ⟨k, hgk, hk, rfl, hno, hbw, hx⟩ := hrel
  have hsz := hbw.size
  have hsx := lt_of_block hx
  obtain ⟨x0, x1, x2, x3⟩ := box_facts hx
  have Hgk := hide hgk
  have Hno := hide hno
  have Hbw := hide hbw
  have Hx := hide hx
  clear hgk hno hbw hx x0 x1 x2
  rcases Nat.lt_or_ge k n with hlt | hge
  case inr =>
    obtain rfl : k = n := by omega
    have hfst : l.find? (fun s => s.kind == 3) = none := by
      have := unhide Hno
      rwa [List.take_of_length_le (by have := unhide Hln; omega)] at this
    have hfin := (unhide Hio1) hfst
    have Hfin := hide hfin
    clear hfin hfst
    go_wp2
    go_ret3
    exact interp_end (unhide Hfin) (unhide Hbw)
  obtain ⟨s, hs⟩ : ∃ s, l[k]? = some s := ⟨_, List.getElem?_eq_getElem (by rw [unhide Hln]; exact hlt)⟩
  obtain ⟨b1, o1, rfl, hbb, c0, c1, c2, c3, c4, c5⟩ := seg_at ((unhide Hl).below ((unhide Hbw).mono hB)) hs
  obtain ⟨i1, i2, i3, i4, i5, i6⟩ := (unhide Hf) _ (List.mem_of_getElem? hs)
  obtain ⟨sk, sfl, so, sa, sf, sm⟩ := s
  simp only at c0 c1 c2 c3 c4 c5 i1 i2 i3 i4 i5 i6
  by_cases he : sk = 3
  case neg =>
    have he' : (((sk : Nat) : Int) != 3) = true := by rw [bne_iff_ne]; omega
    have hno2 := find_none_snoc (unhide Hno) hs (by simp [he])
    have Hno2 := hide hno2
    clear hno2 hs he
    go_wp2
    go_roundg (n - (k + 1))
    case measure => have := unhide Hgk; omega
    case rel => exact ⟨k + 1, rfl, by omega, by go_num, unhide Hno2, (unhide Hbw).alloc hsz _, (Below.heap_alloc _ _ _ hsx).trans (unhide Hx)⟩
  have he' : (((sk : Nat) : Int) != 3) = false := by simp; omega
  have hio := (unhide Hio2) _ (find_hit (unhide Hno) hs (by simp [he]))
  clear hs he
  by_cases h1 : sf = 0
  · have hfin : El.interpOf b l = (⟨#[]⟩, false, 25) := by rw [hio]; simp [El.interpS, h1]
    have Hfin := hide hfin
    have q1 : (((sf : Nat) : Int) == 0) = true := beq_iff_eq.2 (by omega)
    clear hio hfin h1
    go_wp2
    go_ret3
    exact interp_end (unhide Hfin) ((unhide Hbw).alloc hsz _)
  have q1 : (((sf : Nat) : Int) == 0) = false := beq_eq_false_iff_ne.2 (by omega)
  by_cases h2 : so + sf ≤ m
  case neg =>
    have hfin : El.interpOf b l = (⟨#[]⟩, false, 25) := by rw [hio]; unfold El.interpS; rw [if_pos (.inr (by have := unhide Hbl; simp only; omega))]
    have Hfin := hide hfin
    have q2 : decide (((so : Nat) : Int) + ((sf : Nat) : Int) ≤ ((m : Nat) : Int)) = false := by simp; omega
    clear hio hfin h2
    go_wp2_with (go_at_call 41; refine (rinside_any _ _ _ _ (by omega) (by omega) (by omega) (by omega) (by omega) (by omega)).mono ?_; rintro e w1 ⟨rfl, rfl⟩)
    go_ret3
    exact interp_end (unhide Hfin) ((unhide Hbw).alloc hsz _)
  have q2 : decide (((so : Nat) : Int) + ((sf : Nat) : Int) ≤ ((m : Nat) : Int)) = true := by simp; omega
  obtain ⟨j, hj⟩ : ∃ j, sf = j + 1 := ⟨sf - 1, by omega⟩
  have hk1 : j < sf := by omega
  have hio2 : El.interpOf b l = if ((b.drop so).take sf)[j]? = some 0 ∧ Pth.chk ⟨((b.drop so).take j).toArray⟩ = 0 then (⟨((b.drop so).take j).toArray⟩, true, 0) else (⟨#[]⟩, false, 25) := by
    rw [hio]; unfold El.interpS; rw [if_neg (by have := unhide Hbl; simp only; omega)]; simp only [hj, Nat.add_sub_cancel]
  obtain ⟨d1, p1, rfl, hd1, _⟩ := (unhide Hb).open_ (by intro e; have := (unhide Hb).len1; rw [e] at this; simp at this; omega)
  have hsub2 := (unhide Hb).sub (off := so) (k := j) (by omega)
  have e2 : ((bys b).drop so).take j = bys ((b.drop so).take j) := by simp [bys]
  rw [e2] at hsub2
  have hts : (⟨((b.drop so).take j).toArray⟩ : ByteArray).size = j := by
    have := hsub2.len1
    rw [bys_len] at this
    simpa [ByteArray.size] using this
  obtain ⟨x, hx⟩ : ∃ x, b[so + sf - 1]? = some x := ⟨_, List.getElem?_eq_getElem (by rw [unhide Hbl]; omega)⟩
  have hxj : ((b.drop so).take sf)[j]? = some x := by
    rw [List.getElem?_take_of_lt hk1, List.getElem?_drop, ← hx]
    congr 1
    omega
  obtain ⟨b2, o2, hbe, _, cx⟩ := ((unhide Hb).below ((unhide Hbw).mono hB)).at_ (k := so + sf - 1) (u := .int .u8 x.toNat) (bys_at hx)
  obtain ⟨rfl, rfl⟩ : d1 = b2 ∧ p1 = o2 := by injection hbe with e; injection e with h1 h2 h3; exact ⟨h1, h2⟩
  have hds : d1 < wr.heap.size := by omega
  have hdx : d1 ≠ wr.heap.size := by omega
  rw [hxj] at hio2
  generalize (b.drop so).take j = ly at *
  generalize ht : (⟨ly.toArray⟩ : ByteArray) = t at *
  have hcv := conv_rd (P := Try.prog) (c := cb - so) ((hsub2.below ((unhide Hbw).mono hB)).alloc (by omega) (.cells #[.int .u32 sk, .int .u8 sfl, .int .u64 so, .int .u64 sa, .int .u64 sf, .int .u64 sm] 37)) Try.underlying22 Try.underlying5 Try.underlying9
  rw [ht, show j = so + sf - 1 - so from by omega] at hcv
  have hjs : so + sf - 1 - so = j := by omega
  have Hio := hide hio2
  have Hj := hide hj
  clear hio hio2 hj hsub2 hbe e2 ht hx hxj hjs
  have hck := fun (w' : World) => rcheck_any t (by omega) w'
  have Hck := hide hck
  clear hck
  by_cases h3 : x = 0
  case neg =>
    have hfin : El.interpOf b l = (⟨#[]⟩, false, 25) := by rw [unhide Hio, if_neg (fun h => h3 (Option.some.inj h.1))]
    have Hfin := hide hfin
    have q3 : (((x.toNat : Nat) : Int) != 0) = true := by
      have := byte_0 x
      rw [bne, this]
      simpa using h3
    clear hfin h3
    go_wp2_with (go_at_call 41; refine (rinside_any _ _ _ _ (by omega) (by omega) (by omega) (by omega) (by omega) (by omega)).mono ?_; rintro e w1 ⟨rfl, rfl⟩)
    go_ret3
    exact interp_end (unhide Hfin) ((unhide Hbw).alloc hsz _)
  subst h3
  by_cases h4 : Pth.chk t = 0
  case neg =>
    have hfin : El.interpOf b l = (⟨#[]⟩, false, 25) := by rw [unhide Hio, if_neg (fun h => h4 h.2)]
    have Hfin := hide hfin
    have q4 : (Pth.chk t != 0) = true := by simpa using h4
    clear hfin h4
    go_wp2_with (first
      | (go_at_call 41; refine (rinside_any _ _ _ _ (by omega) (by omega) (by omega) (by omega) (by omega) (by omega)).mono ?_; rintro e w1 ⟨rfl, rfl⟩)
      | (go_at_call 42; refine ((unhide Hck) _).mono ?_; rintro e w3 ⟨rfl, hb3⟩; have Hb3 := hide hb3; clear hb3))
    go_ret3
    exact interp_end (unhide Hfin) ((unhide Hbw).trans ((below_new (unhide Hb3)).mono hsz))
  have hfin : El.interpOf b l = (t, true, 0) := by rw [unhide Hio, if_pos ⟨rfl, h4⟩]
  have Hfin := hide hfin
  rw [h4] at Hck
  clear hfin h4
  go_wp2_with (first
    | (go_at_call 41; refine (rinside_any _ _ _ _ (by omega) (by omega) (by omega) (by omega) (by omega) (by omega)).mono ?_; rintro e w1 ⟨rfl, rfl⟩)
    | (go_at_call 42; refine ((unhide Hck) _).mono ?_; rintro e w3 ⟨rfl, hb3⟩; have Hb3 := hide hb3; clear hb3))
  go_ret3
  exact interp_end (unhide Hfin) ((unhide Hbw).trans ((below_new (unhide Hb3)).mono hsz))

end Go.Proofs.Ytkonolmakpeocaa
