/- The reference's Parse, of any bytes. Conditions: there are fewer than 2^32 bytes. strings.IndexRune of the two blanks at a rune that is none of ASCII. Conditions: as said. strings.IndexRune of the two blanks at the rune of a fault (65533). Conditions: as said. strings.IndexAny of the two blanks, for any bytes. Conditions: as said. The rest of a slice, s[1:], told by one address whatever its capacity. No conditions. Free of any chapter. bytes.CutPrefix and bytes.Cut as shebang.Parse calls them. Conditions: there are fewer than 2^32 bytes. shebang.Parse, of any bytes. Conditions: there are fewer than 2^32 bytes. What it is to have grown a row of bytes of the call's own. No conditions. Laws of the walk for append onto a slice that has no room behind it, read by 'Rd': 'append(l[:len(l):len(l)], ..)'. No conditions. One more law for append: the new element's block spelt by a number that is the heap's size. No conditions. The walks of hostelref00.CopyTexts. Conditions: there are fewer than 2^32 texts. shebang.behind, shebang.Argv, hostelref21.Argv. Conditions: there are fewer than 2^32 texts. A block of the call's own, by its cells: read, written, kept. No conditions. Who may what with a node: the walks of creds.Class, creds.May, and of their references, for CanExec. Conditions: the groups are no more than the model's greatest length. Who may what with a node: the walks of hostelref04.Class and May, for CanExec. Conditions: the groups are no more than the model's greatest length. A map with whatever keys, its entries in their order: a new key put in, a key looked up. No conditions. Free of any chapter. A file system in memory: its nodes as blocks, told by number. Conditions: as each says. What is known of a node: the walk of Meta. Conditions: as each says. A nil file system: the walks of Walk, Read and Path. No conditions. The root of a file system; type assertions. Conditions: as each says. A file system in memory, whole: all its blocks are of a base on, told apart; its maps say its names. Conditions: as each says. The node at parts from the root on: the walk of at. Conditions: as it says. The plain lemma on the capacity of a row of the call's own. No conditions. The walks of the package paths: what Parts, Join, Base, Dir and Tail compute, of any text. Condition: the texts are no longer than the model's greatest length. -/
import Derived.Test.YtfegfmapdekkbaaGreatDoorSbB1
import Derived.Laws.Runes
import Derived.Scope
import Derived.ScopeJumps
import Derived.Laws.RangeString
import Derived.Deep.LoopGhost
import Derived.Lib.IndexAny
import Derived.Lib.OthersKept
import Derived.Shelf.Strings.IndexAnyAll
import Derived.Shelf.Strings.SlTrimAscii
import Derived.Lib.SlBytesConst
import Derived.Deep.RegionHeld3
import Derived.ArgAppend
import Derived.Deep.Upon
import Derived.Test.YtfegfmapdekkbaaGreatDoorShelf
import Derived.Maps.Own
namespace Go.Proofs.YtfegfmapdekkbaaGreatDoor
set_option linter.unusedVariables false
set_option linter.unusedSimpArgs false
open Go.RowKit

set_option maxRecDepth 100000 in
set_option maxHeartbeats 4000000 in
theorem rparse_two (b1 o1 B : Nat) (w : World) (hb : Rd w B 1 (some ⟨b1, o1, none⟩) 2 (bys [35, 33])) :
    Calls Tryz.prog 28 #[.slice (some ⟨b1, o1, none⟩) 2 2] w (ParseE ([], [], false, 13) w) := by
  obtain ⟨b2, o2, e1, _, c0⟩ := hb.at_ (k := 0) (u := .int .u8 35) rfl
  obtain ⟨rfl, rfl⟩ : b1 = b2 ∧ o1 = o2 := by simpa using e1
  obtain ⟨b2, o2, e2, _, c1⟩ := hb.at_ (k := 1) (u := .int .u8 33) rfl
  obtain ⟨rfl, rfl⟩ : b1 = b2 ∧ o1 = o2 := by simpa using e2
  rw [Nat.add_zero] at c0
  have hcv := fun (a : Option Addr) (c' : Nat) => conv_any (c := c') (w := w) (B := B) (n := 0) (A := a) (l := []) ⟨rfl, .inl rfl⟩ Tryz.underlying49 Tryz.underlying5 Tryz.underlying9
  have cv1 := hcv (some ⟨b1, o1, none⟩) 0
  have cv2 := hcv (some ⟨b1, o1 + 2, none⟩) 0
  have KT := rtrimmed_any ⟨#[]⟩ w (by decide)
  have e0 : Sb.ba (Sb.trim (⟨#[]⟩ : ByteArray).data.toList) = ⟨#[]⟩ := rfl
  rw [e0] at KT
  have HKT := hide KT
  clear hb e1 e2 hcv KT e0
  go_enter Tryz.func28, Tryz.ntmps28
  go_wp2_with fail
  go_loopg [6] 0 (fun gk nv wr => gk = 0 ∧ nv = .int .i64 2 ∧ w = wr)
  case atStart => exact ⟨rfl, rfl, rfl⟩
  case round =>
  obtain ⟨_, rfl, rfl⟩ := hrel
  go_wp2_with fail
  refine (unhide HKT).mono ?_
  rintro e w1 ⟨rfl, rfl⟩
  go_wp2_with fail
  (try simp only [Exit.inBlock, Exit.then])
  refine bodyPost_ret (res_tmp4 rfl _ _ _) rfl ?_
  exact ⟨rfl, Below.refl _ _⟩

theorem rparse_any (A : Option Addr) (m c B : Nat) (b : List UInt8) (w : World) (hb : Rd w B 1 A m (bys b)) (hm : m ≤ 4294967296) (hmc : m ≤ c) :
    Calls Tryz.prog 28 #[.slice A m c] w (ParseE (Sb.parse b) w) := by
  cases h : Lib.hasPrefix b [35, 33] with
  | false => exact rparse_no A m c B b w hb hm h
  | true =>
    have hb2 : ∃ r, b = 35 :: 33 :: r := by
      match b, h with
      | [], h => cases h
      | [x], h => simp [Lib.hasPrefix, List.isPrefixOf] at h
      | x :: y :: r, h =>
        simp [Lib.hasPrefix, List.isPrefixOf] at h
        exact ⟨r, by rw [← h.1, ← h.2]⟩
    obtain ⟨r, rfl⟩ := hb2
    have hp : Sb.parse (35 :: 33 :: r) = Sb.ofLine (Sb.line r) := by unfold Sb.parse; rw [h]; rfl
    have hbl : (35 :: 33 :: r : List UInt8).length = m := by simpa [bys] using hb.len1
    have hrl : r.length + 2 = m := by simpa using hbl
    rw [hp]
    by_cases hc2 : 2 < c
    · exact rparse_yes A m c B r w hb hm hmc hc2
    · obtain rfl : c = 2 := by omega
      obtain rfl : m = 2 := by omega
      have hr : r = [] := List.eq_nil_of_length_eq_zero (by omega)
      subst hr
      obtain ⟨b1, o1, rfl, _, _⟩ := hb.at_ (k := 0) (u := .int .u8 35) rfl
      exact rparse_two b1 o1 B w hb
end Go.Proofs.YtfegfmapdekkbaaGreatDoor
namespace Go.Proofs.YtfegfmapdekkbaaGreatDoor
set_option linter.unusedVariables false
set_option linter.unusedSimpArgs false
open Go.RowKit

set_option maxRecDepth 100000 in
set_option maxHeartbeats 4000000 in
theorem irune_hi (c : Nat) (w : World) (h1 : 128 ≤ c) (h2 : c ≤ 1114111) (hne : c ≠ 65533) : Calls Tryz.prog 72 #[.string ⟨#[32, 9]⟩, .int .i32 (c : Nat)] w fun e w' => e = .returned (.int .i64 (-1)) ∧ Below w.heap.size w w' := by
  have i0 : (0 : Int) ≤ (c : Int) := by omega
  have i1 : ¬ (c : Int) < 128 := by omega
  have i2 : ((c : Int) == 65533) = false := by rw [beq_eq_false_iff_ne]; omega
  go_enter Tryz.func72, Tryz.ntmps72
  go_wp2_with fail
  refine (Tryz.utf8_ValidRune (c : Nat) w).mono ?_
  rintro e w1 ⟨rfl, hw⟩
  subst hw
  cases hv : Lib.validRune (c : Nat) with
  | false =>
    clear hv
    go_wp2_with fail
    go_ret
    exact ⟨rfl, Below.refl _ _⟩
  | true =>
    have hv2 : Utf8.valid (c : Nat) = true := by simp [Lib.validRune] at hv; simp [Utf8.valid]; omega
    obtain ⟨f1, f2, f3⟩ := encode_facts (c : Nat) hv2 (by omega)
    have hcv := run_convert_int_string (P := Tryz.prog) w1 21 9 .i32 (c : Nat) (by rw [Tryz.underlying21]; rfl) Tryz.underlying9
    obtain ⟨E, hE⟩ : ∃ E, Utf8.encode (c : Nat) = E := ⟨_, rfl⟩
    rw [hE] at f1 f2 f3 hcv
    have f4 := f3 (by omega)
    have e0 : (0 : Int) ≤ (E.size : Int) - 1 := by omega
    clear hv hv2 hE f3
    go_wp2_with fail
    refine wp_scope_straight ?_
    go_wp2_with fail
    go_loopg [9] 0 (fun gk iv wr => gk = 0 ∧ iv = .int .i64 ((E.size : Int) - 1) ∧ w1 = wr)
    case atStart => exact ⟨rfl, rfl, rfl⟩
    case round =>
    obtain ⟨_, rfl, rfl⟩ := hrel
    by_cases hs2 : E.size = 2
    · have j1 : (1 : Int) < (E.size : Int) := by omega
      have j3 : 1 < E.size := by omega
      have hsz : ((E.size : Nat) : Int) - 1 = 1 := by omega
      have f5 : 128 ≤ (E[1]'j3).toNat := by
        have h : E.size - 1 = 1 := by omega
        simp only [h] at f4
        exact f4
      have q : (((((⟨#[32, 9]⟩ : ByteArray)[1]'(by decide)).toNat : Nat) : Int) != (((E[1]'j3).toNat : Nat) : Int)) = true := by
        show ((9 : Int) != (((E[1]'j3).toNat : Nat) : Int)) = true
        rw [bne_iff_ne]; omega
      have K : ∀ w' : World, Calls Tryz.prog 92 #[.string ByteArray.empty, .int .u8 (((E[1]'j3).toNat : Nat) : Int)] w' fun e w2 => e = .returned (.int .i64 (-1)) ∧ w2 = w' := fun w' => (Tryz.strings_IndexByte ByteArray.empty (((E[1]'j3).toNat : Nat) : Int) w')
      have HK := hide K
      have hw2 : IntKind.i64.wrap 2 = 2 := by decide
      rw [hsz]
      clear K hsz f1 f2 f4 f5 e0 hcv hs2
      go_wp2_with fail
      refine wp_scope_straight ?_
      go_wp2_with fail
      go_quiet (fail)
      go_wp2_with fail
      go_quiet ((go_at_call 92; exact ((unhide HK) _).mono (fun e w'' h => ⟨h.1, ⟨_, h.2⟩⟩)))
      go_wp2_with fail
      simp only [Exit.noGoto, Exit.inBlock, Exit.then]
      go_ret
      exact ⟨rfl, below_drewN' (Below.refl _ _) _⟩
    · have j1 : ¬ (E.size : Int) - 1 < ((2 : Nat) : Int) := by omega
      have j2 : ¬ (E.size : Int) - 1 < 2 := by omega
      go_wp2_with fail
      go_ret
      exact ⟨rfl, Below.refl _ _⟩
end Go.Proofs.YtfegfmapdekkbaaGreatDoor
namespace Go.Proofs.YtfegfmapdekkbaaGreatDoor
set_option linter.unusedVariables false
set_option linter.unusedSimpArgs false
open Go.RowKit

set_option maxRecDepth 100000 in
set_option maxHeartbeats 4000000 in
theorem irune_err (w : World) : Calls Tryz.prog 72 #[.string ⟨#[32, 9]⟩, .int .i32 65533] w fun e w' => e = .returned (.int .i64 (-1)) ∧ Below w.heap.size w w' := by
  obtain ⟨B, hB⟩ : ∃ B : ByteArray, (⟨#[32, 9]⟩ : ByteArray) = B := ⟨_, rfl⟩
  have hbs : B.size = 2 := by rw [← hB]; rfl
  have hba : ∀ (j : Nat) (h : j < B.size), (B[j]'h).toNat < 128 := by
    subst hB
    intro j h
    have : j < 2 := h
    match j, this with
    | 0, _ => show (32 : UInt8).toNat < 128; decide
    | 1, _ => show (9 : UInt8).toNat < 128; decide
  rw [hB]
  clear hB
  have HBA := hide hba
  clear hba
  go_enter Tryz.func72, Tryz.ntmps72
  go_wp2_with fail
  go_loopg [5, 6] 2 (fun g _ _ wx => ∃ i : Nat, i + g = 2 ∧ wx = w.iter B i)
  case atStart => exact ⟨0, by omega, rfl⟩
  case round =>
    obtain ⟨i, hig, rfl⟩ := hrel
    cases gk with
    | zero =>
      obtain rfl : i = 2 := by omega
      have hnx := run_next_end (P := Tryz.prog) w B 2
      have hnl : ¬ 2 < B.size := by omega
      go_wp2_with fail
      go_ret
      exact ⟨rfl, (Below.refl _ _).alloc (Nat.le_refl _) _⟩
    | succ g =>
      have hi : i < B.size := by omega
      have hx128 := unhide HBA i hi
      have hnx := fun ty => run_next_ascii (P := Tryz.prog) w B i ty hi hx128
      have hne : ((((B[i]'hi).toNat : Nat) : Int) == 65533) = false := by rw [beq_eq_false_iff_ne]; omega
      go_wp2_with fail
      go_roundg g
      case measure => omega
      case rel => exact ⟨i + 1, by omega, rfl⟩

theorem irune_past (c : Nat) (w : World) (h1 : 128 ≤ c) (h2 : c ≤ 1114111) : Calls Tryz.prog 72 #[.string ⟨#[32, 9]⟩, .int .i32 (c : Nat)] w fun e w' => e = .returned (.int .i64 (-1)) ∧ Below w.heap.size w w' := by
  by_cases e : c = 65533
  · subst e; exact irune_err w
  · exact irune_hi c w h1 h2 e

end Go.Proofs.YtfegfmapdekkbaaGreatDoor
namespace Go.Proofs.YtfegfmapdekkbaaGreatDoor
set_option linter.unusedVariables false
set_option linter.unusedSimpArgs false
open Go.RowKit Go.Lib

/-- What a rune past ASCII covers: bytes past ASCII. -/
theorem high_cover (s : ByteArray) (pos : Nat) (h : pos < s.size) (ha : ¬ s[pos].toNat < 128) :
    ∃ c d, Utf8.decode s pos = (c, d) ∧ 1 ≤ d ∧ pos + d ≤ s.size ∧ 128 ≤ c ∧ c ≤ 1114111 ∧ ∀ j, pos ≤ j → j < pos + d → ∃ hj : j < s.size, 128 ≤ s[j].toNat := by
  have e0 : s.get! (pos + 0) = s[pos] := Pth.get_at s pos 0 (by simpa using h)
  have key : ∃ c d, Utf8.decode s pos = (c, d) ∧ 1 ≤ d ∧ pos + d ≤ s.size ∧ 128 ≤ c ∧ c ≤ 1114111 ∧ ∀ k, 1 ≤ k → k < d → pos + k < s.size ∧ (s.get! (pos + k)).toNat / 64 = 2 := by
    simp only [Utf8.decode, e0, ha, if_false]
    repeat' split
    all_goals (refine ⟨_, _, rfl, by omega, ?_, ?_, ?_, ?_⟩)
    all_goals simp only [Utf8.valid, Bool.and_eq_true, Bool.or_eq_true, Bool.not_eq_true', decide_eq_true_eq, beq_iff_eq] at *
    all_goals first
      | omega
      | (simp [Utf8.runeError]; done)
      | (intro k h1 h2; omega)
      | (intro k h1 h2
         have hk : k = 1 ∨ k = 2 ∨ k = 3 := by omega
         rcases hk with rfl | rfl | rfl <;> first | (exfalso; omega) | (refine ⟨?_, ?_⟩ <;> omega))
  obtain ⟨c, d, hd, h1, h2, h3, h3', h4⟩ := key
  refine ⟨c, d, hd, h1, h2, h3, h3', fun j hj1 hj2 => ?_⟩
  rcases Nat.eq_or_lt_of_le hj1 with rfl | hlt
  · exact ⟨h, by omega⟩
  · obtain ⟨k, rfl⟩ : ∃ k, j = pos + k := ⟨j - pos, by omega⟩
    obtain ⟨hs, hh⟩ := h4 k (by omega) (by simpa using hj2)
    refine ⟨hs, ?_⟩
    rw [Pth.get_at s pos k hs] at hh
    omega

theorem noAny_skips {s chars : List UInt8} {i : Nat} (d : Nat) (h : Lib.NoAny s chars i) (hd : ∀ (j : Nat) b, i ≤ j → j < i + d → s[j]? = some b → chars.contains b = false) : Lib.NoAny s chars (i + d) :=
  fun j b hj hb => if hji : j < i then h j b hji hb else hd j b (by omega) hj hb

set_option maxRecDepth 100000 in
set_option maxHeartbeats 8000000 in
/-- s of at most 8 bytes, whatever they are. -/
theorem iany_short (s : ByteArray) (w : World) (h8 : s.size ≤ 8) : Calls Tryz.prog 45 #[.string s, .string ⟨#[32, 9]⟩] w fun e w' => e = .returned (.int .i64 (Lib.indexAny s.data.toList [32, 9])) ∧ Below w.heap.size w w' := by
  have K1 := hide (fun (c : Nat) (h : c < 128) (w : World) => Tryz.strings_IndexRune_ascii ⟨#[32, 9]⟩ (c : Nat) w (by omega) (by omega))
  have K2 := hide irune_past
  have K3 := hide (fun (n : Int) (w : World) => Tryz.strings_shouldUseASCIISet n w)
  have hemp : (⟨#[32, 9]⟩ : ByteArray).toList.isEmpty = false := by decide +kernel
  have h8z : decide ((8 : Int) < (s.size : Int)) = false := decide_eq_false (by omega)
  go_enter Tryz.func45, Tryz.ntmps45
  go_wp2_with (go_at_call 73; refine ((unhide K3) _ _).mono ?_; rintro e w' ⟨rfl, hw⟩; rw [hw, h8z])
  go_loopg [9, 10] s.size (fun g _ _ wr => ∃ i : Nat, i + g = s.size ∧ wr.heap[w.heap.size]? = some (.stringIter s i) ∧ Lib.NoAny s.data.toList [32, 9] i ∧ Below w.heap.size w wr)
  case atStart => exact ⟨0, by omega, World.iter_heap _ _ _, Lib.NoAny.zero _ _, (Below.refl _ _).alloc (Nat.le_refl _) _⟩
  case round =>
    obtain ⟨i, hig, hit, hno, hb⟩ := hrel
    have HN := hide hno
    clear hno
    cases gk with
    | zero =>
      obtain rfl : i = s.size := by omega
      have hnx := fun ty => run_next_end_at (P := Tryz.prog) wr w.heap.size s s.size ty hit (Nat.lt_irrefl _)
      go_wp2_with fail
      go_ret
      exact ⟨by rw [Lib.indexAny_none (by rw [← Lib.size_eq]; exact unhide HN)]; rfl, hb⟩
    | succ g =>
      have hi : i < s.size := by omega
      have hnx := fun ty => run_next_any_at (P := Tryz.prog) wr w.heap.size s i ty hit hi
      by_cases hx128 : (s[i]'hi).toNat < 128
      · obtain ⟨x, hx⟩ : ∃ x : UInt8, s[i]'hi = x := ⟨_, rfl⟩
        have hd := decode_ascii s i hi hx128
        have hxl : s.data.toList[i]? = some x := by rw [← hx]; exact Lib.data_getElem? s i hi
        rw [hx] at hx128 hd
        rw [hd] at hnx
        have hit1 := iterAt_heap wr w.heap.size s i (i + 1) hit
        have hb1 : Below w.heap.size w (wr.iterAt w.heap.size s (i + 1)) := below_iterAt hb (Nat.le_refl _) s _
        have HI1 := hide hit1
        have HB1 := hide hb1
        have Hx := hide hxl
        have K11 := hide (fun w => unhide K1 x.toNat hx128 w)
        have hcon := Lib.contains_iff_indexByte [32, 9] x
        have hback : ((x.toNat : Int)).toNat.toUInt8 = x := by simp
        clear hxl hx hd hit1 hb1 hit hb
        cases hin : ([32, 9] : List UInt8).contains x
        · rw [hin] at hcon
          have hlt : ¬ ((0 : Int) ≤ Lib.indexByte [32, 9] x) := of_decide_eq_false hcon.symm
          clear hcon
          go_wp2_with (go_at_call 72; refine ((unhide K11) _).mono ?_; rintro e w' ⟨rfl, hw⟩; rw [hw, hback])
          go_roundg g
          case measure => omega
          case rel => exact ⟨i + 1, by omega, unhide HI1, (unhide HN).succ (unhide Hx) hin, unhide HB1⟩
        · rw [hin] at hcon
          have hge : (0 : Int) ≤ Lib.indexByte [32, 9] x := of_decide_eq_true hcon.symm
          clear hcon
          go_wp2_with (go_at_call 72; refine ((unhide K11) _).mono ?_; rintro e w' ⟨rfl, hw⟩; rw [hw, hback])
          go_ret
          exact ⟨by rw [Lib.indexAny_hit (unhide HN) (unhide Hx) hin]; rfl, unhide HB1⟩
      · obtain ⟨c, d, hd, h1, h2, h3, h4, h5⟩ := high_cover s i hi hx128
        rw [hd] at hnx
        have hit1 := iterAt_heap wr w.heap.size s i (i + d) hit
        have hb1 : Below w.heap.size w (wr.iterAt w.heap.size s (i + d)) := below_iterAt hb (Nat.le_refl _) s _
        have hn1 : Lib.NoAny s.data.toList [32, 9] (i + d) := noAny_skips d (unhide HN) (fun j b hj1 hj2 hjb => by
          obtain ⟨hj, hjj⟩ := h5 j hj1 hj2
          rw [Lib.data_getElem? s j hj] at hjb
          obtain rfl := Option.some.inj hjb
          apply Bool.eq_false_iff.2
          intro hc
          rcases List.mem_cons.1 (List.contains_iff_mem.1 hc) with e | e
          · rw [e] at hjj; exact absurd hjj (by decide)
          · rw [List.mem_singleton.1 e] at hjj; exact absurd hjj (by decide))
        have HI1 := hide hit1
        have HB1 := hide hb1
        have HN1 := hide hn1
        have hlt2 : w.heap.size < (wr.iterAt w.heap.size s (i + d)).heap.size := (Array.getElem?_eq_some_iff.1 hit1).1
        have K22 := hide (fun w => unhide K2 c w h3 h4)
        clear hb hit1 hb1 hn1 hd h5 hit h3 h4 hx128
        go_wp2_with (go_at_call 72; refine ((unhide K22) _).mono ?_; rintro e w' ⟨rfl, hw⟩)
        go_roundg (s.size - (i + d))
        case measure => omega
        case rel => exact ⟨i + d, by omega, (hw.block _ hlt2).trans (unhide HI1), unhide HN1, (unhide HB1).trans (hw.mono (by omega))⟩

/-- IndexAny of the two blanks, whatever the bytes are. -/
theorem iany_any (s : ByteArray) (w : World) (hs : s.size < 4294967281) : Calls Tryz.prog 45 #[.string s, .string ⟨#[32, 9]⟩] w fun e w' => e = .returned (.int .i64 (Lib.indexAny s.data.toList [32, 9])) ∧ Below w.heap.size w w' := by
  by_cases h8 : s.size ≤ 8
  · exact iany_short s w h8
  · have ha : ∀ (j : Nat) (b : UInt8), (⟨#[32, 9]⟩ : ByteArray).data.toList[j]? = some b → b.toNat < 128 := by
      intro j b h
      match j, h with
      | 0, h => simp at h; subst h; decide
      | 1, h => simp at h; subst h; decide
      | j + 2, h => simp at h
    have h116 : (Tryz.prog.info? (Tryz.lays153_ren.t 116)).map (fun i => (i.zero, i.size)) = some (some (.agg (Array.replicate 256 (.bool false))), 256) := by kernel_rfl
    exact (Any.strings_IndexAny_long Tryz.lays153 (zero_of_info h116).1 (zero_of_info h116).2 s ⟨#[32, 9]⟩ w (by decide) (by omega) hs (by decide) ha).mono fun e w' h => ⟨h.1, by
      rw [h.2]
      exact ((Below.refl _ _).alloc (Nat.le_refl _) _).alloc (by rw [show ∀ o, (w.alloc o).heap.size = w.heap.size + 1 from fun o => by simp only [World.alloc, Array.size_push]]; omega) _⟩
end Go.Proofs.YtfegfmapdekkbaaGreatDoor
namespace Go.Proofs.YtfegfmapdekkbaaGreatDoor
set_option linter.unusedVariables false
set_option linter.unusedSimpArgs false
open Go.RowKit

def tailA (A : Option Addr) (c : Nat) : Option Addr := if c = 1 then A else A.map (·.add 1)
theorem run_tail {P : Program} {t e : TypeId} (ht : P.underlying t = some (.slice e)) (he : (P.info? e).map (·.size) = some 1) (A : Option Addr) (n c : Nat) (w : World) :
    (Instr.slice t (.slice A (n + 1) c) (some (.int .i64 1)) none none).run P w = .ok (.slice (tailA A c) n (c - 1)) w := by
  have hel : P.elem t = e := by simp [Program.elem, ht]
  have hs : (sizeOf e).run P w = .ok 1 w := by
    cases hi : P.info? e with
    | none => simp [hi] at he
    | some i => simp [hi] at he; simp [sizeOf, typeInfo, hi, he]
  rw [run_slice_l w t A (n + 1) c (by rw [hel]; exact ht) .i64 1 (by omega) (by omega), hel, hs]
  simp only [Result.andThen_ok]
  unfold sliced tailA
  have e1 : (1 : Int).toNat = 1 := rfl
  rw [e1]
  simp
theorem Rd.tail {w : World} {B n c : Nat} {A : Option Addr} {x : Value} {xs : List Value} (h : Rd w B 1 A (n + 1) (x :: xs)) (hc : n + 1 ≤ c) : Rd w B 1 (tailA A c) n xs := by
  have hl := h.1
  simp only [List.length_cons] at hl
  refine ⟨by omega, ?_⟩
  by_cases h0 : xs = []
  · exact .inl h0
  · obtain ⟨b, off, rfl, hb, hcl⟩ := h.open_ (by simp)
    have h1 : 0 < xs.length := List.length_pos_iff.2 h0
    refine .inr ⟨b, off + 1, ?_, hb, fun j u hu => ?_⟩
    · unfold tailA
      rw [if_neg (by omega)]
      rfl
    · have := hcl (j + 1) u (by simpa using hu)
      rwa [show off + 1 + j = off + (j + 1) by omega]
theorem size_one {P : Program} {e : TypeId} (he : (P.info? e).map (·.size) = some 1) (w : World) : (sizeOf e).run P w = .ok 1 w := by
  cases hi : P.info? e with
  | none => simp [hi] at he
  | some i => simp [hi] at he; simp [sizeOf, typeInfo, hi, he]
/-- s[k:] and s[:k] of elements of one cell. -/
def fromA (A : Option Addr) (c k : Nat) : Option Addr := if c = k then A else A.map (·.add k)
theorem run_from {P : Program} {t e : TypeId} (ht : P.underlying t = some (.slice e)) (he : (P.info? e).map (·.size) = some 1) (A : Option Addr) (n c k : Nat) (hk : k ≤ n) (w : World) :
    (Instr.slice t (.slice A n c) (some (.int .i64 (k : Nat))) none none).run P w = .ok (.slice (fromA A c k) (n - k) (c - k)) w := by
  have hel : P.elem t = e := by simp [Program.elem, ht]
  rw [run_slice_l w t A n c (by rw [hel]; exact ht) .i64 (k : Nat) (by omega) (by omega), hel, size_one he]
  simp only [Result.andThen_ok, Int.toNat_natCast]
  unfold sliced fromA
  simp
theorem run_to {P : Program} {t e : TypeId} (ht : P.underlying t = some (.slice e)) (he : (P.info? e).map (·.size) = some 1) (A : Option Addr) (n c k : Nat) (hk : k ≤ c) (w : World) :
    (Instr.slice t (.slice A n c) none (some (.int .i64 (k : Nat))) none).run P w = .ok (.slice A k c) w := by
  have hel : P.elem t = e := by simp [Program.elem, ht]
  rw [run_slice_h w t A n c (by rw [hel]; exact ht) .i64 (k : Nat) (by omega) (by omega), hel, size_one he]
  simp only [Result.andThen_ok, Int.toNat_natCast]
  unfold sliced
  have h0 : ∀ A : Option Addr, A.map (·.add (0 * 1)) = A := by
    intro A
    cases A with
    | none => rfl
    | some a => cases a; rfl
  rw [h0]
  simp
theorem Rd.from_ {w : World} {B n c k : Nat} {A : Option Addr} {xs : List Value} (h : Rd w B 1 A n xs) (hk : k ≤ n) (hc : n ≤ c) : Rd w B 1 (fromA A c k) (n - k) (xs.drop k) := by
  have hl := h.1
  refine ⟨by rw [List.length_drop]; omega, ?_⟩
  by_cases h0 : xs.drop k = []
  · exact .inl h0
  · have h1 : 0 < (xs.drop k).length := List.length_pos_iff.2 h0
    rw [List.length_drop] at h1
    obtain ⟨b, off, rfl, hb, hcl⟩ := h.open_ (by rintro rfl; simp at h1)
    refine .inr ⟨b, off + k, ?_, hb, fun j u hu => ?_⟩
    · unfold fromA
      rw [if_neg (by omega), Option.map_some, Addr.add_lit]
    · rw [List.getElem?_drop] at hu
      have := hcl (k + j) u hu
      rwa [show off + k + j = off + (k + j) by omega]
theorem Rd.to_ {w : World} {B n k : Nat} {A : Option Addr} {xs : List Value} (h : Rd w B 1 A n xs) (hk : k ≤ n) : Rd w B 1 A k (xs.take k) := by
  have hl := h.1
  refine ⟨by rw [List.length_take]; omega, ?_⟩
  rcases h.2 with h0 | ⟨b, off, e, hb, hc⟩
  · exact .inl (by rw [h0]; simp)
  · refine .inr ⟨b, off, e, hb, fun j u hu => hc j u ?_⟩
    rw [List.getElem?_take] at hu
    split at hu
    · exact hu
    · cases hu
end Go.Proofs.YtfegfmapdekkbaaGreatDoor
namespace Go.Proofs.YtfegfmapdekkbaaGreatDoor
set_option linter.unusedVariables false
set_option linter.unusedSimpArgs false
open Go.RowKit

theorem sb_ints (b : List UInt8) : Lib.bytesOf (b.map fun c => ((c.toNat : Nat) : Int)) = b := by
  unfold Lib.bytesOf
  rw [List.map_map]
  have : ((fun n : Int => UInt8.ofNat n.toNat) ∘ fun c : UInt8 => ((c.toNat : Nat) : Int)) = id := by
    funext c
    simp
  rw [this, List.map_id]
theorem sb_in {w : World} {B n : Nat} {A : Option Addr} {b : List UInt8} (h : Rd w B 1 A n (bys b)) : Lib.BytesIn w A n (b.map fun c => ((c.toNat : Nat) : Int)) := by
  intro hn
  have hl : b.length = n := by simpa [bys] using h.len1
  obtain ⟨b1, o1, e, _, hc⟩ := h.open_ (by intro e; unfold bys at e; rw [List.map_eq_nil_iff] at e; subst e; simp at hl; omega)
  refine ⟨b1, o1, e, fun i hi => hc i _ ?_⟩
  have hi' : i < b.length := by omega
  simp [bys, List.getElem?_eq_getElem hi', List.getD_eq_getElem?_getD]

theorem cutp_no (A : Option Addr) (m c B p2 d : Nat) (b : List UInt8) (w : World) (hb : Rd w B 1 A m (bys b)) (hmc : m ≤ c) (hp : Rd w (p2 + 1) 1 (some ⟨p2, 0, none⟩) 2 (bys [35, 33])) (h : Lib.hasPrefix b [35, 33] = false) :
    Calls Tryz.prog 42 #[.slice A m c, .slice (some ⟨p2, 0, none⟩) 2 d] w fun e w' => (∃ v, e = .returned (.tuple #[v, .bool false])) ∧ w = w' := by
  have hl : b.length = m := by simpa [bys] using hb.len1
  refine (Tryz.bytes_CutPrefix_all A (some ⟨p2, 0, none⟩) m c 2 d _ _ w (by simpa using hl) rfl hmc (sb_in hb) (sb_in hp)).mono ?_
  rintro e w' ⟨rfl, hw⟩
  rw [sb_ints, sb_ints, h]
  exact ⟨⟨_, rfl⟩, hw.symm⟩
theorem cutp_yes (b1 o1 m c B p2 d : Nat) (r : List UInt8) (w : World) (hb : Rd w B 1 (some ⟨b1, o1, none⟩) m (bys (35 :: 33 :: r))) (hmc : m ≤ c) (hp : Rd w (p2 + 1) 1 (some ⟨p2, 0, none⟩) 2 (bys [35, 33])) :
    Calls Tryz.prog 42 #[.slice (some ⟨b1, o1, none⟩) m c, .slice (some ⟨p2, 0, none⟩) 2 d] w fun e w' => (∃ o', e = .returned (.tuple #[.slice (some ⟨b1, o', none⟩) (m - 2) (c - 2), .bool true]) ∧ Rd w B 1 (some ⟨b1, o', none⟩) (m - 2) (bys r)) ∧ w = w' := by
  have hl : (35 :: 33 :: r : List UInt8).length = m := by simpa [bys] using hb.len1
  have hm2 : 2 ≤ m := by simp at hl; omega
  refine (Tryz.bytes_CutPrefix_all (some ⟨b1, o1, none⟩) (some ⟨p2, 0, none⟩) m c 2 d _ _ w (by simpa using hl) rfl hmc (sb_in hb) (sb_in hp)).mono ?_
  rintro e w' ⟨rfl, hw⟩
  have hr := hb.from_ (k := 2) hm2 hmc
  have hd : (bys (35 :: 33 :: r)).drop 2 = bys r := rfl
  rw [hd] at hr
  rw [sb_ints, sb_ints]
  have hpt : Lib.hasPrefix (35 :: 33 :: r) [35, 33] = true := by simp [Lib.hasPrefix, List.isPrefixOf]
  have hv : Lib.trimPrefixV (some ⟨b1, o1, none⟩) m c ((35 :: 33 :: r : List UInt8).map fun c => ((c.toNat : Nat) : Int)) (([35, 33] : List UInt8).map fun c => ((c.toNat : Nat) : Int)) = .slice (fromA (some ⟨b1, o1, none⟩) c 2) (m - 2) (c - 2) := by
    show Lib.bytesTrimPrefix b1 o1 m c _ (([35, 33] : List UInt8).map fun c => ((c.toNat : Nat) : Int)) = _
    unfold Lib.bytesTrimPrefix
    rw [sb_ints, sb_ints, hpt, if_pos rfl]
    show Lib.sliceFrom b1 o1 m c 2 = _
    unfold Lib.sliceFrom fromA
    split <;> rfl
  rw [hv, hpt]
  obtain ⟨o', ho'⟩ : ∃ o', fromA (some ⟨b1, o1, none⟩) c 2 = some ⟨b1, o', none⟩ := by
    unfold fromA
    split
    · exact ⟨o1, rfl⟩
    · exact ⟨o1 + 2, rfl⟩
  rw [ho'] at hr ⊢
  exact ⟨⟨o', rfl, hr⟩, hw.symm⟩
theorem cut10_any (b1 o1 n c d p2 B : Nat) (l : List UInt8) (w : World) (hr : Rd w B 1 (some ⟨b1, o1, none⟩) n (bys l)) (hz : w.cell? ⟨p2, 0, none⟩ = some (.int .u8 10)) (hnc : n ≤ c) (hn : n ≤ 4294967296) :
    Calls Tryz.prog 43 #[.slice (some ⟨b1, o1, none⟩) n c, .slice (some ⟨p2, 0, none⟩) 1 d] w fun e w' => (∃ x y, e = .returned (.tuple #[.slice (some ⟨b1, o1, none⟩) (Sb.line l).length c, x, y])) ∧ ∃ q, w' = w.drewN q := by
  have hl : l.length = n := by simpa [bys] using hr.len1
  have hi := Tryz.bytes_Index_one b1 o1 n c p2 0 d (l.map fun c => ((c.toNat : Nat) : Int)) 10 w (by simpa using hl) (fun i hi => by
    obtain ⟨b, o, e, _, hc⟩ := hr.at_ (k := i) (u := .int .u8 ((l[i]'(by omega)).toNat : Nat)) (bys_at (List.getElem?_eq_getElem (by omega)))
    injection e with e
    injection e with e1 e2
    subst e1 e2
    rw [hc]
    simp [List.getD_eq_getElem?_getD, List.getElem?_eq_getElem (show i < l.length by omega)]) hz
  rw [sb_ints] at hi
  have h0 : (10 : Int).toNat.toUInt8 = 10 := rfl
  rw [h0] at hi
  refine (Tryz.bytes_Cut_of (some ⟨b1, o1, none⟩) (some ⟨p2, 0, none⟩) n c 1 d (Lib.indexByte l 10) w hnc (Lib.indexByte_ge l 10) (fun h => ?_) (by omega) (hi.mono fun e w' ⟨a, b⟩ => ⟨a, 0, by rw [b]; rfl⟩)).mono ?_
  · obtain ⟨k, hk⟩ := Int.eq_ofNat_of_zero_le h
    have := (List.getElem?_eq_some_iff.1 (Lib.indexByte_some hk).1).1
    omega
  · rintro e w' ⟨rfl, hw⟩
    refine ⟨?_, hw⟩
    unfold Lib.cutV
    have hge := Lib.indexByte_ge l 10
    by_cases h : 0 ≤ Lib.indexByte l 10
    · rw [if_pos h]
      obtain ⟨k, hk⟩ := Int.eq_ofNat_of_zero_le h
      obtain ⟨h1, h2⟩ := Lib.indexByte_some hk
      have hk2 : (Sb.line l).length = k := by
        unfold Sb.line
        clear hk h hge hi hr hl
        induction l generalizing k with
        | nil => simp at h1
        | cons x r ih =>
          cases k with
          | zero =>
            obtain rfl : x = 10 := by simpa using h1
            rw [List.takeWhile_cons_of_neg (by decide)]; rfl
          | succ k =>
            have hx : x ≠ 10 := by have := h2 0 (by omega); simpa using this
            rw [List.takeWhile_cons_of_pos (by unfold Sb.nl; simpa using hx), List.length_cons, ih k (by simpa using h1) (fun j hj => by have := h2 (j + 1) (by omega); simpa using this)]
      rw [hk, hk2]
      exact ⟨_, _, rfl⟩
    · rw [if_neg h]
      have hn1 : Lib.indexByte l 10 = -1 := by omega
      have h2 := Lib.indexByte_none hn1
      have hk2 : Sb.line l = l := by
        unfold Sb.line
        clear hn1 h hge hi hr hl hw
        induction l with
        | nil => rfl
        | cons x r ih =>
          have hx : x ≠ 10 := by have := h2 0; simpa using this
          rw [List.takeWhile_cons_of_pos (by unfold Sb.nl; simpa using hx), ih (fun k => by have := h2 (k + 1); simpa using this)]
      rw [hk2, hl]
      exact ⟨_, _, rfl⟩
end Go.Proofs.YtfegfmapdekkbaaGreatDoor
namespace Go.Proofs.YtfegfmapdekkbaaGreatDoor
set_option linter.unusedVariables false
set_option linter.unusedSimpArgs false
open Go.RowKit

theorem trim2_any (s : ByteArray) (w : World) (hs : s.size ≤ 9223372036854775807) : Calls Tryz.prog 44 #[.string s, .string ⟨#[32, 9]⟩] w fun e w' => e = .returned (.string (Sb.ba (Sb.trim s.data.toList))) ∧ Below w.heap.size w w' := by
  have ha : ∀ (j : Nat) (b : UInt8), (⟨#[32, 9]⟩ : ByteArray).data.toList[j]? = some b → b.toNat < 128 := by
    intro j b h
    match j, h with
    | 0, h => simp at h; subst h; decide
    | 1, h => simp at h; subst h; decide
    | j + 2, h => simp at h
  exact Any.strings_Trim_laid Tryz.lays160 (by kernel_rfl) s ⟨#[32, 9]⟩ w hs (by decide) ha

theorem iany_neg {t : List UInt8} (h : ¬ (0 : Int) ≤ Lib.indexAny t [32, 9]) : t.any Sb.isBl = false := by
  induction t with
  | nil => rfl
  | cons x r ih =>
    unfold Lib.indexAny at h
    have hx : ([32, 9] : List UInt8).contains x = false := by
      cases hc : ([32, 9] : List UInt8).contains x with
      | false => rfl
      | true => rw [if_pos hc] at h; exact absurd (by decide) h
    rw [if_neg (by rw [hx]; decide)] at h
    have hge := Lib.indexAny_ge [32, 9] r
    rw [List.any_cons, Bool.or_eq_false_iff]
    refine ⟨hx, ih (fun h2 => h ?_)⟩
    rw [if_neg (by simp; omega)]
    omega
theorem iany_pos {t : List UInt8} {k : Nat} (h : Lib.indexAny t [32, 9] = (k : Int)) : ∃ c, t[k]? = some c ∧ Sb.isBl c = true ∧ (t.take k).any Sb.isBl = false := by
  induction t generalizing k with
  | nil => unfold Lib.indexAny at h; omega
  | cons x r ih =>
    unfold Lib.indexAny at h
    cases hc : ([32, 9] : List UInt8).contains x with
    | true =>
      rw [if_pos hc] at h
      obtain rfl : k = 0 := by omega
      exact ⟨x, rfl, hc, rfl⟩
    | false =>
      rw [if_neg (by rw [hc]; decide)] at h
      have hge := Lib.indexAny_ge [32, 9] r
      by_cases h1 : Lib.indexAny r [32, 9] = -1
      · rw [if_pos (by simp [h1])] at h; omega
      · rw [if_neg (by simpa using h1)] at h
        obtain ⟨j, rfl⟩ : ∃ j, k = j + 1 := ⟨k - 1, by omega⟩
        obtain ⟨c, h2, h3, h4⟩ := ih (k := j) (by omega)
        exact ⟨c, by simpa using h2, h3, by rw [List.take_succ_cons, List.any_cons, Bool.or_eq_false_iff]; exact ⟨hc, h4⟩⟩

set_option maxRecDepth 100000 in
set_option maxHeartbeats 4000000 in
theorem parse_no (A : Option Addr) (m c B : Nat) (b : List UInt8) (w : World) (hb : Rd w B 1 A m (bys b)) (hB : B ≤ w.heap.size) (hm : m ≤ 4294967296) (hmc : m ≤ c) (h : Lib.hasPrefix b [35, 33] = false) :
    Calls Tryz.prog 21 #[.slice A m c] w (ParseE (Sb.parse b) w) := by
  have hp : Sb.parse b = ([], [], false, 0) := by unfold Sb.parse; rw [h]; rfl
  rw [hp]
  unfold ParseE
  have K := hide (fun w1 p2 d (h1 : Rd w1 B 1 A m (bys b)) (h2 : Rd w1 (p2 + 1) 1 (some ⟨p2, 0, none⟩) 2 (bys [35, 33])) => cutp_no A m c B p2 d b w1 h1 hmc h2 h)
  have kc := fun (w : World) (C : Array Value) (n c : Nat) => Lib.run_convert_bytes_const (P := Tryz.prog) w 49 5 C n c Tryz.underlying49 Tryz.underlying5
  have Hb := hide hb
  clear h hp hb
  go_enter Tryz.func21, Tryz.ntmps21
  go_wp2_with fail
  obtain ⟨W, hW⟩ : ∃ W, w.alloc (.cells #[.int .u8 35, .int .u8 33] 5 (2, 3)) = W := ⟨_, rfl⟩
  have hb1 : Rd W B 1 A m (bys b) := by rw [← hW]; exact (unhide Hb).alloc hB _
  have hp1 : Rd W (w.heap.size + 1) 1 (some ⟨w.heap.size, 0, none⟩) 2 (bys [35, 33]) := by rw [← hW]; exact Rd.rowF (n := 2) rfl
  have hbel : Below w.heap.size w W := by rw [← hW]; exact (Below.refl _ _).alloc (Nat.le_refl _) _
  refine ((unhide K) _ w.heap.size 2 (by simpa using hW ▸ hb1) (by simpa using hW ▸ hp1)).mono ?_
  rintro e w1 ⟨⟨v, rfl⟩, hw1⟩
  subst hw1
  go_wp2_with fail
  refine bodyPost_ret (res_tmp4 rfl _ _ _) rfl ?_
  exact ⟨rfl, hbel⟩

set_option maxRecDepth 100000 in
set_option maxHeartbeats 4000000 in
theorem parse_yes (b1 o1 m c B : Nat) (r : List UInt8) (w : World) (hb : Rd w B 1 (some ⟨b1, o1, none⟩) m (bys (35 :: 33 :: r))) (hB : B ≤ w.heap.size) (hm : m ≤ 4294967296) (hmc : m ≤ c) :
    Calls Tryz.prog 21 #[.slice (some ⟨b1, o1, none⟩) m c] w (ParseE (Sb.ofLine (Sb.line r)) w) := by
  have hbl : (35 :: 33 :: r : List UInt8).length = m := by simpa [bys] using hb.len1
  have hrl : r.length + 2 = m := by simpa using hbl
  obtain ⟨l, hl⟩ : ∃ l, Sb.line r = l := ⟨_, rfl⟩
  have hll : l.length + 2 ≤ m := by rw [← hl]; have : (Sb.line r).length ≤ r.length := (List.takeWhile_prefix _).length_le; omega
  obtain ⟨p, hp⟩ : ∃ p, Sb.ofLine l = p := ⟨_, rfl⟩
  rw [hl, hp]
  have K := hide (fun w1 p2 d (h1 : Rd w1 B 1 (some ⟨b1, o1, none⟩) m (bys (35 :: 33 :: r))) (h2 : Rd w1 (p2 + 1) 1 (some ⟨p2, 0, none⟩) 2 (bys [35, 33])) => cutp_yes b1 o1 m c B p2 d r w1 h1 hmc h2)
  have kc := fun (w : World) (C : Array Value) (n c : Nat) => Lib.run_convert_bytes_const (P := Tryz.prog) w 49 5 C n c Tryz.underlying49 Tryz.underlying5
  have Hb := hide hb
  have Hl := hide hl
  have Hp := hide hp
  have Hm := hide (And.intro (And.intro hm hmc) (And.intro hrl hll))
  clear hb hl hp hbl hrl hm hmc hll
  go_enter Tryz.func21, Tryz.ntmps21
  go_wp2_with fail
  obtain ⟨W, hW⟩ : ∃ W, w.alloc (.cells #[.int .u8 35, .int .u8 33] 5 (2, 3)) = W := ⟨_, rfl⟩
  have hb1 : Rd W B 1 (some ⟨b1, o1, none⟩) m (bys (35 :: 33 :: r)) := by rw [← hW]; exact (unhide Hb).alloc hB _
  have hp1 : Rd W (w.heap.size + 1) 1 (some ⟨w.heap.size, 0, none⟩) 2 (bys [35, 33]) := by rw [← hW]; exact Rd.rowF (n := 2) rfl
  have hbel : Below w.heap.size w W := by rw [← hW]; exact (Below.refl _ _).alloc (Nat.le_refl _) _
  refine ((unhide K) _ w.heap.size 2 (by simpa using hW ▸ hb1) (by simpa using hW ▸ hp1)).mono ?_
  rintro e w1 ⟨⟨o', rfl, hr⟩, hw1⟩
  subst hw1
  rw [hW] at hr ⊢
  have Hr := hide hr
  clear hr hb1 hp1 hW K Hb
  go_wp2_with fail
  obtain ⟨W2, hW2⟩ : ∃ W2, W.alloc (.cells #[.int .u8 10] 5 (1, 2)) = W2 := ⟨_, rfl⟩
  have hBW : B ≤ W.heap.size := Nat.le_trans hB hbel.size
  have hr2 : Rd W2 B 1 (some ⟨b1, o', none⟩) (m - 2) (bys r) := by rw [← hW2]; exact (unhide Hr).alloc hBW _
  have hz : W2.cell? ⟨W.heap.size, 0, none⟩ = some (.int .u8 10) := by rw [← hW2]; exact World.cell?_alloc_mark W #[.int .u8 10] 5 (1, 2) 0
  have hbel2 : Below w.heap.size w W2 := by rw [← hW2]; exact hbel.alloc hbel.size _
  have K2 := cut10_any b1 o' (m - 2) (c - 2) 1 W.heap.size B r W2 hr2 hz (by have := unhide Hm; omega) (by have := unhide Hm; omega)
  rw [unhide Hl] at K2
  have Hr2 := hide hr2
  clear hr2 hz Hr
  refine (by simpa only [hW2] using K2 : Calls _ _ _ _ _).mono ?_
  rintro e w3 ⟨⟨x, y, rfl⟩, q, rfl⟩
  have hl2 : Rd (W2.drewN q) B 1 (some ⟨b1, o', none⟩) l.length (bys l) := by
    have h := ((unhide Hr2).to_ (k := l.length) (by have := unhide Hm; omega)).drewN q
    have h2 : (bys r).take l.length = bys l := by
      rw [← unhide Hl]
      unfold bys Sb.line
      rw [← List.map_take, ← List.prefix_iff_eq_take.1 (List.takeWhile_prefix _)]
    rw [h2] at h
    exact h
  have hcv := fun (c' : Nat) => conv_any (c := c') hl2 Tryz.underlying49 Tryz.underlying5 Tryz.underlying9
  go_wp2_with fail
  have hbel3 : Below w.heap.size w (W2.drewN q) := below_drewN' hbel2 q
  have hle : l.length ≤ 4294967296 := by have := unhide Hm; omega
  obtain ⟨W3, hW3⟩ : ∃ W3, W2.drewN q = W3 := ⟨_, rfl⟩
  rw [hW3] at hbel3 ⊢
  clear hcv hl2 hbel hbel2 hW2 hW3 K2 Hr2 Hl Hm
  refine (trim2_any ⟨l.toArray⟩ W3 (by simp [ByteArray.size]; omega)).mono ?_
  rintro e w4 ⟨rfl, hb4⟩
  have hbel4 : Below w.heap.size w w4 := hbel3.trans (hb4.mono hbel3.size)
  rw [show (⟨l.toArray⟩ : ByteArray).data.toList = l from by simp]
  obtain ⟨t, ht⟩ : ∃ t, Sb.trim l = t := ⟨_, rfl⟩
  rw [ht]
  have hofl : p = if 127 < l.length ∨ t = [] then ([], [], false, 13) else (t.takeWhile (!Sb.isBl ·), Sb.trim (t.dropWhile (!Sb.isBl ·)), true, 0) := by rw [← unhide Hp, Sb.ofLine, ht]
  have htl : t.length ≤ l.length := by
    rw [← ht, Sb.trim_eq]
    unfold Sb.rd
    rw [List.length_reverse]
    refine Nat.le_trans (List.dropWhile_suffix _).length_le ?_
    rw [List.length_reverse]
    exact (List.dropWhile_suffix _).length_le
  have HO := hide hofl
  have HT := hide htl
  have HB4 := hide hbel4
  clear hofl hbel4 hb4 hbel3 ht Hp htl
  by_cases hA : 127 < l.length
  · have hA1 : (127 : Int) < (l.length : Int) := by omega
    have hA2 : decide ((127 : Int) < (l.length : Int)) = true := decide_eq_true hA1
    obtain ⟨tE, htE⟩ : ∃ tE, (Sb.ba t).toList.isEmpty = tE := ⟨_, rfl⟩
    go_wp2_with fail
    refine bodyPost_ret (res_tmp4 rfl _ _ _) rfl ?_
    rw [unhide HO, if_pos (.inl hA)]
    exact ⟨rfl, unhide HB4⟩
  · have hA1 : ¬ (127 : Int) < (l.length : Int) := by omega
    have hA2 : decide ((127 : Int) < (l.length : Int)) = false := decide_eq_false hA1
    by_cases hT : t = []
    · subst hT
      have hemp : (Sb.ba []).toList.isEmpty = true := by decide +kernel
      go_wp2_with fail
      refine bodyPost_ret (res_tmp4 rfl _ _ _) rfl ?_
      rw [unhide HO, if_pos (by simp)]
      exact ⟨rfl, unhide HB4⟩
    · have hemp : (Sb.ba t).toList.isEmpty = false := by
        rw [Lib.toList_data]
        cases t with
        | nil => exact absurd rfl hT
        | cons a b => rfl
      go_wp2_with fail
      have HT2 := unhide HT
      have htd : (Sb.ba t).data.toList = t := by simp [Sb.ba]
      refine (iany_any (Sb.ba t) w4 (by rw [Lib.size_eq, htd]; omega)).mono ?_
      rintro e w5 ⟨rfl, hb5⟩
      rw [htd]
      by_cases hi : 0 ≤ Lib.indexAny t [32, 9]
      · obtain ⟨k, hk⟩ := Int.eq_ofNat_of_zero_le hi
        rw [hk]
        obtain ⟨c0, hk1, hk2, hk3⟩ := iany_pos hk
        obtain ⟨n1, n2⟩ := first_blank hk1 hk2 hk3
        have hkt : k < t.length := (List.getElem?_eq_some_iff.1 hk1).1
        have hsz : (Sb.ba t).size = t.length := by rw [Lib.size_eq, htd]
        have hkI : (k : Int) ≤ (t.length : Int) := by omega
        have hkN : k ≤ (Sb.ba t).size := by omega
        have hb45 := (unhide HB4).trans (hb5.mono (unhide HB4).size)
        have HH := hide (And.intro n1 (And.intro n2 hb45))
        have HTr := fun w => trim2_any ((Sb.ba t).extract k t.length) w (by simp only [ByteArray.size_extract]; omega)
        have HTR := hide HTr
        clear HTr n1 n2 hb45 hk1 hk2 hk3 hb5 HT2
        go_wp2_with fail
        go_region_held3 (fun w' => True) (first | exact trivial) (first | (go_at_call 44; refine ((unhide HTR) _).mono ?_; rintro e w6 ⟨rfl, hb6⟩))
        go_wp2_with fail
        refine bodyPost_ret (res_tmp4 rfl _ _ _) rfl ?_
        obtain ⟨n1, n2, hb45⟩ := unhide HH
        rw [unhide HO, if_neg (by rintro (h | h); exact hA h; exact hT h), n1, n2]
        have e1 : (Sb.ba t).extract 0 k = Sb.ba (t.take k) := by
          apply ByteArray.ext
          apply Array.ext'
          simp [Sb.ba]
        have e2 : List.take (t.length - k) (List.drop k t) = t.drop k := List.take_of_length_le (by simp)
        refine ⟨?_, hb45.trans ((show Below w5.heap.size w5 w6 from ⟨hb6.os, hb6.tape, hb6.output, hb6.size, hb6.block⟩).mono hb45.size)⟩
        rw [← e1]
        simp [e2]
      · have hi1 : ¬ (0 : Int) ≤ Lib.indexAny t [32, 9] := hi
        go_wp2_with fail
        refine bodyPost_ret (res_tmp4 rfl _ _ _) rfl ?_
        obtain ⟨n1, n2⟩ := no_blank (iany_neg (Int.not_le.2 hi))
        rw [unhide HO, if_neg (by rintro (h | h); exact hA h; exact hT h), n1, n2]
        exact ⟨rfl, (unhide HB4).trans (hb5.mono (unhide HB4).size)⟩

theorem parse_any (A : Option Addr) (m c B : Nat) (b : List UInt8) (w : World) (hb : Rd w B 1 A m (bys b)) (hB : B ≤ w.heap.size) (hm : m ≤ 4294967296) (hmc : m ≤ c) :
    Calls Tryz.prog 21 #[.slice A m c] w (ParseE (Sb.parse b) w) := by
  cases h : Lib.hasPrefix b [35, 33] with
  | false => exact parse_no A m c B b w hb hB hm hmc h
  | true =>
    have hb2 : ∃ r, b = 35 :: 33 :: r := by
      match b, h with
      | [], h => cases h
      | [x], h => simp [Lib.hasPrefix, List.isPrefixOf] at h
      | x :: y :: r, h =>
        simp [Lib.hasPrefix, List.isPrefixOf] at h
        exact ⟨r, by rw [← h.1, ← h.2]⟩
    obtain ⟨r, rfl⟩ := hb2
    have hp : Sb.parse (35 :: 33 :: r) = Sb.ofLine (Sb.line r) := by unfold Sb.parse; rw [h]; rfl
    rw [hp]
    obtain ⟨b1, o1, rfl, _, _⟩ := hb.at_ (k := 0) (u := .int .u8 35) rfl
    exact parse_yes b1 o1 m c B r w hb hB hm hmc
end Go.Proofs.YtfegfmapdekkbaaGreatDoor
namespace Go.Proofs.YtfegfmapdekkbaaGreatDoor
set_option linter.unusedVariables false
set_option linter.unusedSimpArgs false
open Go.RowKit

theorem byteInfo : (Tryz.prog.info? 5).map (fun i => (i.zero, i.size, i.bytes)) = some (some (.int .u8 0), 1, 1) := by kernel_rfl
theorem byteTy : SlTy Tryz.prog 49 5 1 1 := slTy_mk (z := .int .u8 0) Tryz.underlying49 byteInfo rfl (by omega) (by omega)
theorem bys_one (l : List UInt8) : ∀ u ∈ bys l, u.oneCell' = true := by
  intro u hu
  simp only [bys, List.mem_map] at hu
  obtain ⟨c, _, rfl⟩ := hu
  rfl
/-- From the value v to the value v', which owns the bytes xs: only v's own row, and what is new, has turned. -/
structure Grew (w w' : World) (base : Nat) (v v' : Value) (n : Nat) (xs : List UInt8) : Prop where
  own : w'.ownsRow base 5 1 v' n (bys xs)
  kept : w.grownBy w' v.ownBlock
  at_ : ∀ k, v'.ownBlock = some k → v.ownBlock = some k ∨ w.heap.size ≤ k
section
variable {a b c : World} {base : Nat} {u v x : Value} {n m : Nat} {xs ys : List UInt8}
theorem Grew.trans (h : Grew a b base u v n xs) (k : Grew b c base v x m ys) : Grew a c base u x m ys :=
  ⟨k.own, ⟨k.kept.os.trans h.kept.os, k.kept.tape.trans h.kept.tape, k.kept.output.trans h.kept.output, Nat.le_trans h.kept.size k.kept.size, fun i hi hr => (k.kept.block i (Nat.lt_of_lt_of_le hi h.kept.size) (fun e => by
    rcases h.at_ i e.symm with h1 | h1
    · exact hr h1.symm
    · omega)).trans (h.kept.block i hi hr)⟩, fun i hi => by
    rcases k.at_ i hi with h1 | h1
    · exact h.at_ i h1
    · exact .inr (Nat.le_trans h.kept.size h1)⟩
theorem grownBy_of_below {row : Option Nat} (h : Below a.heap.size a b) : a.grownBy b row := ⟨h.os, h.tape, h.output, h.size, fun k hk _ => h.block k hk⟩
/-- Ahead of it something may have been made. -/
theorem Grew.after (hb : Below a.heap.size a b) (h : Grew b c base u v n xs) : Grew a c base u v n xs :=
  ⟨h.own, grown_trans (grownBy_of_below hb) h.kept, fun k hk => (h.at_ k hk).imp id fun h1 => Nat.le_trans hb.size h1⟩
theorem Grew.then (h : Grew a b base u v n xs) (hb : Below b.heap.size b c) : Grew a c base u v n xs :=
  ⟨own_below h.own hb, grown_trans h.kept (grownBy_of_below hb), h.at_⟩
theorem Grew.below {B : Nat} (h : Grew a b base u v n xs) (hB : B ≤ a.heap.size) (hr : ∀ k, u.ownBlock = some k → B ≤ k) : Below B a b := (Below.refl B a).grown h.kept hB hr
theorem Grew.blk {g : Nat} (h : Grew a b base u v n xs) (hg : g < a.heap.size) (hne : u.ownBlock ≠ some g) {o : Obj} (ho : a.heap[g]? = some o) : b.heap[g]? = some o :=
  (h.kept.block g hg (fun e => hne e.symm)).trans ho
theorem own_lt {w : World} {e : TypeId} {size : Nat} {xs : List Value} (h : w.ownsRow base e size v n xs) : ∀ k, v.ownBlock = some k → base ≤ k := fun k hk => (h.lt k hk).1
end

end Go.Proofs.YtfegfmapdekkbaaGreatDoor
namespace Go.Proofs.YtfegfmapdekkbaaGreatDoor
set_option linter.unusedVariables false
set_option linter.unusedSimpArgs false
open Go.RowKit

section
variable {P : Program} {t e : TypeId} {size bytes : Nat}
theorem rd_src (T : SlTy P t e size bytes) {w : World} {B : Nat} {A : Option Addr} {m : Nat} {xs : List Value} (h : Rd w B size A m xs) (hm : 0 < m) : ∃ ad, A = some ad ∧ ∀ j u, xs[j]? = some u → w.cell? (ad.add j) = some u := by
  rcases h.2 with rfl | ⟨b, off, rfl, _, hc⟩
  · exfalso
    have h1 := h.1
    simp only [List.length_nil] at h1
    have := Nat.mul_pos hm T.hsz
    omega
  · exact ⟨_, rfl, fun j u hu => by rw [Addr.add_lit]; exact hc j u hu⟩
theorem run_appG (T : SlTy P t e size bytes) (w : World) (ty : TypeId) (A : Option Addr) (n B : Nat) (olds : List Value) (hr : Rd w B size A n olds) (B2 : Nat) (A2 : Option Addr) (m c : Nat) (news : List Value) (hr2 : Rd w B2 size A2 m news)
    (h1 : ∀ u ∈ news, u.oneCell' = true) (hb : (n + m) * bytes ≤ 140737488355328) :
    ∃ v' w', (Builtin.append_ #[t, t] ty #[.slice A n n, .slice A2 m c]).run P w = .ok v' w' ∧ ((m = 0 ∧ v' = .slice A n n ∧ w' = w) ∨ (0 < m ∧ w'.ownsRow w.heap.size e size v' (n + m) (olds ++ news) ∧ w.grownBy w' none)) := by
  have T' := T
  obtain ⟨ht, ⟨i, z, hi, hz, hs, hby, hzs⟩, hsz, hbp⟩ := T
  have h63 : n + m ≤ maxLen := by
    have : (n + m) * 1 ≤ (n + m) * bytes := Nat.mul_le_mul_left _ hbp
    unfold maxLen
    omega
  rcases Nat.eq_zero_or_pos m with rfl | hm
  · have hn0 : news = [] := List.eq_nil_of_length_eq_zero (by simpa using hr2.1)
    subst hn0
    refine ⟨_, _, ?_, .inl ⟨rfl, rfl, rfl⟩⟩
    cases A2 with
    | none => exact run_append_nothing w t t ty e i ht hi A n n (Nat.le_refl _) _ (Src.ofNil w ht c)
    | some a => exact run_append_nothing w t t ty e i ht hi A n n (Nat.le_refl _) _ (Src.ofSlice w ht a 0 c [] (by simp) (by simp) (by simp))
  · obtain ⟨ad, rfl, hc2⟩ := rd_src T' hr2 hm
    cases A with
    | some b0 =>
      have hc : ∀ j u, olds[j]? = some u → w.cell? (b0.add j) = some u := by
        intro j u hu
        rcases hr.2 with rfl | ⟨b, off, ha, _, hc⟩
        · simp at hu
        · injection ha with ha
          subst ha
          rw [Addr.add_lit]
          exact hc j u hu
      obtain ⟨v', w', hrun, r1, r2⟩ := run_append_arg_grows (P := P) w t ty e i z size bytes ht hi hz hs hby hzs hsz b0 n n olds hr.1 hc ad m c news hr2.1 hc2 (by omega) h63 hb
      exact ⟨v', w', hrun, .inr ⟨hm, r1, r2⟩⟩
    | none =>
      have hn : n = 0 ∧ olds = [] := by
        rcases hr.2 with rfl | ⟨b, off, ha, _, _⟩
        · have h1 := hr.1
          simp only [List.length_nil] at h1
          refine ⟨?_, rfl⟩
          rcases Nat.eq_zero_or_pos n with h | h
          · exact h
          · have := Nat.mul_pos h hsz
            omega
        · cases ha
      obtain ⟨rfl, rfl⟩ := hn
      obtain ⟨v', w', hrun, r1, r2, _⟩ := run_append_own (P := P) w w.heap.size t ty e i z size bytes ht hi hz hs hby hzs hsz (.slice none 0 0) 0 [] (World.ownsRow_nil w _ e size) ad m c news hr2.1 hc2 h1 h63 hb (Nat.le_refl _)
      exact ⟨v', w', hrun, .inr ⟨hm, r1, r2⟩⟩
/-- Whatever is appended, nothing also. -/
theorem wp_appG (T : SlTy P t e size bytes) {w : World} {o : Oper} {a : Act} {K : Act → World → Prop} {Q : Exit → Act → World → Prop} (s x : Operand)
    (ho : o.op = .call { callee := .builtin .append, args := #[s, x], argTypes := #[t, t] })
    (A : Option Addr) (n B : Nat) (olds : List Value) (hs : a.eval s = .slice A n n) (hr : Rd w B size A n olds) (hB : B ≤ w.heap.size)
    (B2 : Nat) (A2 : Option Addr) (m c : Nat) (news : List Value) (hx : a.eval x = .slice A2 m c) (hr2 : Rd w B2 size A2 m news) (h1 : ∀ u ∈ news, u.oneCell' = true)
    (hb : (n + m) * bytes ≤ 140737488355328)
    (h : ∀ A' c' w', n + m ≤ c' → Rd w' w'.heap.size size A' (n + m) (olds ++ news) → Below w.heap.size w w' → K (a.put o.dst (.slice A' (n + m) c')) w') : o.wp P a w K Q := by
  obtain ⟨v', w', hrun, h2⟩ := run_appG T w o.type A n B olds hr B2 A2 m c news hr2 h1 hb
  unfold Oper.wp execOp
  simp only [ho, resolve, invoke, builtin, Sem.run_bind, Sem.run_pure, Result.andThen_ok, List.map_toArray, List.map_cons, List.map_nil, hs, hx, hrun]
  rcases h2 with ⟨rfl, rfl, rfl⟩ | ⟨hm, h3, h4⟩
  · have hn0 : news = [] := List.eq_nil_of_length_eq_zero (by simpa using hr2.1)
    subst hn0
    rw [List.append_nil] at h
    exact h A n w' (Nat.le_refl _) (hr.more hB) (Below.refl _ _)
  · obtain ⟨A', c', rfl⟩ := own_form h3
    refine h A' c' w' ?_ (Rd.of_own h3) ((Below.refl _ _).grown h4 (Nat.le_refl _) (fun k hk => by cases hk))
    rcases h3.2 with ⟨e1, e2⟩ | ⟨g, cap, cur, e1, _, _, e4, _⟩
    · omega
    · injection e1 with _ _ e1
      omega
theorem wpList_appG (T : SlTy P t e size bytes) {w : World} {ops : Array Oper} {rest : List Oper} {o : Oper} {a : Act} {Q : Exit → Act → World → Prop} (hgd : o.guard = none) (s x : Operand)
    (ho : o.op = .call { callee := .builtin .append, args := #[s, x], argTypes := #[t, t] })
    (A : Option Addr) (n B : Nat) (olds : List Value) (hs : a.eval s = .slice A n n) (hr : Rd w B size A n olds) (hB : B ≤ w.heap.size)
    (B2 : Nat) (A2 : Option Addr) (m c : Nat) (news : List Value) (hx : a.eval x = .slice A2 m c) (hr2 : Rd w B2 size A2 m news) (h1 : ∀ u ∈ news, u.oneCell' = true)
    (hb : (n + m) * bytes ≤ 140737488355328)
    (h : ∀ A' c' w', n + m ≤ c' → Rd w' w'.heap.size size A' (n + m) (olds ++ news) → Below w.heap.size w w' → wpList P ops Q rest (a.put o.dst (.slice A' (n + m) c')) w') : wpList P ops Q (o :: rest) a w :=
  wpList_plain hgd fun _ hK => wp_appG T s x ho A n B olds hs hr hB B2 A2 m c news hx hr2 h1 hb fun A' c' w' h2 h3 h4 => hK _ _ (h A' c' w' h2 h3 h4)
/-- Something is appended: the row is new. -/
theorem wpList_appGo (T : SlTy P t e size bytes) {w : World} {ops : Array Oper} {rest : List Oper} {o : Oper} {a : Act} {Q : Exit → Act → World → Prop} (hgd : o.guard = none) (s x : Operand)
    (ho : o.op = .call { callee := .builtin .append, args := #[s, x], argTypes := #[t, t] })
    (A : Option Addr) (n B : Nat) (olds : List Value) (hs : a.eval s = .slice A n n) (hr : Rd w B size A n olds)
    (B2 : Nat) (A2 : Option Addr) (m c : Nat) (news : List Value) (hx : a.eval x = .slice A2 m c) (hr2 : Rd w B2 size A2 m news) (h1 : ∀ u ∈ news, u.oneCell' = true)
    (hb : (n + m) * bytes ≤ 140737488355328) (hm : 0 < m)
    (h : ∀ A' c' w', w'.ownsRow w.heap.size e size (.slice A' (n + m) c') (n + m) (olds ++ news) → Below w.heap.size w w' → wpList P ops Q rest (a.put o.dst (.slice A' (n + m) c')) w') : wpList P ops Q (o :: rest) a w := by
  refine wpList_plain hgd fun _ hK => ?_
  obtain ⟨v', w', hrun, h2⟩ := run_appG T w o.type A n B olds hr B2 A2 m c news hr2 h1 hb
  unfold Oper.wp execOp
  simp only [ho, resolve, invoke, builtin, Sem.run_bind, Sem.run_pure, Result.andThen_ok, List.map_toArray, List.map_cons, List.map_nil, hs, hx, hrun]
  rcases h2 with ⟨rfl, _⟩ | ⟨_, h3, h4⟩
  · omega
  · obtain ⟨A', c', rfl⟩ := own_form h3
    exact hK _ _ (h A' c' w' h3 ((Below.refl _ _).grown h4 (Nat.le_refl _) (fun k hk => by cases hk)))
end
end Go.Proofs.YtfegfmapdekkbaaGreatDoor
namespace Go.Proofs.YtfegfmapdekkbaaGreatDoor
set_option linter.unusedVariables false
set_option linter.unusedSimpArgs false
open Go.RowKit
section
variable {P : Program} {t e : TypeId} {size bytes : Nat}
/-- The same, the block's number spelt as the walk has it. -/
theorem wpList_app1g (T : SlTy P t e size bytes) {W : World} {ops : Array Oper} {rest : List Oper} {o : Oper} {a : Act} {Q : Exit → Act → World → Prop} (hgd : o.guard = none) (s x : Operand)
    (ho : o.op = .call { callee := .builtin .append, args := #[s, x], argTypes := #[t, t] })
    (base : Nat) (v : Value) (n : Nat) (xs : List Value) (hs : a.eval s = v) (hown : W.ownsRow base e size v n xs)
    (cs : Array Value) (g : Nat) (hx : a.eval x = .slice (some ⟨g, 0, none⟩) 1 1) (hg : g = W.heap.size) (hcs : cs.size = size) (h1 : ∀ u ∈ cs.toList, u.oneCell' = true)
    (hb : (n + 1) * bytes ≤ 140737488355328) (hbase : base ≤ W.heap.size)
    (h : ∀ A' c' w', w'.ownsRow base e size (.slice A' (n + 1) c') (n + 1) (xs ++ cs.toList) → W.grownBy w' v.ownBlock → (∀ k, (Value.slice A' (n + 1) c').ownBlock = some k → v.ownBlock = some k ∨ W.heap.size ≤ k) → wpList P ops Q rest (a.put o.dst (.slice A' (n + 1) c')) w') : wpList P ops Q (o :: rest) a (W.alloc (.cells cs e)) := by
  subst hg
  exact wpList_app1 T hgd s x ho base v n xs hs hown cs hx hcs h1 hb hbase h
end
end Go.Proofs.YtfegfmapdekkbaaGreatDoor
namespace Go.Proofs.YtfegfmapdekkbaaGreatDoor
set_option linter.unusedVariables false
set_option linter.unusedSimpArgs false
open Go.RowKit

theorem textInfo : (Tryz.prog.info? 9).map (fun i => (i.zero, i.size, i.bytes)) = some (some (.string ⟨#[]⟩), 1, 16) := by kernel_rfl
theorem strs_at {b : List ByteArray} {i : Nat} {x : ByteArray} (h : b[i]? = some x) : (b.map Value.string)[i]? = some (.string x) := by simp [h]

/-- What has been copied from k on. -/
def backToT (b : List ByteArray) (k : Nat) : List Value := List.replicate k (.string ⟨#[]⟩) ++ (b.drop k).map Value.string
theorem backToT_set {b : List ByteArray} {k : Nat} {x : ByteArray} (h : b[k]? = some x) : (backToT b (k + 1)).set k (.string x) = backToT b k := by
  unfold backToT
  rw [List.drop_eq_getElem_cons (i := k) (by have := (List.getElem?_eq_some_iff.1 h).1; exact this)]
  have hx : b[k]'((List.getElem?_eq_some_iff.1 h).1) = x := (List.getElem?_eq_some_iff.1 h).2
  rw [hx, List.replicate_succ', List.append_assoc]
  rw [List.set_append]
  simp

set_option maxRecDepth 20000 in
set_option maxHeartbeats 1000000 in
theorem copyTexts_any (A : Option Addr) (m c B : Nat) (b : List ByteArray) (w : World) (hB : B ≤ w.heap.size) (hb : Rd w B 1 A m (b.map Value.string)) (hm : m ≤ 4294967296) :
    Calls Tryz.prog 10 #[.slice A m c] w fun e w' => ∃ A' c', e = .returned (.slice A' m c') ∧ w'.ownsRow w.heap.size 9 1 (.slice A' m c') m (b.map Value.string) ∧ Below w.heap.size w w' := by
  have hbl : b.length = m := by simpa using hb.len1
  rcases Nat.eq_zero_or_pos m with rfl | hpos
  · have hb0 : b = [] := List.eq_nil_of_length_eq_zero hbl
    subst hb0
    clear hb hbl
    go_enter Tryz.func10, Tryz.ntmps10
    go_wp2
    go_ret
    exact ⟨none, 0, rfl, World.ownsRow_nil _ _ _ _, Below.refl _ _⟩
  have hne : decide (m = 0) = false := by simp; omega
  obtain ⟨i, hi, hz0, hz1, hz2⟩ := info_parts textInfo
  have Hb := hide hb
  have Hbl := hide hbl
  have Hi := hide hi
  have Hz0 := hide hz0
  have Hz1 := hide hz1
  have Hz2 := hide hz2
  clear hb hbl hi hz0 hz1 hz2
  go_enter Tryz.func10, Tryz.ntmps10
  go_wp2_with (at_make; refine wpList_make_full _ rfl _ _ 27 rfl w.heap.size 9 i (.string ⟨#[]⟩) 1 Tryz.underlying27 (unhide Hi) (unhide Hz0) (unhide Hz1) _ _ _ _ m rfl rfl rfl rfl (by rw [unhide Hz2]; omega) (by unfold maxLen; omega) (Nat.le_refl _) ?_; intro w1 hown hgrow; have hb1 := (Below.refl w.heap.size w).grown hgrow (Nat.le_refl _) (fun k hk => by cases hk); have Hown := hide hown; have Hb1 := hide hb1; clear hown hgrow hb1)
  go_loopw [4] (fun at_ wr => ∃ k : Nat, k ≤ m ∧ at_ = .int .i64 ((k : Int) - 1) ∧ wr.ownsRow w.heap.size 9 1 (.slice (some ⟨w.heap.size, 0, none⟩) m m) m (backToT b k) ∧ Below w.heap.size w wr) (fun at_ _ => (intOf at_ + 1).toNat)
  case atStart =>
    refine ⟨m, Nat.le_refl _, rfl, ?_, unhide Hb1⟩
    have := unhide Hown
    have e : (madeCells (Value.string ⟨#[]⟩).cells (m * 1)).toList = backToT b m := by
      unfold backToT
      rw [List.drop_eq_nil_of_le (by rw [unhide Hbl]; exact Nat.le_refl _)]
      simp [Value.cells, toList_madeCells_one]
    rwa [e] at this
  case round =>
  clear Hown Hb1
  obtain ⟨k, hk, rfl, hown, hb2⟩ := hrel
  have Hown := hide hown
  have Hb2 := hide hb2
  clear hown hb2
  by_cases hk0 : k = 0
  · subst hk0
    go_wp2
    go_ret
    refine ⟨_, _, rfl, ?_, unhide Hb2⟩
    have := unhide Hown
    simpa [backToT] using this
  · obtain ⟨j, rfl⟩ : ∃ j, k = j + 1 := ⟨k - 1, by omega⟩
    obtain ⟨x, hx⟩ : ∃ x, b[j]? = some x := ⟨_, List.getElem?_eq_getElem (by rw [unhide Hbl]; omega)⟩
    obtain ⟨ab, ao, rfl, hlt, hc⟩ := ((unhide Hb).below ((unhide Hb2).mono hB)).at_ (strs_at hx)
    have hset := own_set (i := j) (unhide Hown) (.string x)
    rw [backToT_set hx] at hset
    have hcl : (backToT b (j + 1))[j]? = some (.string ⟨#[]⟩) := by simp [backToT, List.getElem?_append]
    have hc2 := own_cell (unhide Hown) hcl
    have hf2 := own_free (unhide Hown) j
    have hge := own_at (unhide Hown)
    have e1 : ((j + 1 : Nat) : Int) - 1 = (j : Int) := by omega
    rw [e1]
    have Hset := hide hset
    clear hset hcl hx
    go_wp2
    go_roundw
    case rel => exact ⟨j, by omega, rfl, unhide Hset, (unhide Hb2).setCell (Nat.le_refl _) _⟩
    case measure => simp [intOf]

end Go.Proofs.YtfegfmapdekkbaaGreatDoor
namespace Go.Proofs.YtfegfmapdekkbaaGreatDoor
set_option linter.unusedVariables false
set_option linter.unusedSimpArgs false
open Go.RowKit

def TxB (l : List ByteArray) (w : World) (e : Ending) (w' : World) : Prop :=
  ∃ A' c', e = .returned (.slice A' l.length c') ∧ w'.ownsRow w.heap.size 9 1 (.slice A' l.length c') l.length (l.map Value.string) ∧ Below w.heap.size w w'
theorem sb_one (l : List ByteArray) : ∀ u ∈ l.map Value.string, u.oneCell' = true := by
  intro u hu
  obtain ⟨x, _, rfl⟩ := List.mem_map.1 hu
  simp [Value.oneCell']
theorem own_litS {w : World} {cs : Array Value} {e : TypeId} {n : Nat} (hn : cs.size = n) (hm : n ≤ 4294967296) : (w.alloc (.cells cs e)).ownsRow w.heap.size e 1 (.slice (some ⟨w.heap.size, 0, none⟩) n n) n cs.toList :=
  ⟨by simp [hn], .inr ⟨w.heap.size, n, cs, rfl, Nat.le_refl _, heap_alloc_new _ _, Nat.le_refl _, by unfold maxLen; omega, by omega, by rw [List.take_of_length_le]; simp [hn]⟩⟩

set_option maxRecDepth 100000 in
set_option maxHeartbeats 4000000 in
theorem behind_any (A A2 : Option Addr) (m c m2 c2 B1 B2 : Nat) (l h : List ByteArray) (w : World) (hl : Rd w B1 1 A m (l.map Value.string)) (hB1 : B1 ≤ w.heap.size) (hh : Rd w B2 1 A2 m2 (h.map Value.string)) (hB2 : B2 ≤ w.heap.size) (hmc : m ≤ c) (hm : m ≤ 4294967296) (hm2 : m2 ≤ 16) :
    Calls Tryz.prog 49 #[.slice A m c, .slice A2 m2 c2] w (TxB (h ++ l.drop 1) w) := by
  have hll : l.length = m := by simpa using hl.len1
  have hhl : h.length = m2 := by simpa using hh.len1
  obtain ⟨L, hL⟩ : ∃ L, h ++ l.drop 1 = L := ⟨_, rfl⟩
  rw [hL]
  have hLl : L.length = (0 + m2) + (m - 1) := by rw [← hL, List.length_append, List.length_drop]; omega
  have Hh := hide hh
  have HL := hide hL
  have HLl := hide hLl
  have Hl := hide hl
  have Hll := hide hll
  have O0 := hide (own_litS (w := w) (cs := #[]) (e := 9) (n := 0) rfl (by omega))
  clear hh hhl hL hLl hll hl
  rcases Nat.eq_zero_or_pos m with rfl | hpos
  · go_enter Tryz.func49, Tryz.ntmps49
    go_wp2_with (at_builtin; refine wpList_app strTy rfl _ _ rfl w.heap.size _ 0 [] rfl (unhide O0) B2 A2 m2 c2 (h.map Value.string) rfl ((unhide Hh).alloc hB2 _) (sb_one _) (by omega) (by simp) ?_; intro A3 c3 w3 ho3 hg3 hk3; have Ho3 := hide ho3; have Hg3 := hide hg3; clear ho3 hg3 hk3)
    go_ret
    have hl0 : l = [] := List.eq_nil_of_length_eq_zero (unhide Hll)
    have h1 : L = h := by rw [← unhide HL, hl0]; simp
    subst h1
    unfold TxB
    rw [unhide HLl]
    exact ⟨A3, c3, by simp, by simpa using unhide Ho3, ((Below.refl _ _).alloc (Nat.le_refl _) _).grown (unhide Hg3) (by simp) (fun k hk => ((unhide O0).lt k hk).1)⟩
  · obtain ⟨k, rfl⟩ : ∃ k, m = k + 1 := ⟨m - 1, by omega⟩
    obtain ⟨x, l, rfl⟩ : ∃ x r, l = x :: r := by
      cases l with
      | nil => have := unhide Hll; simp at this
      | cons x r => exact ⟨x, r, rfl⟩
    have h1 : L = h ++ l := by rw [← unhide HL]; rfl
    subst h1
    have hr := (show Rd w B1 1 A (k + 1) (.string x :: l.map Value.string) from unhide Hl).tail hmc
    have Hr := hide hr
    have kt := fun w' => run_tail (P := Tryz.prog) (e := 9) Tryz.underlying27 (by kernel_rfl) A k c w'
    clear hr
    go_enter Tryz.func49, Tryz.ntmps49
    go_wp2_with (first
      | (at_builtin; refine wpList_app strTy rfl _ _ rfl w.heap.size _ 0 [] rfl (unhide O0) B2 A2 m2 c2 (h.map Value.string) rfl ((unhide Hh).alloc hB2 _) (sb_one _) (by omega) (by simp) ?_; rw [Nat.zero_add]; intro A3 c3 w3 ho3 hg3 hk3; have Hb3 := hide (((Below.refl _ _).alloc (Nat.le_refl _) _).grown hg3 (by simp) (fun k hk => ((unhide O0).lt k hk).1) : Below w.heap.size w w3); have Ho3 := hide ho3; clear ho3 hg3 hk3)
      | (at_builtin; refine wpList_app strTy rfl _ _ rfl w.heap.size _ m2 (h.map Value.string) rfl (unhide Ho3) B1 (tailA A c) k (c - 1) (l.map Value.string) rfl ((unhide Hr).below ((unhide Hb3).mono hB1)) (sb_one _) (by omega) (unhide Hb3).size ?_; intro A4 c4 w4 ho4 hg4 hk4; have Ho4 := hide ho4; have Hb4 := hide ((unhide Hb3).grown hg4 (unhide Hb3).size (fun k hk => ((unhide Ho3).lt k hk).1) : Below w.heap.size w w4); clear ho4 hg4 hk4))
    go_ret
    unfold TxB
    have e1 : (h ++ l).length = m2 + k := by have := unhide HLl; simpa using this
    rw [e1, List.map_append]
    exact ⟨A4, c4, rfl, unhide Ho4, unhide Hb4⟩

theorem textsB_mono {L : List ByteArray} {w w1 w' : World} {e : Ending} (hb : Below w.heap.size w w1) (h : TxB L w1 e w') : TxB L w e w' := by
  obtain ⟨A', c', rfl, h1, h2⟩ := h
  exact ⟨A', c', rfl, own_base h1 hb.size, hb.trans (h2.mono hb.size)⟩
theorem argv_any (A : Option Addr) (m c B : Nat) (s a t : ByteArray) (l : List ByteArray) (w : World) (hl : Rd w B 1 A m (l.map Value.string)) (hB : B ≤ w.heap.size) (hmc : m ≤ c) (hm : m ≤ 4294967296) :
    Calls Tryz.prog 23 #[.string s, .string a, .string t, .slice A m c] w (TxB (Sb.argv s a t l) w) := by
  obtain ⟨L, hL⟩ : ∃ L, Sb.argv s a t l = L := ⟨_, rfl⟩
  rw [hL]
  by_cases h : a.size = 0
  · have ha : a.toList.isEmpty = true := by rw [isEmpty_toList]; simp [h]
    have hL2 : [s, t] ++ l.drop 1 = L := by rw [← hL]; unfold Sb.argv; rw [if_pos h]
    have K := behind_any A (some ⟨w.heap.size, 0, none⟩) m c 2 2 B (w.heap.size + 1) l [s, t] (w.alloc (.cells #[.string s, .string t] 9)) (hl.alloc hB _) (by simp; omega) (Rd.rowF (n := 2) rfl) (by simp) hmc hm (by omega)
    rw [hL2] at K
    have HK := hide (K.mono fun e w' h => textsB_mono ((Below.refl w.heap.size w).alloc (Nat.le_refl _) _) h)
    clear K hL hL2 h hl
    go_enter Tryz.func23, Tryz.ntmps23
    go_wp2_with fail
    refine (unhide HK).mono ?_
    rintro e w1 ⟨A', c', rfl, h1, h2⟩
    have H1 := hide h1
    clear h1
    go_wp2_with fail
    go_ret
    exact ⟨A', c', rfl, unhide H1, h2⟩
  · have ha : a.toList.isEmpty = false := by rw [isEmpty_toList]; simp [h]
    have hL2 : [s, a, t] ++ l.drop 1 = L := by rw [← hL]; unfold Sb.argv; rw [if_neg h]
    have K := behind_any A (some ⟨w.heap.size, 0, none⟩) m c 3 3 B (w.heap.size + 1) l [s, a, t] (w.alloc (.cells #[.string s, .string a, .string t] 9)) (hl.alloc hB _) (by simp; omega) (Rd.rowF (n := 3) rfl) (by simp) hmc hm (by omega)
    rw [hL2] at K
    have HK := hide (K.mono fun e w' h => textsB_mono ((Below.refl w.heap.size w).alloc (Nat.le_refl _) _) h)
    clear K hL hL2 h hl
    go_enter Tryz.func23, Tryz.ntmps23
    go_wp2_with fail
    refine (unhide HK).mono ?_
    rintro e w1 ⟨A', c', rfl, h1, h2⟩
    have H1 := hide h1
    clear h1
    go_wp2_with fail
    go_ret
    exact ⟨A', c', rfl, unhide H1, h2⟩

set_option maxRecDepth 100000 in
set_option maxHeartbeats 4000000 in
theorem rargv_any (A : Option Addr) (m c B : Nat) (s a t : ByteArray) (l : List ByteArray) (w : World) (hl : Rd w B 1 A m (l.map Value.string)) (hB : B ≤ w.heap.size) (hmc : m ≤ c) (hm : m ≤ 4294967296) :
    Calls Tryz.prog 30 #[.string s, .string a, .string t, .slice A m c] w (TxB (Sb.argv s a t l) w) := by
  obtain ⟨L, hL⟩ : ∃ L, Sb.argv s a t l = L := ⟨_, rfl⟩
  rw [hL]
  have hll : l.length = m := by simpa using hl.len1
  have O0 := hide (own_litS (w := w) (cs := #[.string s]) (e := 9) (n := 1) rfl (by omega))
  have Hb0 : Hid (Below w.heap.size w (w.alloc (.cells #[.string s] 9))) := hide ((Below.refl _ _).alloc (Nat.le_refl _) _)
  obtain ⟨aE, haE⟩ : ∃ b, a.toList.isEmpty = b := ⟨_, rfl⟩
  have h1 : aE = decide (a.size = 0) := by rw [← haE, isEmpty_toList]
  have HL := hide hL
  have Hl := hide hl
  have Hll := hide hll
  have H1 := hide h1
  clear hL hll hl h1
  cases aE with
  | true =>
    have hL2 : [s, t] ++ l.drop 1 = L := by rw [← unhide HL]; unfold Sb.argv; rw [if_pos (by simpa using (unhide H1).symm)]
    have HL2 := hide hL2
    clear hL2 HL H1
    by_cases hm1 : 1 < m
    · obtain ⟨k, rfl⟩ : ∃ k, m = k + 1 := ⟨m - 1, by omega⟩
      have hk : 0 < k := by omega
      obtain ⟨x, l, rfl⟩ : ∃ x r, l = x :: r := by
        cases l with
        | nil => have := unhide Hll; simp at this
        | cons x r => exact ⟨x, r, rfl⟩
      have h2 : L = [s, t] ++ l := by rw [← unhide HL2]; rfl
      subst h2
      have hr := (show Rd w B 1 A (k + 1) (.string x :: l.map Value.string) from unhide Hl).tail hmc
      have Hr := hide hr
      have kt := fun w' => run_tail (P := Tryz.prog) (e := 9) Tryz.underlying27 (by kernel_rfl) A k c w'
      have hlk : l.length = k := by have := unhide Hll; simpa using this
      have Hlk := hide hlk
      clear hr hlk
      go_enter Tryz.func30, Tryz.ntmps30
      go_wp2_with (first
        | (at_builtin; refine wpList_app1g strTy rfl _ _ rfl w.heap.size _ 1 [.string s] rfl (unhide O0) #[.string t] _ rfl (by simp) rfl (by simp [Value.oneCell']) (by omega) (by simp) ?_; intro A3 c3 w3 ho3 hg3 hk3; have Hb3 := hide ((unhide Hb0).grown hg3 (by simp) (fun k hk => ((unhide O0).lt k hk).1) : Below w.heap.size w w3); have Ho3 := hide ho3; clear ho3 hg3 hk3)
        | (at_builtin; refine wpList_app strTy rfl _ _ rfl w.heap.size _ 2 [.string s, .string t] rfl (unhide Ho3) B (tailA A c) k (c - 1) (l.map Value.string) rfl ((unhide Hr).below ((unhide Hb3).mono hB)) (sb_one _) (by omega) (unhide Hb3).size ?_; intro A9 c9 w9 ho9 hg9 hk9; have Hb9 := hide ((unhide Hb3).grown hg9 (unhide Hb3).size (fun k hk => ((unhide Ho3).lt k hk).1) : Below w.heap.size w w9); have Ho9 := hide ho9; clear ho9 hg9 hk9))
      go_ret
      have e1 : ([s, t] ++ l).length = 2 + k := by rw [List.length_append, unhide Hlk]; rfl
      have hT : TxB ([s, t] ++ l) w (.returned (.slice A9 (2 + k) c9)) w9 := by
        unfold TxB
        rw [e1, List.map_append]
        exact ⟨A9, c9, rfl, unhide Ho9, unhide Hb9⟩
      exact hT
    · have h2 : L = [s, t] := by
        rw [← unhide HL2, List.drop_eq_nil_of_le (by rw [unhide Hll]; omega)]; rfl
      subst h2
      clear HL2
      go_enter Tryz.func30, Tryz.ntmps30
      go_wp2_with (first
        | (at_builtin; refine wpList_app1g strTy rfl _ _ rfl w.heap.size _ 1 [.string s] rfl (unhide O0) #[.string t] _ rfl (by simp) rfl (by simp [Value.oneCell']) (by omega) (by simp) ?_; intro A3 c3 w3 ho3 hg3 hk3; have Hb3 := hide ((unhide Hb0).grown hg3 (by simp) (fun k hk => ((unhide O0).lt k hk).1) : Below w.heap.size w w3); have Ho3 := hide ho3; clear ho3 hg3 hk3))
      go_ret
      exact ⟨_, _, rfl, unhide Ho3, unhide Hb3⟩
  | false =>
    have hL2 : [s, a, t] ++ l.drop 1 = L := by rw [← unhide HL]; unfold Sb.argv; rw [if_neg (by simpa using (unhide H1).symm)]
    have HL2 := hide hL2
    clear hL2 HL H1
    by_cases hm1 : 1 < m
    · obtain ⟨k, rfl⟩ : ∃ k, m = k + 1 := ⟨m - 1, by omega⟩
      have hk : 0 < k := by omega
      obtain ⟨x, l, rfl⟩ : ∃ x r, l = x :: r := by
        cases l with
        | nil => have := unhide Hll; simp at this
        | cons x r => exact ⟨x, r, rfl⟩
      have h2 : L = [s, a, t] ++ l := by rw [← unhide HL2]; rfl
      subst h2
      have hr := (show Rd w B 1 A (k + 1) (.string x :: l.map Value.string) from unhide Hl).tail hmc
      have Hr := hide hr
      have kt := fun w' => run_tail (P := Tryz.prog) (e := 9) Tryz.underlying27 (by kernel_rfl) A k c w'
      have hlk : l.length = k := by have := unhide Hll; simpa using this
      have Hlk := hide hlk
      clear hr hlk
      go_enter Tryz.func30, Tryz.ntmps30
      go_wp2_with (first
        | (at_builtin; refine wpList_app1g strTy rfl _ _ rfl w.heap.size _ 1 [.string s] rfl (unhide O0) #[.string a] _ rfl (by simp) rfl (by simp [Value.oneCell']) (by omega) (by simp) ?_; intro A3 c3 w3 ho3 hg3 hk3; have Hb3 := hide ((unhide Hb0).grown hg3 (by simp) (fun k hk => ((unhide O0).lt k hk).1) : Below w.heap.size w w3); have Ho3 := hide ho3; clear ho3 hg3 hk3)
        | (at_builtin; refine wpList_app1g strTy rfl _ _ rfl w.heap.size _ 2 [.string s, .string a] rfl (unhide Ho3) #[.string t] _ rfl (by simp) rfl (by simp [Value.oneCell']) (by omega) ((unhide Hb3).size) ?_; intro A4 c4 w4 ho4 hg4 hk4; have Hb4 := hide ((unhide Hb3).grown hg4 ((unhide Hb3).size) (fun k hk => ((unhide Ho3).lt k hk).1) : Below w.heap.size w w4); have Ho4 := hide ho4; clear ho4 hg4 hk4)
        | (at_builtin; refine wpList_app strTy rfl _ _ rfl w.heap.size _ 3 [.string s, .string a, .string t] rfl (unhide Ho4) B (tailA A c) k (c - 1) (l.map Value.string) rfl ((unhide Hr).below ((unhide Hb4).mono hB)) (sb_one _) (by omega) (unhide Hb4).size ?_; intro A9 c9 w9 ho9 hg9 hk9; have Hb9 := hide ((unhide Hb4).grown hg9 (unhide Hb4).size (fun k hk => ((unhide Ho4).lt k hk).1) : Below w.heap.size w w9); have Ho9 := hide ho9; clear ho9 hg9 hk9))
      go_ret
      have e1 : ([s, a, t] ++ l).length = 3 + k := by rw [List.length_append, unhide Hlk]; rfl
      have hT : TxB ([s, a, t] ++ l) w (.returned (.slice A9 (3 + k) c9)) w9 := by
        unfold TxB
        rw [e1, List.map_append]
        exact ⟨A9, c9, rfl, unhide Ho9, unhide Hb9⟩
      exact hT
    · have h2 : L = [s, a, t] := by
        rw [← unhide HL2, List.drop_eq_nil_of_le (by rw [unhide Hll]; omega)]; rfl
      subst h2
      clear HL2
      go_enter Tryz.func30, Tryz.ntmps30
      go_wp2_with (first
        | (at_builtin; refine wpList_app1g strTy rfl _ _ rfl w.heap.size _ 1 [.string s] rfl (unhide O0) #[.string a] _ rfl (by simp) rfl (by simp [Value.oneCell']) (by omega) (by simp) ?_; intro A3 c3 w3 ho3 hg3 hk3; have Hb3 := hide ((unhide Hb0).grown hg3 (by simp) (fun k hk => ((unhide O0).lt k hk).1) : Below w.heap.size w w3); have Ho3 := hide ho3; clear ho3 hg3 hk3)
        | (at_builtin; refine wpList_app1g strTy rfl _ _ rfl w.heap.size _ 2 [.string s, .string a] rfl (unhide Ho3) #[.string t] _ rfl (by simp) rfl (by simp [Value.oneCell']) (by omega) ((unhide Hb3).size) ?_; intro A4 c4 w4 ho4 hg4 hk4; have Hb4 := hide ((unhide Hb3).grown hg4 ((unhide Hb3).size) (fun k hk => ((unhide Ho3).lt k hk).1) : Below w.heap.size w w4); have Ho4 := hide ho4; clear ho4 hg4 hk4))
      go_ret
      exact ⟨_, _, rfl, unhide Ho4, unhide Hb4⟩
end Go.Proofs.YtfegfmapdekkbaaGreatDoor
namespace Go.Proofs.YtfegfmapdekkbaaGreatDoor
set_option linter.unusedVariables false
set_option linter.unusedSimpArgs false
open Go.RowKit

/-- Block g holds just these cells. -/
def Blk (w : World) (g : Nat) (t : TypeId) (l : List Value) : Prop := w.heap[g]? = some (.cells l.toArray t (0, 0))
section
variable {w w' : World} {g g' B i : Nat} {t : TypeId} {l : List Value} {u : Value}
theorem Blk.cell (h : Blk w g t l) (hi : l[i]? = some u) : w.cell? ⟨g, i, none⟩ = some u := by
  rw [cell_of_row _ _ _ _ _ _ h]
  simpa using hi
theorem Blk.free (h : Blk w g t l) (i : Nat) : w.frozen? ⟨g, i, none⟩ = false := frozen_of_row _ _ _ _ _ h
theorem Blk.set (h : Blk w g t l) (i : Nat) (u : Value) : Blk (w.setCell ⟨g, i, none⟩ u) g t (l.set i u) := by
  have h1 := heap_setCell_same _ _ i _ _ u h
  unfold Blk
  rw [h1]
  simp [List.setIfInBounds_toArray]
theorem Blk.below (h : Blk w g t l) (hb : Below B w w') (hg : g < B) : Blk w' g t l := (hb.block g hg).trans h
theorem Blk.lt (h : Blk w g t l) : g < w.heap.size := lt_of_block h
theorem Blk.belowSz (h : Blk w g t l) (hb : Below w.heap.size w w') : Blk w' g t l := h.below hb h.lt
theorem Blk.drewN (h : Blk w g t l) (k : Nat) : Blk (w.drewN k) g t l := h
theorem Blk.drew (h : Blk w g t l) : Blk w.drew g t l := h
theorem Blk.alloc (h : Blk w g t l) (o : Obj) : Blk (w.alloc o) g t l := h.belowSz ((Below.refl _ _).alloc (Nat.le_refl _) o)
theorem Blk.new (w : World) (t : TypeId) (l : List Value) : Blk (w.alloc (.cells l.toArray t)) w.heap.size t l := heap_alloc_new _ _
theorem Blk.other (h : Blk w g t l) {p : Addr} (hp : p.block ≠ g) (u : Value) : Blk (w.setCell p u) g t l := (heap_setCell_other _ _ _ _ hp.symm).trans h
end
end Go.Proofs.YtfegfmapdekkbaaGreatDoor
namespace Go.Proofs.YtfegfmapdekkbaaGreatDoor
set_option linter.unusedVariables false
set_option linter.unusedSimpArgs false
open Go.RowKit

def u32v (n : Nat) : Value := .int .u32 (n : Nat)
def metaV (m : Vf.Meta) : Value := .agg #[.int .u8 (m.kind : Nat), .int .u16 (m.mode : Nat), .int .u32 (m.uid : Nat), .int .u32 (m.gid : Nat), .int .i64 (m.size : Nat)]
def credV (c : Vf.Cred) (A : Option Addr) (n k : Nat) : Value := .agg #[.int .u32 (c.uid : Nat), .int .u32 (c.euid : Nat), .int .u32 (c.suid : Nat), .int .u32 (c.gid : Nat), .slice A n k]

theorem indexU32_any (A : Option Addr) (n c B : Nat) (xs : List Nat) (v : Nat) (w : World) (hx : Rd w B 1 A n (xs.map u32v)) (hn : n ≤ maxLen) :
    Calls Tryz.prog 98 #[.slice A n c, .int .u32 (v : Nat)] w fun e w' => ∃ r : Int, e = .returned (.int .i64 r) ∧ (0 ≤ r ↔ v ∈ xs) ∧ w = w' := by
  have hxl : xs.length = n := by simpa using hx.len1
  unfold maxLen at hn
  have Hx := hide hx
  have Hxl := hide hxl
  clear hx hxl
  go_enter Tryz.func98, Tryz.ntmps98
  go_wp2
  go_loop [8] (fun i => ∃ k : Nat, k ≤ n ∧ i = .int .i64 k ∧ v ∉ xs.take k) (fun i => n - (intOf i).toNat)
  case atStart => exact ⟨0, Nat.zero_le _, rfl, by simp⟩
  case round =>
    obtain ⟨k, hk, rfl, hv⟩ := hrel
    have Hv := hide hv
    clear hv
    by_cases hlt : k < n
    · obtain ⟨x, hxk⟩ : ∃ x, xs[k]? = some x := ⟨_, List.getElem?_eq_getElem (by rw [unhide Hxl]; exact hlt)⟩
      obtain ⟨b1, o1, rfl, _, c1⟩ := (unhide Hx).at_ (k := k) (u := .int .u32 (x : Nat)) (by simp [hxk, u32v])
      by_cases he : v = x
      · have hb : (((v : Nat) : Int) == ((x : Nat) : Int)) = true := by rw [he]; simp
        have hm : v ∈ xs := by rw [he]; exact List.mem_of_getElem? hxk
        have Hm := hide hm
        clear he hxk hm
        go_wp2
        go_ret
        exact ⟨k, rfl, ⟨fun _ => unhide Hm, fun _ => by omega⟩, rfl⟩
      · have hb : (((v : Nat) : Int) == ((x : Nat) : Int)) = false := by rw [beq_eq_false_iff_ne]; omega
        have hm : v ∉ xs.take (k + 1) := by
          rw [List.take_add_one, hxk, List.mem_append]
          simp [he, unhide Hv]
        have Hm := hide hm
        clear he hxk hm
        go_wp2
        go_round
        case rel => exact ⟨k + 1, by omega, by go_num, unhide Hm⟩
        case measure => simp [intOf]; omega
    · have hm : v ∉ xs := by
        have := unhide Hv
        rwa [List.take_of_length_le (by have := unhide Hxl; omega)] at this
      have Hm := hide hm
      clear hm
      go_wp2
      go_ret
      exact ⟨-1, rfl, ⟨fun h => by omega, fun h => absurd h (unhide Hm)⟩, rfl⟩

theorem containsU32_any (A : Option Addr) (n c B : Nat) (xs : List Nat) (v : Nat) (w : World) (hx : Rd w B 1 A n (xs.map u32v)) (hn : n ≤ maxLen) :
    Calls Tryz.prog 83 #[.slice A n c, .int .u32 (v : Nat)] w fun e w' => e = .returned (.bool (decide (v ∈ xs))) ∧ w = w' := by
  have Hx := hide hx
  clear hx
  go_enter Tryz.func83, Tryz.ntmps83
  go_wp2_with (go_at_call 98; refine (indexU32_any _ _ _ _ _ _ _ (unhide Hx) hn).mono ?_; rintro e w1 ⟨r, rfl, hr, rfl⟩; have Hr := hide hr; clear hr)
  go_ret
  refine ⟨ret_bool ?_, rfl⟩
  rw [Bool.eq_iff_iff, decide_eq_true_eq, decide_eq_true_eq]
  exact unhide Hr

theorem class_any (c : Vf.Cred) (m : Vf.Meta) (A : Option Addr) (n k B : Nat) (w : World) (hg : Rd w B 1 A n (c.groups.map u32v)) (hB : B ≤ w.heap.size) (hn : n ≤ maxLen) :
    Calls Tryz.prog 62 #[credV c A n k, metaV m] w fun e w' => e = .returned (.int .i64 (Vf.cls c m : Nat)) ∧ Below w.heap.size w w' := by
  have Hg := hide hg
  clear hg
  unfold credV metaV
  obtain ⟨v, hv⟩ : ∃ v, Vf.cls c m = v := ⟨_, rfl⟩
  have Hv := hide hv
  rw [hv]
  clear hv
  by_cases h1 : c.euid = m.uid
  · have b1 : (((c.euid : Nat) : Int) == ((m.uid : Nat) : Int)) = true := by rw [h1]; simp
    have hv0 : v = 0 := by rw [← unhide Hv]; unfold Vf.cls; rw [if_pos h1]
    clear h1
    go_enter Tryz.func62, Tryz.ntmps62
    go_wp2_with fail
    go_ret
    subst hv0
    exact ⟨rfl, ((Below.refl w.heap.size w).alloc (Nat.le_refl _) _).alloc (by simp) _⟩
  · have b1 : (((c.euid : Nat) : Int) == ((m.uid : Nat) : Int)) = false := by rw [beq_eq_false_iff_ne]; omega
    by_cases h2 : c.gid = m.gid
    · have b2 : (((c.gid : Nat) : Int) == ((m.gid : Nat) : Int)) = true := by rw [h2]; simp
      have hv0 : v = 1 := by rw [← unhide Hv]; unfold Vf.cls; rw [if_neg h1, if_pos (.inl h2)]
      clear h1 h2
      go_enter Tryz.func62, Tryz.ntmps62
      go_wp2_with fail
      go_ret
      subst hv0
      exact ⟨rfl, ((Below.refl w.heap.size w).alloc (Nat.le_refl _) _).alloc (by simp) _⟩
    · have b2 : (((c.gid : Nat) : Int) == ((m.gid : Nat) : Int)) = false := by rw [beq_eq_false_iff_ne]; omega
      obtain ⟨r, hr⟩ : ∃ r, decide (m.gid ∈ c.groups) = r := ⟨_, rfl⟩
      have hv0 : v = if r then 1 else 2 := by
        rw [← unhide Hv, ← hr]
        unfold Vf.cls
        rw [if_neg h1]
        by_cases h3 : m.gid ∈ c.groups
        · rw [if_pos (.inr h3), decide_eq_true h3]; rfl
        · rw [if_neg (fun h => h.elim h2 h3), decide_eq_false h3]; rfl
      have K : ∀ w', Below w.heap.size w w' → Calls Tryz.prog 83 #[.slice A n k, .int .u32 (m.gid : Nat)] w' fun e w2 => e = .returned (.bool r) ∧ w' = w2 := by
        intro w' hb
        have := containsU32_any A n k B c.groups m.gid w' ((unhide Hg).below (hb.mono hB)) hn
        rw [hr] at this
        exact this
      have HK := hide K
      have Hb := hide (((Below.refl w.heap.size w).alloc (Nat.le_refl _) (.cells #[.int .u32 (c.uid : Nat), .int .u32 (c.euid : Nat), .int .u32 (c.suid : Nat), .int .u32 (c.gid : Nat), .slice A n k] 26)).alloc (by simp) (.cells #[.int .u8 (m.kind : Nat), .int .u16 (m.mode : Nat), .int .u32 (m.uid : Nat), .int .u32 (m.gid : Nat), .int .i64 (m.size : Nat)] 54))
      clear h1 h2 hr K
      go_enter Tryz.func62, Tryz.ntmps62
      go_wp2_with fail
      refine ((unhide HK) _ (unhide Hb)).mono ?_
      rintro e w2 ⟨rfl, rfl⟩
      cases r
      all_goals
        go_wp2_with fail
        go_ret
        subst hv0
        exact ⟨rfl, unhide Hb⟩

theorem mask7 (n : Nat) (h : n < 65536) : bits .and .u16 (n : Int) 7 = ((n % 8 : Nat) : Int) := by
  have h := bits_mask .u16 16 (by decide) (fun n h0 h1 => by rw [IntKind.wrap_u16]; omega) 3 (by decide) (n : Int) (by omega) (by omega)
  have e : ((2 : Int) ^ 3 - 1) = 7 := rfl
  have e2 : ((2 : Int) ^ 3) = 8 := rfl
  rw [e, e2] at h
  rw [h]
  omega
theorem or3 : ∀ a b c : Fin 8, (bits .and .u16 (bits .or .u16 (bits .or .u16 ((a.val : Nat) : Int) ((b.val : Nat) : Int)) ((c.val : Nat) : Int)) 1 != 0) = (decide (a.val % 2 = 1) || decide (b.val % 2 = 1) || decide (c.val % 2 = 1)) := by decide +kernel
theorem andn1 : ∀ a : Fin 8, (bits .andNot .u16 1 ((a.val : Nat) : Int) == 0) = decide (a.val % 2 = 1) := by decide +kernel
theorem may_any (c : Vf.Cred) (m : Vf.Meta) (A : Option Addr) (n k B : Nat) (w : World) (hg : Rd w B 1 A n (c.groups.map u32v)) (hB : B ≤ w.heap.size) (hn : n ≤ maxLen) (hm : m.mode < 65536) :
    Calls Tryz.prog 40 #[credV c A n k, metaV m, .int .u8 1] w fun e w' => e = .returned (.bool (Vf.mayX c m)) ∧ Below w.heap.size w w' := by
  have Hg := hide hg
  have KC : ∀ w', Below w.heap.size w w' → Calls Tryz.prog 62 #[.agg #[.int .u32 (c.uid : Nat), .int .u32 (c.euid : Nat), .int .u32 (c.suid : Nat), .int .u32 (c.gid : Nat), .slice A n k], .agg #[.int .u8 (m.kind : Nat), .int .u16 (m.mode : Nat), .int .u32 (m.uid : Nat), .int .u32 (m.gid : Nat), .int .i64 (m.size : Nat)]] w' fun e w2 => e = .returned (.int .i64 (Vf.cls c m : Nat)) ∧ Below w'.heap.size w' w2 :=
    fun w' hb => class_any c m A n k B w' (hg.below (hb.mono hB)) (Nat.le_trans hB hb.size) hn
  clear hg
  unfold credV metaV
  obtain ⟨v, hv⟩ : ∃ v, Vf.mayX c m = v := ⟨_, rfl⟩
  have Hv := hide hv
  rw [hv]
  clear hv
  obtain ⟨x0, hx0⟩ : ∃ x0 : Nat, m.mode / 64 % 8 = x0 := ⟨_, rfl⟩
  obtain ⟨x1, hx1⟩ : ∃ x1 : Nat, m.mode / 8 % 8 = x1 := ⟨_, rfl⟩
  obtain ⟨x2, hx2⟩ : ∃ x2 : Nat, m.mode % 8 = x2 := ⟨_, rfl⟩
  have q0 : bits .and .u16 ((m.mode : Nat) / 64 : Int) 7 = ((x0 : Nat) : Int) := by rw [← hx0]; exact mask7 (m.mode / 64) (by omega)
  have q1 : bits .and .u16 ((m.mode : Nat) / 8 : Int) 7 = ((x1 : Nat) : Int) := by rw [← hx1]; exact mask7 (m.mode / 8) (by omega)
  have q2 : bits .and .u16 ((m.mode : Nat) : Int) 7 = ((x2 : Nat) : Int) := by rw [← hx2]; exact mask7 m.mode hm
  have hb0 : Vf.bits m 0 = x0 := by rw [← hx0]; rfl
  have hb1 : Vf.bits m 1 = x1 := by rw [← hx1]; rfl
  have hb2 : Vf.bits m 2 = x2 := by rw [← hx2]; rfl
  have l0 : x0 < 8 := by omega
  have l1 : x1 < 8 := by omega
  have l2 : x2 < 8 := by omega
  have e11 : (bits .and .u8 1 1 == 0) = false := by decide
  have Hb := hide (And.intro hb0 (And.intro hb1 (And.intro hb2 (And.intro l0 (And.intro l1 l2)))))
  have HB3 : Hid (Below w.heap.size w (((w.alloc (.cells #[.int .u32 (c.uid : Nat), .int .u32 (c.euid : Nat), .int .u32 (c.suid : Nat), .int .u32 (c.gid : Nat), .slice A n k] 26)).alloc (.cells #[.int .u8 (m.kind : Nat), .int .u16 (m.mode : Nat), .int .u32 (m.uid : Nat), .int .u32 (m.gid : Nat), .int .i64 (m.size : Nat)] 54)).alloc (.cells #[.int .u16 (x0 : Nat), .int .u16 (x1 : Nat), .int .u16 (x2 : Nat)] 124))) := hide ((((Below.refl w.heap.size w).alloc (Nat.le_refl _) _).alloc (by simp) _).alloc (by simp; omega) _)
  have HKC := hide KC
  clear hx0 hx1 hx2 hb0 hb1 hb2 l0 l1 l2 KC
  by_cases h0 : c.euid = 0
  · have b0 : (((c.euid : Nat) : Int) != 0) = false := by rw [h0]; rfl
    by_cases h1 : m.kind = 2
    · have b1 : (((m.kind : Nat) : Int) == 2) = true := by rw [h1]; rfl
      have hv1 : v = true := by rw [← unhide Hv]; unfold Vf.mayX; rw [if_pos h0, decide_eq_true h1]; rfl
      clear h0 h1
      go_enter Tryz.func40, Tryz.ntmps40
      go_wp2_with fail
      go_ret
      subst hv1
      exact ⟨rfl, unhide HB3⟩
    · have b1 : (((m.kind : Nat) : Int) == 2) = false := by rw [beq_eq_false_iff_ne]; omega
      have hv1 : v = (decide (x0 % 2 = 1) || decide (x1 % 2 = 1) || decide (x2 % 2 = 1)) := by
        rw [← unhide Hv]
        unfold Vf.mayX
        rw [if_pos h0, decide_eq_false h1, (unhide Hb).1, (unhide Hb).2.1, (unhide Hb).2.2.1]
        rfl
      have ho := or3 ⟨x0, (unhide Hb).2.2.2.1⟩ ⟨x1, (unhide Hb).2.2.2.2.1⟩ ⟨x2, (unhide Hb).2.2.2.2.2⟩
      rw [← hv1] at ho
      simp only at ho
      have Ho := hide ho
      clear h0 h1 hv1 ho
      go_enter Tryz.func40, Tryz.ntmps40
      go_wp2_with fail
      go_ret
      rw [unhide Ho]
      exact ⟨rfl, unhide HB3⟩
  · have b0 : (((c.euid : Nat) : Int) != 0) = true := by simp; omega
    have hc3 : Vf.cls c m = 0 ∨ Vf.cls c m = 1 ∨ Vf.cls c m = 2 := by unfold Vf.cls; split; exact .inl rfl; split; exact .inr (.inl rfl); exact .inr (.inr rfl)
    have hv1 : v = decide (Vf.bits m (Vf.cls c m) % 2 = 1) := by rw [← unhide Hv]; unfold Vf.mayX; rw [if_neg h0]
    have K3 := (unhide HKC) _ (unhide HB3)
    rcases hc3 with hc | hc | hc
    · rw [hc] at K3 hv1
      rw [(unhide Hb).1] at hv1
      have ho := andn1 ⟨x0, (unhide Hb).2.2.2.1⟩
      rw [← hv1] at ho
      simp only at ho
      have Ho := hide ho
      have HK3 := hide K3
      clear h0 hv1 ho hc K3
      go_enter Tryz.func40, Tryz.ntmps40
      go_wp2_with fail
      refine (unhide HK3).mono ?_
      rintro e w2 ⟨rfl, hb2⟩
      have bk := (Blk.new _ 124 [.int .u16 (x0 : Nat), .int .u16 (x1 : Nat), .int .u16 (x2 : Nat)]).belowSz hb2
      have v0 : w2.cell? ⟨w.heap.size + 1 + 1, 0, none⟩ = some (.int .u16 (x0 : Nat)) := by have h := bk.cell (i := 0) rfl; simpa using h
      have HB4 := hide ((unhide HB3).trans (hb2.mono (unhide HB3).size))
      clear bk hb2
      go_wp2_with fail
      go_ret
      rw [unhide Ho]
      exact ⟨rfl, unhide HB4⟩
    · rw [hc] at K3 hv1
      rw [(unhide Hb).2.1] at hv1
      have ho := andn1 ⟨x1, (unhide Hb).2.2.2.2.1⟩
      rw [← hv1] at ho
      simp only at ho
      have Ho := hide ho
      have HK3 := hide K3
      clear h0 hv1 ho hc K3
      go_enter Tryz.func40, Tryz.ntmps40
      go_wp2_with fail
      refine (unhide HK3).mono ?_
      rintro e w2 ⟨rfl, hb2⟩
      have bk := (Blk.new _ 124 [.int .u16 (x0 : Nat), .int .u16 (x1 : Nat), .int .u16 (x2 : Nat)]).belowSz hb2
      have v1 : w2.cell? ⟨w.heap.size + 1 + 1, 1, none⟩ = some (.int .u16 (x1 : Nat)) := by have h := bk.cell (i := 1) rfl; simpa using h
      have HB4 := hide ((unhide HB3).trans (hb2.mono (unhide HB3).size))
      clear bk hb2
      go_wp2_with fail
      go_ret
      rw [unhide Ho]
      exact ⟨rfl, unhide HB4⟩
    · rw [hc] at K3 hv1
      rw [(unhide Hb).2.2.1] at hv1
      have ho := andn1 ⟨x2, (unhide Hb).2.2.2.2.2⟩
      rw [← hv1] at ho
      simp only at ho
      have Ho := hide ho
      have HK3 := hide K3
      clear h0 hv1 ho hc K3
      go_enter Tryz.func40, Tryz.ntmps40
      go_wp2_with fail
      refine (unhide HK3).mono ?_
      rintro e w2 ⟨rfl, hb2⟩
      have bk := (Blk.new _ 124 [.int .u16 (x0 : Nat), .int .u16 (x1 : Nat), .int .u16 (x2 : Nat)]).belowSz hb2
      have v2 : w2.cell? ⟨w.heap.size + 1 + 1, 2, none⟩ = some (.int .u16 (x2 : Nat)) := by have h := bk.cell (i := 2) rfl; simpa using h
      have HB4 := hide ((unhide HB3).trans (hb2.mono (unhide HB3).size))
      clear bk hb2
      go_wp2_with fail
      go_ret
      rw [unhide Ho]
      exact ⟨rfl, unhide HB4⟩
end Go.Proofs.YtfegfmapdekkbaaGreatDoor
namespace Go.Proofs.YtfegfmapdekkbaaGreatDoor
set_option linter.unusedVariables false
set_option linter.unusedSimpArgs false
open Go.RowKit

/-- Where the walk stands: its own copies of the two are blocks w.heap.size and the next one. -/
structure CkS (w : World) (c : Vf.Cred) (m : Vf.Meta) (A : Option Addr) (n k B : Nat) (W : World) : Prop where
  b : Below w.heap.size w W
  cb : Blk W w.heap.size 26 [.int .u32 (c.uid : Nat), .int .u32 (c.euid : Nat), .int .u32 (c.suid : Nat), .int .u32 (c.gid : Nat), .slice A n k]
  mb : Blk W (w.heap.size + 1) 54 [.int .u8 (m.kind : Nat), .int .u16 (m.mode : Nat), .int .u32 (m.uid : Nat), .int .u32 (m.gid : Nat), .int .i64 (m.size : Nat)]
  gr : Rd W B 1 A n (c.groups.map u32v)
def ckW (w : World) (c : Vf.Cred) (m : Vf.Meta) (A : Option Addr) (n k : Nat) : World := (w.alloc (.cells #[.int .u32 (c.uid : Nat), .int .u32 (c.euid : Nat), .int .u32 (c.suid : Nat), .int .u32 (c.gid : Nat), .slice A n k] 26)).alloc (.cells #[.int .u8 (m.kind : Nat), .int .u16 (m.mode : Nat), .int .u32 (m.uid : Nat), .int .u32 (m.gid : Nat), .int .i64 (m.size : Nat)] 54)
theorem CkS.new {w : World} {c : Vf.Cred} {m : Vf.Meta} {A : Option Addr} {n k B : Nat} (hg : Rd w B 1 A n (c.groups.map u32v)) (hB : B ≤ w.heap.size) : CkS w c m A n k B (ckW w c m A n k) := by
  have hb : Below w.heap.size w (ckW w c m A n k) := ((Below.refl w.heap.size w).alloc (Nat.le_refl _) _).alloc (by simp) _
  refine ⟨hb, ?_, ?_, hg.below (hb.mono hB)⟩
  · exact (Blk.new w _ [.int .u32 (c.uid : Nat), .int .u32 (c.euid : Nat), .int .u32 (c.suid : Nat), .int .u32 (c.gid : Nat), .slice A n k]).belowSz ((Below.refl _ _).alloc (Nat.le_refl _) _)
  · have h := Blk.new (w.alloc (.cells #[.int .u32 (c.uid : Nat), .int .u32 (c.euid : Nat), .int .u32 (c.suid : Nat), .int .u32 (c.gid : Nat), .slice A n k] 26)) 54 [.int .u8 (m.kind : Nat), .int .u16 (m.mode : Nat), .int .u32 (m.uid : Nat), .int .u32 (m.gid : Nat), .int .i64 (m.size : Nat)]
    rw [World.size_alloc] at h
    exact h

theorem rclass_any (c : Vf.Cred) (m : Vf.Meta) (A : Option Addr) (n k B : Nat) (w : World) (hg : Rd w B 1 A n (c.groups.map u32v)) (hB : B ≤ w.heap.size) (hn : n ≤ maxLen) :
    Calls Tryz.prog 51 #[credV c A n k, metaV m] w fun e w' => e = .returned (.int .i64 (Vf.cls c m : Nat)) ∧ Below w.heap.size w w' := by
  have hgl : c.groups.length = n := by simpa using hg.len1
  have S0 : Hid (CkS w c m A n k B (ckW w c m A n k)) := hide (CkS.new hg hB)
  have Hgl := hide hgl
  unfold maxLen at hn
  unfold credV metaV
  obtain ⟨v, hv⟩ : ∃ v, Vf.cls c m = v := ⟨_, rfl⟩
  have Hv := hide hv
  rw [hv]
  clear hg hgl hv
  by_cases h1 : c.euid = m.uid
  · have b1 : (((c.euid : Nat) : Int) == ((m.uid : Nat) : Int)) = true := by rw [h1]; simp
    have hv0 : v = 0 := by rw [← unhide Hv]; unfold Vf.cls; rw [if_pos h1]
    clear h1
    go_enter Tryz.func51, Tryz.ntmps51
    go_wp2_with fail
    go_ret
    subst hv0
    exact ⟨rfl, (unhide S0).b⟩
  · have b1 : (((c.euid : Nat) : Int) == ((m.uid : Nat) : Int)) = false := by rw [beq_eq_false_iff_ne]; omega
    by_cases h2 : c.gid = m.gid
    · have b2 : (((c.gid : Nat) : Int) == ((m.gid : Nat) : Int)) = true := by rw [h2]; simp
      have hv0 : v = 1 := by rw [← unhide Hv]; unfold Vf.cls; rw [if_neg h1, if_pos (.inl h2)]
      clear h1 h2
      go_enter Tryz.func51, Tryz.ntmps51
      go_wp2_with fail
      go_ret
      subst hv0
      exact ⟨rfl, (unhide S0).b⟩
    · have b2 : (((c.gid : Nat) : Int) == ((m.gid : Nat) : Int)) = false := by rw [beq_eq_false_iff_ne]; omega
      have hv0 : v = if m.gid ∈ c.groups then 1 else 2 := by
        rw [← unhide Hv]
        unfold Vf.cls
        rw [if_neg h1]
        by_cases h3 : m.gid ∈ c.groups
        · rw [if_pos (.inr h3), if_pos h3]
        · rw [if_neg (fun h => h.elim h2 h3), if_neg h3]
      have Hv0 := hide hv0
      clear h1 h2 hv0
      go_enter Tryz.func51, Tryz.ntmps51
      go_wp2_with fail
      go_loopg [5] n (fun gk i wr => ∃ q j : Nat, gk = n - q ∧ q ≤ n ∧ i = .int .i64 q ∧ m.gid ∉ c.groups.take q ∧ wr = (ckW w c m A n k).drewN j)
      case atStart => exact ⟨0, 0, by omega, by omega, rfl, by simp, rfl⟩
      case round =>
      obtain ⟨q, jq, hgq, hq, rfl, hnot, rfl⟩ := hrel
      have Hgq := hide hgq
      have Hnot := hide hnot
      clear hgq hnot
      have v4 := (unhide S0).cb.cell (i := 4) rfl
      have v3 := (unhide S0).mb.cell (i := 3) rfl
      by_cases hlt : q < n
      · have i1 : (q : Int) < (n : Int) := by omega
        have d1 : decide (q < n) = true := by simpa using hlt
        obtain ⟨x, hx⟩ : ∃ x, c.groups[q]? = some x := ⟨_, List.getElem?_eq_getElem (by rw [unhide Hgl]; exact hlt)⟩
        obtain ⟨b3, o3, rfl, _, c3⟩ := (unhide S0).gr.at_ (k := q) (u := .int .u32 (x : Nat)) (by simp [hx, u32v])
        by_cases he : x = m.gid
        · have b3 : (((x : Nat) : Int) == ((m.gid : Nat) : Int)) = true := by rw [he]; simp
          have hin : m.gid ∈ c.groups := by rw [← he]; exact List.mem_of_getElem? hx
          have hv1 : v = 1 := by rw [unhide Hv0, if_pos hin]
          clear he hin hx
          go_wp2_with fail
          go_quiet (fail)
          go_wp2_with fail
          go_ret
          subst hv1
          exact ⟨rfl, below_drewN' (below_drewN' (unhide S0).b _) _⟩
        · have b3 : (((x : Nat) : Int) == ((m.gid : Nat) : Int)) = false := by rw [beq_eq_false_iff_ne]; omega
          have hno : m.gid ∉ c.groups.take (q + 1) := by
            rw [List.take_add_one, hx, List.mem_append]
            rintro (h | h)
            · exact (unhide Hnot) h
            · exact he (show m.gid = x by simpa using h).symm
          have Hno := hide hno
          clear he hno hx
          go_wp2_with fail
          go_quiet (fail)
          go_wp2_with fail
          go_roundg (n - (q + 1))
          case measure => have := unhide Hgq; omega
          case rel => exact ⟨q + 1, jq + nq, rfl, by omega, by go_num, unhide Hno, rfl⟩
      · obtain rfl : q = n := by omega
        have hno := unhide Hnot
        rw [List.take_of_length_le (by have := unhide Hgl; omega)] at hno
        have hv1 : v = 2 := by rw [unhide Hv0, if_neg hno]
        clear hno
        go_wp2_with fail
        go_ret
        subst hv1
        exact ⟨rfl, below_drewN' (unhide S0).b _⟩

theorem nand73 : ∀ a b c : Fin 8, decide ((64 * a.val + 8 * b.val + c.val) &&& 73 = 0) = !(decide (a.val % 2 = 1) || decide (b.val % 2 = 1) || decide (c.val % 2 = 1)) := by decide +kernel
theorem and73 (n : Nat) (h : n < 65536) : (bits .and .u16 (n : Int) 73 != 0) = (decide (n / 64 % 8 % 2 = 1) || decide (n / 8 % 8 % 2 = 1) || decide (n % 8 % 2 = 1)) := by
  have e : (73 : Int) = ((73 : Nat) : Int) := rfl
  have h1 : n &&& 73 = (n % 512) &&& 73 := by
    have h2 : n % 512 = n &&& 511 := (Nat.and_two_pow_sub_one_eq_mod n 9).symm
    rw [h2, Nat.and_assoc]
    rfl
  have h3 := nand73 ⟨n / 64 % 8, by omega⟩ ⟨n / 8 % 8, by omega⟩ ⟨n % 8, by omega⟩
  have h4 : 64 * (n / 64 % 8) + 8 * (n / 8 % 8) + n % 8 = n % 512 := by omega
  simp only [h4] at h3
  rw [e, u16_and_nat n 73 h (by omega), h1]
  have h5 : ((((n % 512 &&& 73 : Nat) : Int) != 0) : Bool) = !decide ((n % 512 &&& 73) = 0) := by
    rw [bne, Bool.not_inj_iff, Bool.eq_iff_iff, beq_iff_eq, decide_eq_true_eq]
    omega
  rw [h5, h3, Bool.not_not]
theorem and1 : ∀ a : Fin 8, (bits .and .u8 ((a.val : Nat) : Int) 1 == 1) = decide (a.val % 2 = 1) := by decide +kernel

set_option maxHeartbeats 1000000 in
theorem rmay_any (c : Vf.Cred) (m : Vf.Meta) (A : Option Addr) (n k B : Nat) (w : World) (hg : Rd w B 1 A n (c.groups.map u32v)) (hB : B ≤ w.heap.size) (hn : n ≤ maxLen) (hm : m.mode < 65536) :
    Calls Tryz.prog 26 #[credV c A n k, metaV m, .int .u8 1] w fun e w' => e = .returned (.bool (Vf.mayX c m)) ∧ Below w.heap.size w w' := by
  have S0 : Hid (CkS w c m A n k B (ckW w c m A n k)) := hide (CkS.new hg hB)
  have KC : ∀ w', Below w.heap.size w w' → Calls Tryz.prog 51 #[.agg #[.int .u32 (c.uid : Nat), .int .u32 (c.euid : Nat), .int .u32 (c.suid : Nat), .int .u32 (c.gid : Nat), .slice A n k], .agg #[.int .u8 (m.kind : Nat), .int .u16 (m.mode : Nat), .int .u32 (m.uid : Nat), .int .u32 (m.gid : Nat), .int .i64 (m.size : Nat)]] w' fun e w2 => e = .returned (.int .i64 (Vf.cls c m : Nat)) ∧ Below w'.heap.size w' w2 :=
    fun w' hb => rclass_any c m A n k B w' (hg.below (hb.mono hB)) (Nat.le_trans hB hb.size) hn
  have HKC := hide KC
  clear hg KC
  unfold credV metaV
  obtain ⟨v, hv⟩ : ∃ v, Vf.mayX c m = v := ⟨_, rfl⟩
  have Hv := hide hv
  rw [hv]
  clear hv
  by_cases h0 : c.euid = 0
  · have b0 : (((c.euid : Nat) : Int) == 0) = true := by rw [h0]; rfl
    have e11 : (bits .and .u8 1 1 == 0) = false := by decide
    by_cases h1 : m.kind = 2
    · have b1 : (((m.kind : Nat) : Int) == 2) = true := by rw [h1]; rfl
      have hv1 : v = true := by rw [← unhide Hv]; unfold Vf.mayX; rw [if_pos h0, decide_eq_true h1]; rfl
      clear h0 h1
      go_enter Tryz.func26, Tryz.ntmps26
      go_wp2_with fail
      go_ret
      subst hv1
      exact ⟨rfl, (unhide S0).b⟩
    · have b1 : (((m.kind : Nat) : Int) == 2) = false := by rw [beq_eq_false_iff_ne]; omega
      have q : (bits .and .u16 ((m.mode : Nat) : Int) 73 != 0) = v := by
        rw [and73 m.mode hm, ← unhide Hv]
        unfold Vf.mayX
        rw [if_pos h0, decide_eq_false h1]
        rfl
      clear h0 h1
      go_enter Tryz.func26, Tryz.ntmps26
      go_wp2_with fail
      go_ret
      exact ⟨rfl, (unhide S0).b⟩
  · have b0 : (((c.euid : Nat) : Int) == 0) = false := by rw [beq_eq_false_iff_ne]; omega
    have q2 := mask7 m.mode hm
    have T0 : Hid ((bits .and .u8 ((m.mode : Int) / 64 % 8) 1 == 1) = decide (m.mode / 64 % 8 % 2 = 1)) := hide (and1 ⟨m.mode / 64 % 8, Nat.mod_lt _ (by decide)⟩)
    have T1 : Hid ((bits .and .u8 ((m.mode : Int) / 8 % 8) 1 == 1) = decide (m.mode / 8 % 8 % 2 = 1)) := hide (and1 ⟨m.mode / 8 % 8, Nat.mod_lt _ (by decide)⟩)
    have T2 : Hid ((bits .and .u8 ((m.mode : Int) % 8) 1 == 1) = decide (m.mode % 8 % 2 = 1)) := hide (and1 ⟨m.mode % 8, Nat.mod_lt _ (by decide)⟩)
    have hc3 : Vf.cls c m = 0 ∨ Vf.cls c m = 1 ∨ Vf.cls c m = 2 := by unfold Vf.cls; split; exact .inl rfl; split; exact .inr (.inl rfl); exact .inr (.inr rfl)
    have hv1 : v = decide (Vf.bits m (Vf.cls c m) % 2 = 1) := by rw [← unhide Hv]; unfold Vf.mayX; rw [if_neg h0]
    clear h0
    rcases hc3 with hc | hc | hc
    all_goals
      rw [hc] at HKC hv1
      have Hv1 := hide hv1
      clear hc hv1
      go_enter Tryz.func26, Tryz.ntmps26
      go_wp2_with fail
      refine ((unhide HKC) _ (unhide S0).b).mono ?_
      rintro e w2 ⟨rfl, hb2⟩
      have S2 : Hid (Below w.heap.size w w2 ∧ Blk w2 w.heap.size 26 [.int .u32 (c.uid : Nat), .int .u32 (c.euid : Nat), .int .u32 (c.suid : Nat), .int .u32 (c.gid : Nat), .slice A n k] ∧ Blk w2 (w.heap.size + 1) 54 [.int .u8 (m.kind : Nat), .int .u16 (m.mode : Nat), .int .u32 (m.uid : Nat), .int .u32 (m.gid : Nat), .int .i64 (m.size : Nat)]) := hide ⟨(unhide S0).b.trans (hb2.mono (unhide S0).b.size), (unhide S0).cb.belowSz hb2, (unhide S0).mb.belowSz hb2⟩
      obtain ⟨x0, x1, x2, x3, x4⟩ : w2.cell? ⟨w.heap.size, 0, none⟩ = some (.int .u32 (c.uid : Nat)) ∧ w2.cell? ⟨w.heap.size, 1, none⟩ = some (.int .u32 (c.euid : Nat)) ∧ w2.cell? ⟨w.heap.size, 2, none⟩ = some (.int .u32 (c.suid : Nat)) ∧ w2.cell? ⟨w.heap.size, 3, none⟩ = some (.int .u32 (c.gid : Nat)) ∧ w2.cell? ⟨w.heap.size, 4, none⟩ = some (.slice A n k) := ⟨(unhide S2).2.1.cell rfl, (unhide S2).2.1.cell rfl, (unhide S2).2.1.cell rfl, (unhide S2).2.1.cell rfl, (unhide S2).2.1.cell rfl⟩
      obtain ⟨y0, y1, y2, y3, y4⟩ : w2.cell? ⟨w.heap.size + 1, 0, none⟩ = some (.int .u8 (m.kind : Nat)) ∧ w2.cell? ⟨w.heap.size + 1, 1, none⟩ = some (.int .u16 (m.mode : Nat)) ∧ w2.cell? ⟨w.heap.size + 1, 2, none⟩ = some (.int .u32 (m.uid : Nat)) ∧ w2.cell? ⟨w.heap.size + 1, 3, none⟩ = some (.int .u32 (m.gid : Nat)) ∧ w2.cell? ⟨w.heap.size + 1, 4, none⟩ = some (.int .i64 (m.size : Nat)) := ⟨(unhide S2).2.2.cell rfl, (unhide S2).2.2.cell rfl, (unhide S2).2.2.cell rfl, (unhide S2).2.2.cell rfl, (unhide S2).2.2.cell rfl⟩
      clear hb2
      go_wp2_with fail
      refine ((unhide HKC) _ (unhide S2).1).mono ?_
      rintro e w3 ⟨rfl, hb3⟩
      have z1 : w3.cell? ⟨w.heap.size + 1, 1, none⟩ = some (.int .u16 (m.mode : Nat)) := ((unhide S2).2.2.belowSz hb3).cell rfl
      have HB3 := hide ((unhide S2).1.trans (hb3.mono (unhide S2).1.size))
      clear hb3 x0 x1 x2 x3 x4 y0 y1 y2 y3 y4
      go_wp2_with fail
      go_ret
      refine ⟨ret_bool ?_, unhide HB3⟩
      rw [unhide Hv1]
      unfold Vf.bits
      first | rw [unhide T0] | rw [unhide T1] | rw [unhide T2]
      rfl
end Go.Proofs.YtfegfmapdekkbaaGreatDoor
namespace Go.Proofs.YtfegfmapdekkbaaGreatDoor
set_option linter.unusedVariables false
set_option linter.unusedSimpArgs false
open Go.RowKit

/-- Block g is a map with just these entries, in their order; no key stands twice. -/
structure MapG (w : World) (g : Nat) (d : TypeDesc) (m : List (Value × Value)) : Prop where
  there : ∃ es clk, w.heap[g]? = some (.map es clk) ∧ es.toList.map (fun e => (e.key, e.val)) = m
  keys : ∀ p ∈ m, Go.MapKept.IsKey d p.1
  once : m.Pairwise (fun p q => p.1 ≠ q.1)

section
variable {P : Program} {t kt e : TypeId} {d : TypeDesc} {w : World} {g : Nat} {m : List (Value × Value)} {x v : Value}
theorem findG_no (hx : Go.MapKept.IsKey d x) : ∀ (es : List MapEntry) (m : List (Value × Value)) (i : Nat), es.map (fun e => (e.key, e.val)) = m → (∀ p ∈ m, Go.MapKept.IsKey d p.1) → (∀ p ∈ m, p.1 ≠ x) → Instr.findNow d x es i = some none := by
  intro es
  induction es with
  | nil => intro m i h hk hn; rfl
  | cons e es ih =>
    intro m i h hk hn
    subst h
    simp only [List.map_cons, List.mem_cons, forall_eq_or_imp] at hk hn
    obtain ⟨r, hr, hiff⟩ := Go.MapKept.sameNow_of_keys hx hk.1
    have hrf : r = false := by
      cases r with
      | false => rfl
      | true => exact absurd (hiff.1 rfl).symm hn.1
    unfold Instr.findNow
    rw [hr, hrf]
    exact ih _ _ rfl hk.2 hn.2
theorem findG_yes (hx : Go.MapKept.IsKey d x) : ∀ (es : List MapEntry) (m : List (Value × Value)) (i : Nat), es.map (fun e => (e.key, e.val)) = m → (∀ p ∈ m, Go.MapKept.IsKey d p.1) → m.Pairwise (fun p q => p.1 ≠ q.1) → (x, v) ∈ m → ∃ j, Instr.findNow d x es i = some (some (j, v)) := by
  intro es
  induction es with
  | nil => intro m i h hk hp hm; subst h; cases hm
  | cons e es ih =>
    intro m i h hk hp hm
    subst h
    simp only [List.map_cons, List.mem_cons, forall_eq_or_imp] at hk hm
    rw [List.map_cons, List.pairwise_cons] at hp
    obtain ⟨r, hr, hiff⟩ := Go.MapKept.sameNow_of_keys hx hk.1
    unfold Instr.findNow
    rw [hr]
    rcases hm with hm | hm
    · injection hm with h1 h2
      rw [hiff.2 h1]
      exact ⟨i, by rw [h2]⟩
    · have hrf : r = false := by
        cases r with
        | false => rfl
        | true => exact absurd (hiff.1 rfl).symm (hp.1 _ hm)
      rw [hrf]
      exact ih _ _ rfl hk.2 hp.2 hm
theorem run_putG (ht : P.underlying t = some (.map kt e)) (hk : P.underlying kt = some d) (hik : Go.MapKept.IsKey d x) (h : MapG w g d m) (hx : ∀ p ∈ m, p.1 ≠ x) :
    ∃ w', (Instr.mapUpdate t (.map (some g)) x v).run P w = .ok () w' ∧ MapG w' g d (m ++ [(x, v)]) ∧ w.grownBy w' (some g) ∧ w'.heap.size = w.heap.size := by
  obtain ⟨⟨es, clk, hg, hm⟩, hks, hone⟩ := h
  have hr := findG_no hik es.toList m 0 hm hks hx
  have hlt : g < w.heap.size := (Array.getElem?_eq_some_iff.1 hg).1
  refine ⟨{ w with heap := w.heap.setIfInBounds g (.map (es.push { key := x, val := v, born := clk }) (clk + 1)) }, ?_, ⟨?_, ?_, ?_⟩, ?_, by simp⟩
  · simp [Instr.mapUpdate, run_underlying ht, Go.MapKept.run_getObj_map hg, Go.MapKept.run_checkKey hk hik, Go.MapKept.run_findKey hk hr, Go.MapKept.run_setObj_map _ hg, Result.andThen]
  · refine ⟨_, _, (Go.MapKept.heap_set hg).1, ?_⟩
    simp [hm]
  · intro p hp
    rcases List.mem_append.1 hp with hp | hp
    · exact hks p hp
    · rw [List.mem_singleton] at hp
      subst hp
      exact hik
  · rw [List.pairwise_append]
    refine ⟨hone, by simp, fun a ha b hb => ?_⟩
    rw [List.mem_singleton] at hb
    subst hb
    exact hx a ha
  · exact ⟨rfl, rfl, rfl, by simp, fun i _ hi => (Go.MapKept.heap_set hg).2 i (fun e => hi (by rw [e]))⟩
theorem run_lookG_yes (ht : P.underlying t = some (.map kt e)) (hk : P.underlying kt = some d) (hik : Go.MapKept.IsKey d x) (h : MapG w g d m) (hx : (x, v) ∈ m) :
    (Instr.lookup t (.map (some g)) x true).run P w = .ok (.tuple #[v, .bool true]) w ∧ (Instr.lookup t (.map (some g)) x false).run P w = .ok v w := by
  obtain ⟨⟨es, clk, hg, hm⟩, hks, hone⟩ := h
  obtain ⟨j, hr⟩ := findG_yes hik es.toList m 0 hm hks hone hx
  constructor <;> simp [Instr.lookup, run_underlying ht, Go.MapKept.run_getObj_map hg, Go.MapKept.run_checkKey hk hik, Go.MapKept.run_findKey hk hr, Result.andThen]
theorem run_lookG_no (ht : P.underlying t = some (.map kt e)) (hk : P.underlying kt = some d) (hik : Go.MapKept.IsKey d x) {z : Value} (hz : (zeroValue e).run P w = .ok z w) (h : MapG w g d m) (hx : ∀ p ∈ m, p.1 ≠ x) :
    (Instr.lookup t (.map (some g)) x true).run P w = .ok (.tuple #[z, .bool false]) w ∧ (Instr.lookup t (.map (some g)) x false).run P w = .ok z w := by
  obtain ⟨⟨es, clk, hg, hm⟩, hks, hone⟩ := h
  have hr := findG_no hik es.toList m 0 hm hks hx
  constructor <;> simp [Instr.lookup, run_underlying ht, Go.MapKept.run_getObj_map hg, Go.MapKept.run_checkKey hk hik, Go.MapKept.run_findKey hk hr, hz, Result.andThen]
theorem MapG.nil (w : World) (d : TypeDesc) : MapG (w.alloc (.map #[] 0)) w.heap.size d [] := ⟨⟨#[], 0, heap_alloc_new _ _, rfl⟩, by simp, by simp⟩
theorem MapG.keep {w' : World} (h : MapG w g d m) (hk : w'.heap[g]? = w.heap[g]?) : MapG w' g d m := by
  obtain ⟨⟨es, clk, hg, hm⟩, hks, hone⟩ := h
  exact ⟨⟨es, clk, hk.trans hg, hm⟩, hks, hone⟩
theorem MapG.lt (h : MapG w g d m) : g < w.heap.size := by
  obtain ⟨⟨es, clk, hg, hm⟩, hks, hone⟩ := h
  exact (Array.getElem?_eq_some_iff.1 hg).1
theorem MapG.below {w' : World} {B : Nat} (h : MapG w g d m) (hb : Below B w w') (hg : g < B) : MapG w' g d m := h.keep (hb.block g hg)
theorem MapG.belowSz {w' : World} (h : MapG w g d m) (hb : Below w.heap.size w w') : MapG w' g d m := h.below hb h.lt

/-- 'm[x] = v' of a new key at the operation (a map literal). -/
theorem wpList_putG {ops : Array Oper} {rest : List Oper} {o : Oper} {a : Act} {Q : Exit → Act → World → Prop} (hgd : o.guard = none) (mo xo vo : Operand) (ho : o.op = .insert t mo xo vo)
    (ht : P.underlying t = some (.map kt e)) (hk : P.underlying kt = some d) (hik : Go.MapKept.IsKey d x) (hmo : a.eval mo = .map (some g)) (hxo : a.eval xo = x) (hvo : a.eval vo = v) (h : MapG w g d m) (hx : ∀ p ∈ m, p.1 ≠ x)
    (hK : ∀ w', MapG w' g d (m ++ [(x, v)]) → w.grownBy w' (some g) → w'.heap.size = w.heap.size → wpList P ops Q rest (a.put o.dst undef) w') : wpList P ops Q (o :: rest) a w := by
  obtain ⟨w', hrun, h1, h2, h3⟩ := run_putG (v := v) ht hk hik h hx
  refine wpList_plain hgd fun K hK' => ?_
  unfold Oper.wp
  simp [execOp, ho, hmo, hxo, hvo, hrun, Result.andThen]
  exact hK' _ _ (hK w' h1 h2 h3)
end
end Go.Proofs.YtfegfmapdekkbaaGreatDoor
namespace Go.Proofs.YtfegfmapdekkbaaGreatDoor
set_option linter.unusedVariables false
set_option linter.unusedSimpArgs false
open Go.RowKit

/-- Where a node lies: its block; a directory's map, a file's bytes. -/
structure Pl where
  q : Nat
  g : Nat
  A : Option Addr
  n : Nat
  c : Nat
def ptrV (q : Nat) : Value := .pointer (some ⟨q, 0, none⟩)
def kindT (k : Nat) : TypeId := if k = 2 then 52 else if k = 1 then 92 else 95
def blkT (k : Nat) : TypeId := if k = 2 then 59 else if k = 1 then 94 else 97
/-- A node as an interface's value. -/
def ndV (x : Vf.Nd) (p : Pl) : Value := .iface (kindT x.m.kind) (ptrV p.q)
def lastV (x : Vf.Nd) (p : Pl) : Value := if x.m.kind = 2 then .map (some p.g) else if x.m.kind = 1 then .slice p.A p.n p.c else .string x.to
/-- A node's cells: up is the block of its directory. -/
def ndC (x : Vf.Nd) (i up : Nat) (p : Pl) : List Value := [.int .u8 (x.m.kind : Nat), .int .u16 (x.m.mode : Nat), .int .u32 (x.m.uid : Nat), .int .u32 (x.m.gid : Nat), .int .i64 (x.m.size : Nat), .int .i64 (i : Nat), ptrV up, .string x.name, lastV x p]
/-- A directory's entries, in the order of their numbers. -/
def kidsM (F : List Vf.Nd) (L : List Pl) (d : Nat) : List (Value × Value) := ((F.zip L).drop 1).filterMap fun y => if y.1.up = d then some (.string y.1.name, ndV y.1 y.2) else none
/-- A file system that can be read: F its nodes, L where they lie, f its own block; all below B. -/
structure FsR (w : World) (B f : Nat) (A : Option Addr) (c : Nat) (F : List Vf.Nd) (L : List Pl) : Prop where
  len : L.length = F.length
  lt : f < B
  fs : Blk w f 62 [.slice A F.length c]
  row : Rd w B 1 A F.length ((F.zip L).map fun y => ndV y.1 y.2)
  nd : ∀ (i : Nat) (x : Vf.Nd) (p : Pl), F[i]? = some x → L[i]? = some p → p.q < B ∧ ∃ u, L[x.up]? = some u ∧ Blk w p.q (blkT x.m.kind) (ndC x i u.q p)
  byt : ∀ (i : Nat) (x : Vf.Nd) (p : Pl), F[i]? = some x → L[i]? = some p → x.m.kind = 1 → p.n = x.data.length ∧ Rd w B 1 p.A p.n (x.data.map fun b => Value.int .u8 (b.toNat : Nat))
theorem FsR.at_ {w : World} {B f : Nat} {A : Option Addr} {c : Nat} {F : List Vf.Nd} {L : List Pl} (h : FsR w B f A c F L) {i : Nat} (hi : i < F.length) : ∃ x p, F[i]? = some x ∧ L[i]? = some p ∧ ((F.zip L).map fun y => ndV y.1 y.2)[i]? = some (ndV x p) := by
  have hl : i < L.length := by rw [h.len]; exact hi
  refine ⟨F[i], L[i], List.getElem?_eq_getElem hi, List.getElem?_eq_getElem hl, ?_⟩
  rw [List.getElem?_map, List.getElem?_eq_getElem (by rw [List.length_zip]; omega), List.getElem_zip]
  rfl
theorem FsR.drewN {w : World} {B f : Nat} {A : Option Addr} {c : Nat} {F : List Vf.Nd} {L : List Pl} (h : FsR w B f A c F L) (j : Nat) : FsR (w.drewN j) B f A c F L := ⟨h.len, h.lt, h.fs, h.row.drewN j, h.nd, fun i x p h1 h2 h3 => ⟨(h.byt i x p h1 h2 h3).1, (h.byt i x p h1 h2 h3).2.drewN j⟩⟩
theorem FsR.below {w w' : World} {B f : Nat} {A : Option Addr} {c : Nat} {F : List Vf.Nd} {L : List Pl} (h : FsR w B f A c F L) (hb : Below B w w') : FsR w' B f A c F L :=
  ⟨h.len, h.lt, h.fs.below hb h.lt, h.row.below hb, fun i x p h1 h2 => by
    obtain ⟨a, u, b, d⟩ := h.nd i x p h1 h2
    exact ⟨a, u, b, d.below hb a⟩, fun i x p h1 h2 h3 => ⟨(h.byt i x p h1 h2 h3).1, (h.byt i x p h1 h2 h3).2.below hb⟩⟩
/-- What node answers. -/
def nodeV (F : List Vf.Nd) (L : List Pl) (ino : Int) : Value := if ino < 0 ∨ F.length ≤ ino.toNat then .nilIface else ((F.zip L).map fun y => ndV y.1 y.2)[ino.toNat]?.getD .nilIface

theorem node_any (F : List Vf.Nd) (L : List Pl) (f c B : Nat) (A : Option Addr) (ino : Int) (w : World) (h : FsR w B f A c F L) (hn : F.length ≤ 65) :
    Calls Tryz.prog 59 #[ptrV f, .int .i64 ino] w fun e w' => e = .returned (nodeV F L ino) ∧ w = w' := by
  have H := hide h
  have v0 := h.fs.cell (i := 0) rfl
  obtain ⟨n, hfn⟩ : ∃ n, F.length = n := ⟨_, rfl⟩
  rw [hfn] at v0 hn
  have Hfn := hide hfn
  clear h hfn
  unfold ptrV
  obtain ⟨r, hr⟩ : ∃ r, nodeV F L ino = r := ⟨_, rfl⟩
  rw [hr]
  have Hr := hide hr
  clear hr
  by_cases h0 : ino < 0
  · have hr : r = .nilIface := by rw [← unhide Hr]; unfold nodeV; rw [if_pos (.inl h0)]
    go_enter Tryz.func59, Tryz.ntmps59
    go_wp2_with fail
    go_ret
    subst hr
    exact ⟨rfl, rfl⟩
  · obtain ⟨i, rfl⟩ := Int.eq_ofNat_of_zero_le (show 0 ≤ ino by omega)
    by_cases h1 : i < n
    · obtain ⟨x, p, hx, hp, hv⟩ := (unhide H).at_ (i := i) (by rw [unhide Hfn]; exact h1)
      have hr : r = ndV x p := by
        rw [← unhide Hr]
        unfold nodeV
        rw [if_neg (by rw [unhide Hfn]; simp; omega)]
        simp only [Int.toNat_natCast]
        rw [hv]
        rfl
      obtain ⟨b3, o3, rfl, _, c3⟩ := (unhide H).row.at_ (k := i) hv
      have i1 : (i : Int) < (n : Int) := by omega
      have i2 : ¬ (n : Int) ≤ (i : Int) := by omega
      clear hx hp hv
      rw [hr]
      generalize ndV x p = z at *
      clear hr Hr
      go_enter Tryz.func59, Tryz.ntmps59
      go_wp2_with fail
      go_ret
      exact ⟨rfl, rfl⟩
    · have hr : r = .nilIface := by rw [← unhide Hr]; unfold nodeV; rw [if_pos (.inr (by rw [unhide Hfn]; simp; omega))]
      have i2 : (n : Int) ≤ (i : Int) := by omega
      go_enter Tryz.func59, Tryz.ntmps59
      go_wp2_with fail
      go_ret
      subst hr
      exact ⟨rfl, rfl⟩
end Go.Proofs.YtfegfmapdekkbaaGreatDoor
namespace Go.Proofs.YtfegfmapdekkbaaGreatDoor
set_option linter.unusedVariables false
set_option linter.unusedSimpArgs false
open Go.RowKit

/-- 'n.about()' through the interface: the base's own method, whatever the node (258: the table's types and Made.depth). -/
theorem about_dir (w : World) (q : Nat) : (method 258 52 (.pointer (some ⟨q, 0, none⟩)) "hostel/vfs.about").run Tryz.prog w = .ok (126, .pointer (some ⟨q, 0, none⟩)) w := by kernel_rfl
theorem about_file (w : World) (q : Nat) : (method 258 92 (.pointer (some ⟨q, 0, none⟩)) "hostel/vfs.about").run Tryz.prog w = .ok (126, .pointer (some ⟨q, 0, none⟩)) w := by kernel_rfl
theorem about_link (w : World) (q : Nat) : (method 258 95 (.pointer (some ⟨q, 0, none⟩)) "hostel/vfs.about").run Tryz.prog w = .ok (126, .pointer (some ⟨q, 0, none⟩)) w := by kernel_rfl
theorem about_any (a : Addr) (w : World) : Calls Tryz.prog 126 #[.pointer (some a)] w fun e w' => e = .returned (.pointer (some a)) ∧ w = w' := by
  go_enter Tryz.func126, Tryz.ntmps126
  go_wp2_with fail
  go_ret
  exact ⟨rfl, rfl⟩
theorem ndCells {w : World} {x : Vf.Nd} {i up : Nat} {p : Pl} {t : TypeId} (h : Blk w p.q t (ndC x i up p)) : w.cell? ⟨p.q, 0, none⟩ = some (.int .u8 (x.m.kind : Nat)) ∧ w.cell? ⟨p.q, 1, none⟩ = some (.int .u16 (x.m.mode : Nat)) ∧ w.cell? ⟨p.q, 2, none⟩ = some (.int .u32 (x.m.uid : Nat)) ∧ w.cell? ⟨p.q, 3, none⟩ = some (.int .u32 (x.m.gid : Nat)) ∧ w.cell? ⟨p.q, 4, none⟩ = some (.int .i64 (x.m.size : Nat)) :=
  ⟨h.cell rfl, h.cell rfl, h.cell rfl, h.cell rfl, h.cell rfl⟩
theorem metaInfo : (Tryz.prog.info? 54).map (·.size) = some 5 := by kernel_rfl
theorem meta_nil (ino : Int) (w : World) : Calls Tryz.prog 39 #[.pointer none, .int .i64 ino] w fun e w' => e = .returned (.tuple #[metaV Vf.zeroMeta, .int .i64 2]) ∧ Below w.heap.size w w' := by
  go_enter Tryz.func39, Tryz.ntmps39
  go_wp2_with fail
  refine bodyPost_ret (results_cell_tmp (P := Tryz.prog) rfl _ _ w.heap.size 54 #[.int .u8 0, .int .u16 0, .int .u32 0, .int .u32 0, .int .i64 0] (0, 0) _ rfl (heap_alloc_new _ _) Tryz.underlying54 rfl metaInfo) rfl ?_
  exact ⟨rfl, (Below.refl w.heap.size w).alloc (Nat.le_refl _) _⟩
set_option maxRecDepth 100000 in
theorem meta_any (F : List Vf.Nd) (L : List Pl) (f c B : Nat) (A : Option Addr) (ino : Int) (w : World) (h : FsR w B f A c F L) (hB : B ≤ w.heap.size) (hn : F.length ≤ 65) (hkd : ∀ (i : Nat) (x : Vf.Nd), F[i]? = some x → 1 ≤ x.m.kind ∧ x.m.kind ≤ 3) :
    Calls Tryz.prog 39 #[ptrV f, .int .i64 ino] w fun e w' => e = .returned (.tuple #[metaV (Vf.metaOf F ino).1, .int .i64 (Vf.metaOf F ino).2]) ∧ Below w.heap.size w w' := by
  have K : ∀ w', Below w.heap.size w w' → Calls Tryz.prog 59 #[.pointer (some ⟨f, 0, none⟩), .int .i64 ino] w' fun e w2 => e = .returned (nodeV F L ino) ∧ w' = w2 :=
    fun w' hb => node_any F L f c B A ino w' (h.below (hb.mono hB)) hn
  obtain ⟨⟨rm, re⟩, hr⟩ : ∃ r, Vf.metaOf F ino = r := ⟨_, rfl⟩
  rw [hr]
  dsimp only
  have Hr := hide hr
  clear hr
  have HK := hide K
  have H := hide h
  clear h K
  unfold ptrV
  have qn : ∀ w', (binOp .eql 89 .nilIface .nilIface).run Tryz.prog w' = .ok (.bool true) w' := fun w' => by kernel_rfl
  have qi : ∀ w' t v, (binOp .eql 89 (.iface t v) .nilIface).run Tryz.prog w' = .ok (.bool false) w' := fun w' t v => by kernel_rfl
  have HB := hide ((Below.refl w.heap.size w).alloc (Nat.le_refl _) (.cells #[.int .u8 0, .int .u16 0, .int .u32 0, .int .u32 0, .int .i64 0] 54))
  go_enter Tryz.func39, Tryz.ntmps39
  go_wp2_with fail
  refine ((unhide HK) _ (unhide HB)).mono ?_
  rintro e w2 ⟨rfl, rfl⟩
  by_cases ho : ino < 0 ∨ F.length ≤ ino.toNat
  · have e1 : nodeV F L ino = .nilIface := by unfold nodeV; rw [if_pos ho]
    have e2 : Vf.metaOf F ino = (Vf.zeroMeta, 3) := by unfold Vf.metaOf; rw [if_pos ho]
    rw [e1]
    obtain ⟨rfl, rfl⟩ := Prod.mk.inj ((unhide Hr).symm.trans e2)
    clear e1 e2 ho
    go_wp2_with fail
    refine bodyPost_ret (results_cell_tmp (P := Tryz.prog) rfl _ _ w.heap.size 54 #[.int .u8 0, .int .u16 0, .int .u32 0, .int .u32 0, .int .i64 0] (0, 0) _ rfl (heap_alloc_new _ _) Tryz.underlying54 rfl metaInfo) rfl ?_
    exact ⟨rfl, unhide HB⟩
  · obtain ⟨i, rfl⟩ := Int.eq_ofNat_of_zero_le (show 0 ≤ ino by omega)
    have hi : i < F.length := by simp at ho; omega
    obtain ⟨x, p, hx, hp, hv⟩ := (unhide H).at_ hi
    obtain ⟨hq, u, hu, hk⟩ := (unhide H).nd i x p hx hp
    have e1 : nodeV F L (i : Nat) = ndV x p := by
      unfold nodeV
      rw [if_neg ho]
      simp only [Int.toNat_natCast]
      rw [hv]
      rfl
    have e2 : Vf.metaOf F (i : Nat) = (x.m, 0) := by
      unfold Vf.metaOf Vf.nd
      rw [if_neg ho]
      simp only [Int.toNat_natCast]
      rw [hx]
      rfl
    rw [e1]
    obtain ⟨rfl, rfl⟩ := Prod.mk.inj ((unhide Hr).symm.trans e2)
    unfold ndV ptrV
    clear e1 e2 ho
    obtain ⟨k1, k3⟩ : 1 ≤ x.m.kind ∧ x.m.kind ≤ 3 := hkd i x hx
    rcases (show x.m.kind = 1 ∨ x.m.kind = 2 ∨ x.m.kind = 3 by omega) with h1 | h1 | h1
    · have et : kindT x.m.kind = 92 := by rw [h1]; rfl
      rw [et]
      have hm := fun w' => about_file w' p.q
      have hk2 := hk.below ((unhide HB).mono hB) hq
      obtain ⟨y0, y1, y2, y3, y4⟩ := ndCells hk2
      have Hn := hide h1
      clear hk hk2 et h1 k1 k3 hx hp hu hv hi
      go_wp2_with fail
      refine (about_any _ _).mono ?_
      rintro e w3 ⟨rfl, rfl⟩
      go_wp2_with fail
      refine bodyPost_ret (results_cell_tmp (P := Tryz.prog) rfl _ _ w.heap.size 54 #[.int .u8 (x.m.kind : Nat), .int .u16 (x.m.mode : Nat), .int .u32 (x.m.uid : Nat), .int .u32 (x.m.gid : Nat), .int .i64 (x.m.size : Nat)] (0, 0) _ rfl (heap_alloc_new _ _) Tryz.underlying54 rfl metaInfo) rfl ?_
      exact ⟨rfl, (Below.refl w.heap.size w).alloc (Nat.le_refl _) _⟩
    · have et : kindT x.m.kind = 52 := by rw [h1]; rfl
      rw [et]
      have hm := fun w' => about_dir w' p.q
      have hk2 := hk.below ((unhide HB).mono hB) hq
      obtain ⟨y0, y1, y2, y3, y4⟩ := ndCells hk2
      have Hn := hide h1
      clear hk hk2 et h1 k1 k3 hx hp hu hv hi
      go_wp2_with fail
      refine (about_any _ _).mono ?_
      rintro e w3 ⟨rfl, rfl⟩
      go_wp2_with fail
      refine bodyPost_ret (results_cell_tmp (P := Tryz.prog) rfl _ _ w.heap.size 54 #[.int .u8 (x.m.kind : Nat), .int .u16 (x.m.mode : Nat), .int .u32 (x.m.uid : Nat), .int .u32 (x.m.gid : Nat), .int .i64 (x.m.size : Nat)] (0, 0) _ rfl (heap_alloc_new _ _) Tryz.underlying54 rfl metaInfo) rfl ?_
      exact ⟨rfl, (Below.refl w.heap.size w).alloc (Nat.le_refl _) _⟩
    · have et : kindT x.m.kind = 95 := by rw [h1]; rfl
      rw [et]
      have hm := fun w' => about_link w' p.q
      have hk2 := hk.below ((unhide HB).mono hB) hq
      obtain ⟨y0, y1, y2, y3, y4⟩ := ndCells hk2
      have Hn := hide h1
      clear hk hk2 et h1 k1 k3 hx hp hu hv hi
      go_wp2_with fail
      refine (about_any _ _).mono ?_
      rintro e w3 ⟨rfl, rfl⟩
      go_wp2_with fail
      refine bodyPost_ret (results_cell_tmp (P := Tryz.prog) rfl _ _ w.heap.size 54 #[.int .u8 (x.m.kind : Nat), .int .u16 (x.m.mode : Nat), .int .u32 (x.m.uid : Nat), .int .u32 (x.m.gid : Nat), .int .i64 (x.m.size : Nat)] (0, 0) _ rfl (heap_alloc_new _ _) Tryz.underlying54 rfl metaInfo) rfl ?_
      exact ⟨rfl, (Below.refl w.heap.size w).alloc (Nat.le_refl _) _⟩
end Go.Proofs.YtfegfmapdekkbaaGreatDoor
namespace Go.Proofs.YtfegfmapdekkbaaGreatDoor
set_option linter.unusedVariables false
set_option linter.unusedSimpArgs false
open Go.RowKit

theorem walk_nil (c : Vf.Cred) (A : Option Addr) (n k : Nat) (src : Int) (path : ByteArray) (last : Bool) (w : World) : Calls Tryz.prog 38 #[.pointer none, credV c A n k, .int .i64 src, .string path, .bool last] w fun e w' => e = .returned (.tuple #[.int .i64 0, .int .i64 2]) ∧ Below w.heap.size w w' := by
  unfold credV
  go_enter Tryz.func38, Tryz.ntmps38
  go_wp2_with fail
  go_ret2
  exact ⟨rfl, (Below.refl _ _).alloc (Nat.le_refl _) _⟩
theorem read_nil (ino off n : Int) (w : World) : Calls Tryz.prog 41 #[.pointer none, .int .i64 ino, .int .i64 off, .int .i64 n] w fun e w' => e = .returned (.tuple #[.slice none 0 0, .int .i64 2]) ∧ Below w.heap.size w w' := by
  have K := hide (meta_nil ino w)
  unfold metaV Vf.zeroMeta at K
  go_enter Tryz.func41, Tryz.ntmps41
  go_wp2_with fail
  refine (unhide K).mono ?_
  rintro e w1 ⟨rfl, hb1⟩
  have Hb1 := hide hb1
  clear hb1
  go_wp2_with fail
  go_ret2
  exact ⟨rfl, (unhide Hb1).alloc (unhide Hb1).size _⟩
end Go.Proofs.YtfegfmapdekkbaaGreatDoor
namespace Go.Proofs.YtfegfmapdekkbaaGreatDoor
set_option linter.unusedVariables false
set_option linter.unusedSimpArgs false
open Go.RowKit

theorem as_dir (v : Value) (w : World) : (Instr.typeAssert (.iface 52 v) 89 52 false).run Tryz.prog w = .ok v w := by
  simp [Instr.typeAssert, run_underlying Tryz.underlying52, go_sem, Result.andThen]
theorem is_dir (v : Value) (w : World) : (Instr.typeAssert (.iface 52 v) 89 52 true).run Tryz.prog w = .ok (.tuple #[v, .bool true]) w := by
  simp [Instr.typeAssert, run_underlying Tryz.underlying52, go_sem, Result.andThen]
theorem zero_dir (w : World) : (zeroValue 52).run Tryz.prog w = .ok (.pointer none) w := by kernel_rfl
theorem file_no_dir (v : Value) (w : World) : (Instr.typeAssert (.iface 92 v) 89 52 true).run Tryz.prog w = .ok (.tuple #[.pointer none, .bool false]) w := by
  simp [Instr.typeAssert, run_underlying Tryz.underlying52, zero_dir, go_sem, Result.andThen]
theorem link_no_dir (v : Value) (w : World) : (Instr.typeAssert (.iface 95 v) 89 52 true).run Tryz.prog w = .ok (.tuple #[.pointer none, .bool false]) w := by
  simp [Instr.typeAssert, run_underlying Tryz.underlying52, zero_dir, go_sem, Result.andThen]
theorem nil_no_dir (w : World) : (Instr.typeAssert .nilIface 89 52 true).run Tryz.prog w = .ok (.tuple #[.pointer none, .bool false]) w := by
  simp [Instr.typeAssert, run_underlying Tryz.underlying52, zero_dir, go_sem, Result.andThen]
theorem root_any (F : List Vf.Nd) (L : List Pl) (f c B : Nat) (A : Option Addr) (w : World) (h : FsR w B f A c F L) (hn : F.length ≤ 65) (x : Vf.Nd) (p : Pl) (hx : F[0]? = some x) (hp : L[0]? = some p) (hk : x.m.kind = 2) :
    Calls Tryz.prog 60 #[ptrV f] w fun e w' => e = .returned (ptrV p.q) ∧ w = w' := by
  have hl : 0 < F.length := (List.getElem?_eq_some_iff.1 hx).1
  obtain ⟨x', p', hx', hp', hv⟩ := h.at_ hl
  obtain rfl : x = x' := Option.some.inj (hx.symm.trans hx')
  obtain rfl : p = p' := Option.some.inj (hp.symm.trans hp')
  obtain ⟨b3, o3, rfl, _, c3⟩ := h.row.at_ (k := 0) hv
  have v0 := h.fs.cell (i := 0) rfl
  obtain ⟨n, hfn⟩ : ∃ n, F.length = n := ⟨_, rfl⟩
  rw [hfn] at v0 hl
  have e : ndV x p = .iface 52 (.pointer (some ⟨p.q, 0, none⟩)) := by unfold ndV kindT ptrV; rw [if_pos hk]
  rw [e, Nat.add_zero] at c3
  have ha := as_dir (.pointer (some ⟨p.q, 0, none⟩))
  have i1 : (0 : Int) < (n : Int) := by omega
  clear h hx hp hx' hp' hv e hfn hk hn
  unfold ptrV
  go_enter Tryz.func60, Tryz.ntmps60
  go_wp2_with fail
  go_ret
  exact ⟨rfl, rfl⟩
end Go.Proofs.YtfegfmapdekkbaaGreatDoor
namespace Go.Proofs.YtfegfmapdekkbaaGreatDoor
set_option linter.unusedVariables false
set_option linter.unusedSimpArgs false
open Go.RowKit

/-- Cells that are read, all in one block of elements t of a base on. -/
def RdI (w : World) (lo : Nat) (t : TypeId) (size : Nat) (A : Option Addr) (n : Nat) (xs : List Value) : Prop :=
  xs.length = n * size ∧ (xs = [] ∨ ∃ b off cs fz, A = some ⟨b, off, none⟩ ∧ lo ≤ b ∧ w.heap[b]? = some (.cells cs t fz) ∧ ∀ j u, xs[j]? = some u → cs[off + j]? = some u)
theorem RdI.rd {w : World} {lo : Nat} {t : TypeId} {size : Nat} {A : Option Addr} {n : Nat} {xs : List Value} (h : RdI w lo t size A n xs) : Rd w w.heap.size size A n xs :=
  ⟨h.1, h.2.imp id fun ⟨b, off, cs, fz, e, hlo, hb, hc⟩ => ⟨b, off, e, (Array.getElem?_eq_some_iff.1 hb).1, fun j u hu => by rw [cell_of_row _ _ _ _ _ _ hb]; exact hc j u hu⟩⟩
theorem RdI.keep {w w' : World} {lo : Nat} {t : TypeId} {size : Nat} {A : Option Addr} {n : Nat} {xs : List Value} (h : RdI w lo t size A n xs) (hk : ∀ k o, lo ≤ k → w.heap[k]? = some o → (∃ cs fz, o = .cells cs t fz) → w'.heap[k]? = some o) : RdI w' lo t size A n xs :=
  ⟨h.1, h.2.imp id fun ⟨b, off, cs, fz, e, hlo, hb, hc⟩ => ⟨b, off, cs, fz, e, hlo, hk b _ hlo hb ⟨_, _, rfl⟩, hc⟩⟩
theorem RdI.of_own {w : World} {base : Nat} {t : TypeId} {size c : Nat} {A : Option Addr} {n : Nat} {xs : List Value} (h : w.ownsRow base t size (.slice A n c) n xs) : RdI w base t size A n xs := by
  refine ⟨h.1, ?_⟩
  rcases h.2 with ⟨_, h0⟩ | ⟨g, cap, cur, hv, hbg, hh, hcap, hcm, hsz, htk⟩
  · exact .inl (List.eq_nil_of_length_eq_zero (by rw [h.1, h0]; simp))
  · have hA : A = some ⟨g, 0, none⟩ := by injection hv
    refine .inr ⟨g, 0, cur, (0, 0), hA, hbg, hh, fun j u hu => ?_⟩
    rw [Nat.zero_add]
    rw [← htk, List.getElem?_take] at hu
    split at hu
    · simpa using hu
    · cases hu

theorem own_keepA {w w' : World} {lo : Nat} {e : TypeId} {u : Value} {k size : Nat} {xs : List Value} (h : w.ownsRow lo e size u k xs) (hk : ∀ k, lo ≤ k → k < w.heap.size → w'.heap[k]? = w.heap[k]?) : w'.ownsRow lo e size u k xs :=
  ⟨h.1, h.2.imp id fun ⟨g, cap, cur, e1, e2, e3, r⟩ => ⟨g, cap, cur, e1, e2, (hk g e2 (Array.getElem?_eq_some_iff.1 e3).1).trans e3, r⟩⟩

/-- A file system whole: F its nodes, L where they lie, f its own block, all of a base on. -/
structure FsM (w : World) (lo f : Nat) (A : Option Addr) (c : Nat) (F : List Vf.Nd) (L : List Pl) : Prop where
  len : L.length = F.length
  lf : lo ≤ f
  fs : Blk w f 62 [.slice A F.length c]
  row : w.ownsRow lo 89 1 (.slice A F.length c) F.length ((F.zip L).map fun y => ndV y.1 y.2)
  nd : ∀ (i : Nat) (x : Vf.Nd) (p : Pl), F[i]? = some x → L[i]? = some p → lo ≤ p.q ∧ ∃ u, L[x.up]? = some u ∧ Blk w p.q (blkT x.m.kind) (ndC x i u.q p)
  byt : ∀ (i : Nat) (x : Vf.Nd) (p : Pl), F[i]? = some x → L[i]? = some p → x.m.kind = 1 → p.n = x.data.length ∧ p.n ≤ p.c ∧ RdI w lo 5 1 p.A p.n (x.data.map fun b => Value.int .u8 (b.toNat : Nat))
  map : ∀ (i : Nat) (x : Vf.Nd) (p : Pl), F[i]? = some x → L[i]? = some p → x.m.kind = 2 → lo ≤ p.g ∧ MapG w p.g .string (kidsM F L i)
  one : ∀ (i j : Nat) (x y : Vf.Nd) (p r : Pl), F[i]? = some x → F[j]? = some y → L[i]? = some p → L[j]? = some r → x.m.kind = 2 → y.m.kind = 2 → p.g = r.g → i = j
section
variable {w w' : World} {lo f c : Nat} {A : Option Addr} {F : List Vf.Nd} {L : List Pl}
/-- It stays where its blocks stay. -/
theorem FsM.keep (h : FsM w lo f A c F L) (hk : ∀ k, lo ≤ k → k < w.heap.size → w'.heap[k]? = w.heap[k]?) : FsM w' lo f A c F L where
  len := h.len
  lf := h.lf
  fs := (hk f h.lf h.fs.lt).trans h.fs
  row := own_keepA h.row hk
  nd := fun i x p h1 h2 => by
    obtain ⟨a, u, b, d⟩ := h.nd i x p h1 h2
    exact ⟨a, u, b, (hk _ a d.lt).trans d⟩
  byt := fun i x p h1 h2 h3 => by
    obtain ⟨a, a2, b⟩ := h.byt i x p h1 h2 h3
    exact ⟨a, a2, b.keep fun k o hl ho _ => (hk k hl (Array.getElem?_eq_some_iff.1 ho).1).trans ho⟩
  map := fun i x p h1 h2 h3 => by
    obtain ⟨a, b⟩ := h.map i x p h1 h2 h3
    exact ⟨a, b.keep (hk _ a b.lt)⟩
  one := h.one
theorem FsM.belowSz (h : FsM w lo f A c F L) (hb : Below w.heap.size w w') : FsM w' lo f A c F L := h.keep fun k _ hk => hb.block k hk
theorem FsM.toR (h : FsM w lo f A c F L) : FsR w w.heap.size f A c F L :=
  ⟨h.len, h.fs.lt, h.fs, Rd.of_own h.row, fun i x p h1 h2 => by
    obtain ⟨a, u, b, d⟩ := h.nd i x p h1 h2
    exact ⟨d.lt, u, b, d⟩, fun i x p h1 h2 h3 => ⟨(h.byt i x p h1 h2 h3).1, (h.byt i x p h1 h2 h3).2.2.rd⟩⟩
theorem FsM.base {lo' : Nat} (h : FsM w lo f A c F L) (hl : lo' ≤ lo) : FsM w lo' f A c F L where
  len := h.len
  lf := Nat.le_trans hl h.lf
  fs := h.fs
  row := own_base h.row hl
  nd := fun i x p h1 h2 => by
    obtain ⟨a, b⟩ := h.nd i x p h1 h2
    exact ⟨Nat.le_trans hl a, b⟩
  byt := fun i x p h1 h2 h3 => by
    obtain ⟨a, a2, b1, b2⟩ := h.byt i x p h1 h2 h3
    exact ⟨a, a2, b1, b2.imp id fun ⟨b, off, cs, fz, e, h4, h5⟩ => ⟨b, off, cs, fz, e, Nat.le_trans hl h4, h5⟩⟩
  map := fun i x p h1 h2 h3 => by
    obtain ⟨a, b⟩ := h.map i x p h1 h2 h3
    exact ⟨Nat.le_trans hl a, b⟩
  one := h.one
theorem FsM.at_ (h : FsM w lo f A c F L) {i : Nat} {x : Vf.Nd} (hx : F[i]? = some x) : ∃ p, L[i]? = some p ∧ (F.zip L)[i]? = some (x, p) ∧ ((F.zip L).map fun y => ndV y.1 y.2)[i]? = some (ndV x p) := by
  have hi : i < F.length := (List.getElem?_eq_some_iff.1 hx).1
  have hl : i < L.length := by rw [h.len]; exact hi
  have hz : (F.zip L)[i]? = some (x, L[i]) := by
    rw [List.getElem?_eq_getElem (by rw [List.length_zip]; omega), List.getElem_zip, (List.getElem?_eq_some_iff.1 hx).2]
  exact ⟨L[i], List.getElem?_eq_getElem hl, hz, by rw [List.getElem?_map, hz]; rfl⟩
/-! A directory's entries. -/
theorem kids_mem {d : Nat} {e : Value × Value} : e ∈ kidsM F L d ↔ ∃ i x p, 1 ≤ i ∧ (F.zip L)[i]? = some (x, p) ∧ x.up = d ∧ e = (.string x.name, ndV x p) := by
  unfold kidsM
  rw [List.mem_filterMap]
  constructor
  · rintro ⟨⟨x, p⟩, hm, he⟩
    obtain ⟨j, hj⟩ := List.getElem?_of_mem hm
    rw [List.getElem?_drop] at hj
    split at he
    · next hu => exact ⟨1 + j, x, p, by omega, hj, hu, (Option.some.inj he).symm⟩
    · cases he
  · rintro ⟨i, x, p, h1, hx, hu, rfl⟩
    refine ⟨(x, p), ?_, by rw [if_pos hu]⟩
    refine List.mem_of_getElem? (i := i - 1) ?_
    rw [List.getElem?_drop, show 1 + (i - 1) = i by omega]
    exact hx
theorem zip_at {i : Nat} {x : Vf.Nd} {p : Pl} (h : (F.zip L)[i]? = some (x, p)) : F[i]? = some x ∧ L[i]? = some p := by
  rw [List.getElem?_zip_eq_some] at h
  exact h
theorem kids_yes (hF : Vf.Good F) (h : FsM w lo f A c F L) {d j : Nat} {nm : ByteArray} (hc : Vf.child F d nm = some j) : ∃ x p, F[j]? = some x ∧ L[j]? = some p ∧ x.up = d ∧ x.name = nm ∧ (Value.string nm, ndV x p) ∈ kidsM F L d := by
  obtain ⟨h1, x, hx, hu, hn⟩ := (Vf.child_some hF).1 hc
  obtain ⟨p, hp, hz, _⟩ := h.at_ hx
  exact ⟨x, p, hx, hp, hu, hn, kids_mem.2 ⟨j, x, p, h1, hz, hu, by rw [hn]⟩⟩
theorem kids_no (hF : Vf.Good F) {d : Nat} {nm : ByteArray} (hc : Vf.child F d nm = none) : ∀ e ∈ kidsM F L d, e.1 ≠ Value.string nm := by
  intro e he e1
  obtain ⟨i, x, p, h1, hz, hu, rfl⟩ := kids_mem.1 he
  injection e1 with e1
  have := (Vf.child_some hF).2 ⟨h1, x, (zip_at hz).1, hu, e1⟩
  rw [hc] at this
  cases this
/-- A name looked up in a directory. -/
theorem look_yes (hF : Vf.Good F) (h : FsM w lo f A c F L) {d j : Nat} {nm : ByteArray} {xd : Vf.Nd} {pd : Pl} (hd : F[d]? = some xd) (hp : L[d]? = some pd) (hk : xd.m.kind = 2) (hc : Vf.child F d nm = some j) :
    ∃ x p, F[j]? = some x ∧ L[j]? = some p ∧ (Instr.lookup 57 (.map (some pd.g)) (.string nm) true).run Tryz.prog w = .ok (.tuple #[ndV x p, .bool true]) w := by
  obtain ⟨x, p, hx, hpx, _, _, hm⟩ := kids_yes hF h hc
  exact ⟨x, p, hx, hpx, (run_lookG_yes (P := Tryz.prog) Tryz.underlying57 Tryz.underlying9 (by simp [Go.MapKept.IsKey]) (h.map d xd pd hd hp hk).2 hm).1⟩
theorem look_no (hF : Vf.Good F) (h : FsM w lo f A c F L) {d : Nat} {nm : ByteArray} {xd : Vf.Nd} {pd : Pl} (hd : F[d]? = some xd) (hp : L[d]? = some pd) (hk : xd.m.kind = 2) (hc : Vf.child F d nm = none) :
    (Instr.lookup 57 (.map (some pd.g)) (.string nm) true).run Tryz.prog w = .ok (.tuple #[.nilIface, .bool false]) w :=
  (run_lookG_no (P := Tryz.prog) (z := .nilIface) Tryz.underlying57 Tryz.underlying9 (by simp [Go.MapKept.IsKey]) (by kernel_rfl) (h.map d xd pd hd hp hk).2 (kids_no hF hc)).1
end
end Go.Proofs.YtfegfmapdekkbaaGreatDoor
namespace Go.Proofs.YtfegfmapdekkbaaGreatDoor
set_option linter.unusedVariables false
set_option linter.unusedSimpArgs false
open Go.RowKit

/-- Node i as an interface's value. -/
def ndA (F : List Vf.Nd) (L : List Pl) (i : Nat) : Value := ((F.zip L).map fun y => ndV y.1 y.2)[i]?.getD .nilIface
def atV (F : List Vf.Nd) (L : List Pl) : Option Nat → Value
  | none => .nilIface
  | some i => ndA F L i
theorem FsM.ndA_eq {w : World} {lo f c : Nat} {A : Option Addr} {F : List Vf.Nd} {L : List Pl} (h : FsM w lo f A c F L) {i : Nat} {x : Vf.Nd} {p : Pl} (hx : F[i]? = some x) (hp : L[i]? = some p) : ndA F L i = .iface (kindT x.m.kind) (.pointer (some ⟨p.q, 0, none⟩)) := by
  obtain ⟨p', hp', _, hv⟩ := h.at_ hx
  obtain rfl : p = p' := Option.some.inj (hp.symm.trans hp')
  unfold ndA
  rw [hv]
  rfl
theorem kind3 {F : List Vf.Nd} (h : Vf.Good F) {i : Nat} {x : Vf.Nd} (hx : F[i]? = some x) : x.m.kind = 1 ∨ x.m.kind = 2 ∨ x.m.kind = 3 := by
  have := h.kind i x hx
  omega

set_option maxRecDepth 100000 in
set_option maxHeartbeats 1000000 in
theorem at_any (F : List Vf.Nd) (L : List Pl) (lo f c : Nat) (A A' : Option Addr) (n' c' B : Nat) (l : List ByteArray) (w : World) (hF : Vf.Good F) (h : FsM w lo f A c F L) (hn : F.length ≤ 65) (hl : Rd w B 1 A' n' (l.map Value.string)) (hn' : n' ≤ 4294967296) :
    Calls Tryz.prog 32 #[ptrV f, .slice A' n' c'] w fun e w' => e = .returned (atV F L (Vf.at_ F 0 l)) ∧ w = w' := by
  have hll : l.length = n' := by simpa using hl.len1
  obtain ⟨x0, hx0⟩ : ∃ x, F[0]? = some x := ⟨_, hF.r⟩
  obtain ⟨p0, hp0, _, hv0⟩ := h.at_ hx0
  obtain ⟨b3, o3, rfl, _, c3⟩ := (Rd.of_own h.row).at_ (k := 0) hv0
  have v0 := h.fs.cell (i := 0) rfl
  have e0 := h.ndA_eq hx0 hp0
  have e0' : ndA F L 0 = ndV x0 p0 := by unfold ndA; rw [hv0]; rfl
  rw [← e0', Nat.add_zero] at c3
  obtain ⟨n, hfn⟩ : ∃ n, F.length = n := ⟨_, rfl⟩
  have hpos := Vf.good_pos hF
  have i1 : (0 : Int) < (n : Int) := by omega
  rw [hfn] at v0
  obtain ⟨r, hr⟩ : ∃ r, Vf.at_ F 0 l = r := ⟨_, rfl⟩
  have Hr := hide hr
  rw [hr]
  have H := hide h
  have HF := hide hF
  have Hl := hide hl
  have Hll := hide hll
  have Hfn := hide hfn
  obtain ⟨z0, hz0⟩ : ∃ z, ndA F L 0 = z := ⟨_, rfl⟩
  rw [hz0] at c3
  have Hz0 := hide hz0
  clear hr h hF hl hll hv0 e0 e0' hfn hpos hx0 hp0 hz0
  unfold ptrV
  go_enter Tryz.func32, Tryz.ntmps32
  go_wp2_with fail
  go_loop [5, 18] (fun nv iv => ∃ k i : Nat, k ≤ n' ∧ iv = .int .i64 k ∧ Vf.at_ F 0 (l.take k) = some i ∧ i < F.length ∧ nv = ndA F L i) (fun _ i => n' - (intOf i).toNat)
  case atStart => exact ⟨0, 0, Nat.zero_le _, rfl, rfl, Vf.good_pos (unhide HF), (unhide Hz0).symm⟩
  case round =>
    obtain ⟨k, i, hk, rfl, hat, hi, rfl⟩ := hrel
    have Hat := hide hat
    obtain ⟨x, hx⟩ : ∃ x, F[i]? = some x := ⟨_, List.getElem?_eq_getElem hi⟩
    obtain ⟨p, hp, _, _⟩ := (unhide H).at_ hx
    have e1 := (unhide H).ndA_eq hx hp
    have Hi := hide hi
    by_cases hlt : k < n'
    · obtain ⟨nm, hnm⟩ : ∃ nm, l[k]? = some nm := ⟨_, List.getElem?_eq_getElem (by rw [unhide Hll]; exact hlt)⟩
      obtain ⟨b1, o1, rfl, _, c1⟩ := (unhide Hl).at_ (k := k) (u := .string nm) (by simp [hnm])
      have hnx := Vf.at_next hat hnm
      have ilt : (k : Int) < (n' : Int) := by omega
      rcases kind3 (unhide HF) hx with hk1 | hk1 | hk1
      · have et : kindT x.m.kind = 92 := by rw [hk1]; rfl
        rw [et] at e1
        rw [e1]
        have ha := file_no_dir (.pointer (some ⟨p.q, 0, none⟩))
        have hr0 : r = none := by
          rw [← unhide Hr]
          exact Vf.at_stop (k := k + 1) (hnx.trans (Vf.child_none (unhide HF) (by rw [Vf.kindAt_eq hx, hk1]; decide)))
        clear e1 et hk1 hnx hx hp hat hnm hi
        go_wp2_with fail
        go_ret
        subst hr0
        exact ⟨rfl, rfl⟩
      · have et : kindT x.m.kind = 52 := by rw [hk1]; rfl
        rw [et] at e1
        rw [e1]
        have ha := is_dir (.pointer (some ⟨p.q, 0, none⟩))
        obtain ⟨_, u, hu, hb⟩ := (unhide H).nd i x p hx hp
        have c8 : w.cell? ⟨p.q, 8, none⟩ = some (lastV x p) := hb.cell rfl
        have e8 : lastV x p = .map (some p.g) := by unfold lastV; rw [if_pos hk1]
        rw [e8] at c8
        cases hc : Vf.child F i nm with
        | none =>
          have hlk := look_no (unhide HF) (unhide H) hx hp hk1 hc
          have hr0 : r = none := by
            rw [← unhide Hr]
            exact Vf.at_stop (k := k + 1) (hnx.trans hc)
          clear e1 et hk1 hnx hx hp hat hnm hi hu hb e8 hc
          go_wp2_with fail
          go_ret
          subst hr0
          exact ⟨rfl, rfl⟩
        | some j =>
          obtain ⟨xj, pj, hxj, hpj, hlk⟩ := look_yes (unhide HF) (unhide H) hx hp hk1 hc
          have ej : ndA F L j = ndV xj pj := (unhide H).ndA_eq hxj hpj
          rw [← ej] at hlk
          obtain ⟨zj, hzj⟩ : ∃ z, ndA F L j = z := ⟨_, rfl⟩
          rw [hzj] at hlk
          have Hzj := hide hzj
          have Hnx := hide (hnx.trans hc)
          have Hj := hide ((List.getElem?_eq_some_iff.1 hxj).1)
          clear e1 et hk1 hnx hx hp hat hnm hi hu hb e8 hc hxj hpj ej hzj
          go_wp2_with fail
          go_round
          case rel => exact ⟨k + 1, j, by omega, by go_num, unhide Hnx, unhide Hj, (unhide Hzj).symm⟩
          case measure => simp [intOf]; omega
      · have et : kindT x.m.kind = 95 := by rw [hk1]; rfl
        rw [et] at e1
        rw [e1]
        have ha := link_no_dir (.pointer (some ⟨p.q, 0, none⟩))
        have hr0 : r = none := by
          rw [← unhide Hr]
          exact Vf.at_stop (k := k + 1) (hnx.trans (Vf.child_none (unhide HF) (by rw [Vf.kindAt_eq hx, hk1]; decide)))
        clear e1 et hk1 hnx hx hp hat hnm hi
        go_wp2_with fail
        go_ret
        subst hr0
        exact ⟨rfl, rfl⟩
    · have ilt : ¬ (k : Int) < (n' : Int) := by omega
      have hr0 : r = some i := by
        rw [← unhide Hr, ← hat, List.take_of_length_le (by have := unhide Hll; omega)]
      obtain ⟨z, hz⟩ : ∃ z, ndA F L i = z := ⟨_, rfl⟩
      rw [hz]
      have Hz := hide hz
      clear hat hi hx hp e1 hz
      go_wp2_with fail
      go_ret
      subst hr0
      exact ⟨ret_val (unhide Hz).symm, rfl⟩
end Go.Proofs.YtfegfmapdekkbaaGreatDoor
namespace Go.Proofs.YtfegfmapdekkbaaGreatDoor
theorem own_cap {w : World} {base : Nat} {e : TypeId} {size n c : Nat} {A : Option Addr} {xs : List Value} (h : w.ownsRow base e size (.slice A n c) n xs) : n ≤ c := by
  rcases h.2 with ⟨h0, h1⟩ | ⟨g, cap, cur, hv, hb, hg, hnc, _⟩
  · omega
  · injection hv with _ _ h3
    omega
end Go.Proofs.YtfegfmapdekkbaaGreatDoor
namespace Go.Proofs.YtfegfmapdekkbaaGreatDoor
set_option linter.unusedVariables false
set_option linter.unusedSimpArgs false
open Go.RowKit Go.Lib

/-- What Parts' yield keeps: its list in block g. -/
def PrtI (w0 : World) (g : Nat) (n : Nat) (l : List ByteArray) (w : World) : Prop :=
  ∃ A c, w.heap[g]? = some (.cells #[.slice A l.length c] 27 (0, 0)) ∧ w.ownsRow w0.heap.size 9 1 (.slice A l.length c) l.length (l.map Value.string) ∧ Below w0.heap.size w0 w ∧ (Value.slice A l.length c).ownBlock ≠ some g ∧ l.length ≤ n

theorem PrtI.stable {w0 : World} {g : Nat} (n : Nat) (l : List ByteArray) (w w' : World) (h : ItKp w0.heap.size w w') (hI : PrtI w0 g n l w) : PrtI w0 g n l w' := by
  obtain ⟨A, c, h1, h2, h3, h4, h5⟩ := hI
  refine ⟨A, c, h.rest _ _ h1 (fun _ _ => by simp), ?_, h3.trans ⟨h.os, h.tape, h.output, h.size, h.low⟩, h4, h5⟩
  refine ⟨h2.1, h2.2.imp id fun ⟨g', cap, cur, e, hb, hh, r⟩ => ⟨g', cap, cur, e, hb, h.rest _ _ hh (fun _ _ => by simp), r⟩⟩

theorem iterKept_trans {a b c : World} (h : IterKept a b) (k : IterKept b c) : IterKept a c := fun i s p hi => k i s p (h i s p hi)
theorem iterKept_grown {w w' : World} {row : Option Nat} (h : w.grownBy w' row) (hr : ∀ k, row = some k → ∃ cs t fz, w.heap[k]? = some (.cells cs t fz)) : IterKept w w' := by
  intro k s p hk
  rw [h.block k (Array.getElem?_eq_some_iff.1 hk).1]
  · exact hk
  · intro e
    obtain ⟨cs, t, fz, hc⟩ := hr k e.symm
    rw [hk] at hc
    cases hc

theorem parts1_any (w0 : World) (g : Nat) (hg : w0.heap.size ≤ g) (n : Nat) (hn : n ≤ 4294967296) (l : List ByteArray) (w : World) (x : ByteArray) (hI : PrtI w0 g n l w) :
    Calls Tryz.prog 78 #[.string x, .pointer (some ⟨g, 0, none⟩)] w fun r w' => r = .returned (.bool (Pth.partsStep l x).2) ∧ PrtI w0 g (n + 1) (Pth.partsStep l x).1 w' ∧ IterKept w w' := by
  have HI := hide hI
  obtain ⟨A, c, hc, hown, hb, hne, hln⟩ := hI
  have Hc := hide hc
  have h1 := cell_of_one hc
  have hgs := lt_of_block hc
  have hbs := hb.size
  have e1 : x.toList.isEmpty = decide (x.data.toList = []) := by rw [Lib.toList_data, Bool.eq_iff_iff]; simp
  have e2 : (x.toList == [46]) = decide (x.data.toList = [46]) := by rw [Lib.toList_data, Bool.eq_iff_iff]; simp
  by_cases hx : x.data.toList = [] ∨ x.data.toList = [46]
  · have hp : Pth.isPart x = false := by rcases hx with h | h <;> simp [Pth.isPart, h]
    have Hp := hide hp
    clear hp hc
    rcases hx with hx | hx
    · have q1 : x.toList.isEmpty = true := by rw [e1]; simpa using hx
      clear e1 e2 hx
      go_enter Tryz.func78, Tryz.ntmps78
      go_wp2
      go_ret
      exact ⟨rfl, by
        have e : (Pth.partsStep l x).1 = l := by simp [Pth.partsStep, unhide Hp]
        rw [e]
        exact ⟨A, c, unhide Hc, hown, hb, hne, by omega⟩, fun _ _ _ h => h⟩
    · have q1 : x.toList.isEmpty = false := by rw [e1]; simp [hx]
      have q2 : (x.toList == [46]) = true := by rw [e2]; simpa using hx
      clear e1 e2 hx
      go_enter Tryz.func78, Tryz.ntmps78
      go_wp2
      go_ret
      exact ⟨rfl, by
        have e : (Pth.partsStep l x).1 = l := by simp [Pth.partsStep, unhide Hp]
        rw [e]
        exact ⟨A, c, unhide Hc, hown, hb, hne, by omega⟩, fun _ _ _ h => h⟩
  · have hp : Pth.isPart x = true := by simp only [Pth.isPart]; simp; simpa using hx
    have Hp := hide hp
    have q1 : x.toList.isEmpty = false := by rw [e1]; simp; exact fun h => hx (.inl (by simpa using h))
    have q2 : (x.toList == [46]) = false := by rw [e2]; simp; exact fun h => hx (.inr (by simpa using h))
    clear e1 e2 hx hp hc
    go_enter Tryz.func78, Tryz.ntmps78
    go_wp2_with (at_builtin; refine wpList_app1 strTy rfl _ _ rfl w0.heap.size (.slice A l.length c) l.length (l.map Value.string) rfl hown #[.string x] rfl rfl (by simp [Value.oneCell']) (by omega) (by omega) ?_; intro A' c' w1 hown' hgrow hat; have hg1 := (hgrow.block g hgs (fun e => hne e.symm)).trans (unhide Hc); have hc1 := cell_of_one hg1; have hf1 := free_of_one hg1; have Hg1 := hide hg1; have Hgr := hide hgrow; have Hat := hide hat; clear hg1 hgrow hat)
    go_ret
    have hne' : (Value.slice A' (l.length + 1) c').ownBlock ≠ some g := by
      intro e
      rcases unhide Hat _ e with h | h
      · exact hne h
      · omega
    refine ⟨rfl, ?_, ?_⟩
    · have e : (Pth.partsStep l x).1 = l ++ [x] := by simp [Pth.partsStep, unhide Hp]
      rw [e]
      refine ⟨A', c', ?_, ?_, ?_, ?_, ?_⟩
      · rw [List.length_append]
        exact one_setCell (unhide Hg1)
      · rw [List.length_append, List.map_append]
        exact ownsRow_setCell_other hown' (a := ⟨g, 0, none⟩) hne' _
      · exact (hb.grown (unhide Hgr) hbs (fun k hk => (hown.lt k hk).1)).setCell hg _
      · rw [List.length_append]
        exact hne'
      · rw [List.length_append]
        simp only [List.length_cons, List.length_nil]
        omega
    · refine iterKept_trans (iterKept_grown (unhide Hgr) (fun k hk => ?_)) (iterKept_setCell (unhide Hg1) _ _)
      rcases hown.2 with ⟨e, _⟩ | ⟨g', cap, cur, e, _, hh, _⟩
      · rw [e] at hk
        simp [Value.ownBlock] at hk
      · rw [e] at hk
        simp [Value.ownBlock] at hk
        exact ⟨_, _, _, hk ▸ hh⟩

theorem prt_start {w w1 : World} (hb : Below (w.alloc (.cells #[.slice none 0 0] 27)).heap.size (w.alloc (.cells #[.slice none 0 0] 27)) w1) : PrtI w w.heap.size 0 [] w1 :=
  ⟨none, 0, (hb.block _ (by simp)).trans (heap_alloc_new _ _), World.ownsRow_nil _ _ _ _, ((Below.refl _ _).alloc (Nat.le_refl _) _).trans (hb.mono (by simp)), by simp [Value.ownBlock], Nat.le_refl _⟩
theorem PrtI.sz {w0 w : World} {g n : Nat} {l : List ByteArray} (h : PrtI w0 g n l w) : w0.heap.size ≤ w.heap.size := h.choose_spec.choose_spec.2.2.1.size

theorem callFunc_parts1 (args : Array Value) (w : World) : (callFunc 78 args).run Tryz.prog w = .ok (.enter 78 args) w := by kernel_rfl

theorem parts_any (p : ByteArray) (hp : p.size ≤ maxLen) (w : World) :
    Calls Tryz.prog 55 #[.string p] w fun e w' => ∃ A c, e = .returned (.tuple #[.slice A (Pth.partsL p).length c, .bool (Pth.rootB p), .int .i64 (Pth.chk p)]) ∧
      w'.ownsRow w.heap.size 9 1 (.slice A (Pth.partsL p).length c) (Pth.partsL p).length ((Pth.partsL p).map Value.string) ∧ Below w.heap.size w w' := by
  have hck := Pth.chk_size p
  by_cases h0 : Pth.chk p = 0
  · have hrl : Pth.partsL p = Pth.goF Pth.partsStep [] (Pth.pcs p) := by rw [Pth.goF_parts]; simp [Pth.partsL, h0, Pth.parts]
    have hrb : Pth.rootB p = Lib.hasPrefix p.data.toList [47] := by simp [Pth.rootB, h0]
    have Hrl := hide hrl
    have Hrb := hide hrb
    have hs := hck h0
    have b0 : (Pth.chk p == 0) = true := by simpa using h0
    have b1 : (Pth.chk p != 0) = false := by simpa using h0
    have hmf : ∀ (fn : Fn) (first cap : Array Value) (w : World), (Instr.makeFunc fn first cap).run Tryz.prog w = .ok (.func fn first cap) w := fun _ _ _ _ => rfl
    have H0 := hide h0
    clear hck hrl hrb h0
    go_enter Tryz.func55, Tryz.ntmps55
    go_wp2_with (first
      | (go_at_call 58; refine (check_any p hp _).mono ?_; rintro e w1 ⟨rfl, hb1⟩; have Hini := hide (prt_start hb1); clear hb1)
      | (go_at_call 77; refine (pieces_any 78 _ (PrtI w w.heap.size) Pth.partsStep w.heap.size p hp callFunc_parts1 PrtI.stable (fun n s w' x hn _ hI => parts1_any w w.heap.size (Nat.le_refl _) n (by omega) s w' x hI) [] _ (PrtI.sz (unhide Hini)) (unhide Hini)).mono ?_; rintro e w2 ⟨rfl, n, hI2⟩; have HI2 := hide hI2; clear hI2))
    have HI3 := unhide HI2
    rw [← unhide Hrl] at HI3
    obtain ⟨A, c, hc, hown, hb, hne, hln⟩ := HI3
    have hc1 := cell_of_one hc
    have hf1 := free_of_one hc
    have hc2 := cell_of_one (one_setCell (u := .slice A (Pth.partsL p).length c) hc)
    have Hc := hide hc
    clear hc
    go_region_with (go_at_call 79; refine (flipw (Tryz.strings_HasPrefix _ _ _)).mono ?_; rintro e w3 ⟨rfl, rfl⟩)
    all_goals
      go_wp2
      refine bodyPost_ret (v := .tuple #[.slice A (Pth.partsL p).length c, .bool (Lib.hasPrefix p.data.toList [47]), .int .i64 0]) (by simp [results, Tryz.results55, go_sem, hc2]) rfl ?_
      exact ⟨A, c, by rw [unhide Hrb, unhide H0], ownsRow_setCell_other hown (a := ⟨w.heap.size, 0, none⟩) hne _, (hb.setCell (p := ⟨w.heap.size, 0, none⟩) (Nat.le_refl _) _).drew⟩
  · have b0 : (Pth.chk p == 0) = false := by simpa using h0
    have b1 : (Pth.chk p != 0) = true := by simpa using h0
    have e1 : Pth.partsL p = [] := by simp [Pth.partsL, h0]
    have e2 : Pth.rootB p = false := by simp [Pth.rootB, h0]
    rw [e1, e2]
    clear hck e1 e2 h0
    go_enter Tryz.func55, Tryz.ntmps55
    go_wp2_with (go_at_call 58; refine (check_any p hp _).mono ?_; rintro e w1 ⟨rfl, hb1⟩; have hn := newblk hb1; have Hb := hide (below_new hb1); clear hb1; have hc := cell_of_one hn; have hf := free_of_one hn; have hc2 := cell_of_one (one_setCell (u := .slice none 0 0) hn); clear hn)
    refine bodyPost_ret (v := .tuple #[.slice none 0 0, .bool false, .int .i64 (Pth.chk p)]) (by simp [results, Tryz.results55, go_sem, hc2]) rfl ?_
    exact ⟨none, 0, rfl, World.ownsRow_nil _ _ _ _, (unhide Hb).setCell (p := ⟨w.heap.size, 0, none⟩) (Nat.le_refl _) _⟩

end Go.Proofs.YtfegfmapdekkbaaGreatDoor
