/- The walks of hostelref25.number, text and list. Conditions: there are fewer than 2^32 bytes. -/
import Derived.Test.YtphbkjdheopmhaaPut3
namespace Go.Proofs.Ytphbkjdheopmhaa
set_option linter.unusedVariables false
set_option linter.unusedSimpArgs false
open Go.RowKit

set_option maxRecDepth 100000 in
set_option maxHeartbeats 1000000 in
theorem rnumber_any (s x : Nat) (w : World) (hs : s = 1 ∨ s = 2 ∨ s = 4 ∨ s = 8) (hx : x < 18446744073709551616) :
    Calls Try.prog 46 #[.int .u64 x, .int .i64 s] w fun e w' => ∃ A' c', e = .returned (.slice A' s c') ∧ w'.ownsRow w.heap.size 5 1 (.slice A' s c') s (bys (Cl.lb x s)) ∧ Below w.heap.size w w' := by
  obtain ⟨i, hi, hz0, hz1, hz2⟩ := info_parts byteInfo
  have hs0 : 0 < s := by omega
  have hs8 : s ≤ 8 := by omega
  have Hi := hide hi
  have Hz0 := hide hz0
  have Hz1 := hide hz1
  have Hz2 := hide hz2
  have Hs := hide hs
  clear hi hz0 hz1 hz2 hs
  go_enter Try.func46, Try.ntmps46
  have hzz : (madeCells (Value.int .u8 0).cells (s * 1)).toList = bys (List.replicate s 0) := by simp [bys, Value.cells, toList_madeCells_one]
  have Hzz := hide hzz
  clear hzz
  go_wp2_with (at_make; refine wpList_make_full _ rfl _ _ 24 rfl w.heap.size 5 i (.int .u8 0) 1 Try.underlying24 (unhide Hi) (unhide Hz0) (unhide Hz1) _ _ _ _ s rfl rfl rfl rfl (by rw [unhide Hz2]; omega) (by unfold maxLen; omega) (Nat.le_refl _) ?_; intro w1 hown hgrow; have Hb1 := hide ((Below.refl w.heap.size w).grown hgrow (Nat.le_refl _) (fun k hk => by cases hk)); rw [unhide Hzz] at hown; have Hmk := hide (Rd.of_own hown); clear hown hgrow)
  refine (refSet_yes _ s _ w1.heap.size (List.replicate s 0) 0 s x w1 (Nat.le_refl _) (unhide Hmk) (by omega) (unhide Hs) (by omega) hx).mono ?_
  rintro e w2 ⟨A2, c2, rfl, ho2, hb2⟩
  rw [setK_all] at ho2
  have Ho2 := hide (own_base ho2 (unhide Hb1).size)
  have Hb2 := hide ((unhide Hb1).trans (hb2.mono (unhide Hb1).size))
  clear ho2 hb2 Hmk Hb1 Hi Hz0 Hz1 Hz2
  go_wp2_with fail
  go_ret
  exact ⟨A2, c2, rfl, unhide Ho2, unhide Hb2⟩

set_option maxRecDepth 100000 in
set_option maxHeartbeats 1000000 in
theorem rtext_any (A : Option Addr) (n c base : Nat) (xs : List UInt8) (s : ByteArray) (w : World) (hown : w.ownsRow base 5 1 (.slice A n c) n (bys xs)) (hbase : base ≤ w.heap.size) (hn : n ≤ 35184372088832) (hs : s.size ≤ 35184372088832) :
    Puts 47 #[.slice A n c, .string s] w base (.slice A n c) n xs (Cl.txt (Cl.bl s)) := by
  unfold Puts Cl.txt
  rw [List.length_append, Cl.lb_len, Cl.bl_len]
  have K := hide (rnumber_any 2 s.size w (by omega) (by omega))
  have Hown0 := hide hown
  clear hown
  go_enter Try.func47, Try.ntmps47
  go_wp2_with fail
  refine (unhide K).mono ?_
  rintro e w1 ⟨A1, c1, rfl, ho1, hb1⟩
  have Hr1 := hide (Rd.of_own ho1)
  have Hb1 := hide hb1
  have Ho1 := hide (own_below (unhide Hown0) hb1)
  have hsz1 := Nat.le_trans hbase hb1.size
  clear ho1 hb1 K Hown0
  go_wp2_with (first
    | (at_builtin; refine wpList_app byteTy rfl _ _ rfl base (.slice A n c) n (bys xs) rfl (unhide Ho1) w1.heap.size A1 2 c1 (bys (Cl.lb s.size 2)) rfl (unhide Hr1) (bys_one _) (by omega) hsz1 ?_; intro A3 c3 w3 ho3 hg3 hat3; rw [← bys_app] at ho3; have Hg3 := hide (Grew.after (unhide Hb1) ⟨ho3, hg3, hat3⟩); have hsz3 := Nat.le_trans hbase (unhide Hg3).kept.size; clear ho3 hg3 hat3)
    | (at_builtin; refine wpList_appS rfl _ _ rfl base _ (n + 2) (xs ++ Cl.lb s.size 2) rfl (unhide Hg3).own s rfl (by omega) hsz3 ?_; intro A2 c2 w2 hg2; have Hg2 := hide ((unhide Hg3).trans hg2); clear hg2))
  go_ret
  have h := unhide Hg2
  rw [List.append_assoc] at h
  rw [← Nat.add_assoc]
  exact ⟨A2, c2, rfl, h⟩

theorem lb_one (m : Nat) : bys (Cl.lb m 1) = [.int .u8 ((m : Int) % 256)] := by
  simp [Cl.lb, bys]

set_option maxRecDepth 100000 in
set_option maxHeartbeats 1000000 in
theorem rlist_any (A : Option Addr) (n c base : Nat) (xs : List UInt8) (A2 : Option Addr) (m d B : Nat) (l : List ByteArray) (w : World) (hown : w.ownsRow base 5 1 (.slice A n c) n (bys xs)) (hbase : base ≤ w.heap.size) (hn : n ≤ 17592186044416)
    (hl : Rd w B 1 A2 m (l.map Value.string)) (hB : B ≤ base) (hm : m ≤ 17592186044416) (hs : ∀ x ∈ l, x.size ≤ 35184372088832) (hbig : (Cl.txts l).length ≤ 8796093022208) :
    Puts 48 #[.slice A n c, .slice A2 m d] w base (.slice A n c) n xs (Cl.lst l) := by
  unfold Puts Cl.lst
  have hll : l.length = m := by simpa using hl.len1
  rw [List.length_append, Cl.lb_len, hll]
  have Hl := hide hl
  have Hll := hide hll
  have Hs := hide hs
  have Hown := hide hown
  have hnb : ∀ k, (Value.slice A n c).ownBlock = some k → B ≤ k := fun k hk => Nat.le_trans hB (own_lt hown k hk)
  have Hnb := hide hnb
  clear hl hll hs hown hnb
  go_enter Try.func48, Try.ntmps48
  go_wp2_with (at_builtin; refine wpList_app1g byteTy rfl _ _ rfl base (.slice A n c) n (bys xs) rfl (unhide Hown) #[.int .u8 ((m : Int) % 256)] _ rfl (by simp) rfl (by simp [Value.oneCell']) (by omega) (by simpa using hbase) ?_; intro A1 c1 w1 ho1 hg1 hat1; rw [show (#[Value.int .u8 ((m : Int) % 256)] : Array Value).toList = bys (Cl.lb m 1) from (lb_one m).symm, ← bys_app] at ho1; have Hg1 := hide (Grew.mk ho1 hg1 hat1); clear ho1 hg1 hat1 Hown)
  go_loopg [0, 5] m (fun gk b i wr => ∃ (k : Nat) (Ak : Option Addr) (ck : Nat), gk = m - k ∧ k ≤ m ∧ i = .int .i64 k ∧ b = .slice Ak (n + 1 + (Cl.txts (l.take k)).length) ck ∧ Grew w wr base (.slice A n c) (.slice Ak (n + 1 + (Cl.txts (l.take k)).length) ck) (n + 1 + (Cl.txts (l.take k)).length) (xs ++ Cl.lb m 1 ++ Cl.txts (l.take k)))
  case atStart => exact ⟨0, A1, c1, by omega, by omega, rfl, by simp [Cl.txts], by simpa [Cl.txts] using unhide Hg1⟩
  case round =>
  obtain ⟨k, Ak, ck, hgk, hk, rfl, rfl, hg⟩ := hrel
  have Hgk := hide hgk
  have Hg := hide hg
  clear hgk hg Hg1
  have hsz := (unhide Hg).kept.size
  have hbk := (unhide Hg).below (Nat.le_trans hB hbase) (unhide Hnb)
  rcases Nat.lt_or_ge k m with hlt | hge
  case inr =>
    obtain rfl : k = m := by omega
    have e : l.take k = l := List.take_of_length_le (by have := unhide Hll; omega)
    rw [e] at Hg
    rw [e]
    clear hbk
    go_wp2
    go_ret
    rw [← Nat.add_assoc]
    have h := unhide Hg
    rw [List.append_assoc] at h
    exact ⟨Ak, ck, rfl, h⟩
  obtain ⟨x, hx⟩ : ∃ x, l[k]? = some x := ⟨_, List.getElem?_eq_getElem (by rw [unhide Hll]; exact hlt)⟩
  obtain ⟨b1, o1, rfl, hbb, c0⟩ := ((unhide Hl).below hbk).at_ (k := k) (u := .string x) (by simp [hx])
  have hle := txts_le l k
  have K2 := hide (rtext_any Ak (n + 1 + (Cl.txts (l.take k)).length) ck base _ x wr (unhide Hg).own (Nat.le_trans hbase hsz) (by omega) ((unhide Hs) _ (List.mem_of_getElem? hx)))
  have Hx := hide (txts_snoc hx)
  clear hx hle hbk
  generalize hq : (Cl.txts (l.take k)).length = q at *
  have Hq := hide hq
  clear hq
  go_wp2_with fail
  refine (unhide K2).mono ?_
  rintro e w2 ⟨A3, c3, rfl, hg2⟩
  have Hg2 := hide ((unhide Hg).trans hg2)
  clear hg2 Hg
  go_wp2_with fail
  go_roundg (m - (k + 1))
  case measure => have := unhide Hgk; omega
  case rel => exact ⟨k + 1, A3, c3, rfl, by omega, by go_num, by rw [unhide Hx, List.length_append, unhide Hq, Nat.add_assoc (n + 1)], by rw [unhide Hx, List.length_append, unhide Hq, ← Nat.add_assoc (n + 1), ← List.append_assoc]; exact unhide Hg2⟩
end Go.Proofs.Ytphbkjdheopmhaa
