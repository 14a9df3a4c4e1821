/- The walks of put, putText, putList and of their references. Conditions: there are fewer than 2^32 bytes. -/
import Derived.Test.YtphbkjdheopmhaaPut2
import Derived.Test.YtphbkjdheopmhaaAppS
namespace Go.Proofs.Ytphbkjdheopmhaa
set_option linter.unusedVariables false
set_option linter.unusedSimpArgs false
open Go.RowKit

/-- A call that goes on with the bytes xs of its first argument. -/
def Puts (f : FuncId) (args : Array Value) (w : World) (base : Nat) (v : Value) (n : Nat) (xs more : List UInt8) : Prop :=
  Calls Try.prog f args w fun e w' => ∃ A' c', e = .returned (.slice A' (n + more.length) c') ∧ Grew w w' base v (.slice A' (n + more.length) c') (n + more.length) (xs ++ more)

set_option maxRecDepth 100000 in
set_option maxHeartbeats 1000000 in
theorem put_any (A : Option Addr) (n c base s x : Nat) (xs : List UInt8) (w : World) (hown : w.ownsRow base 5 1 (.slice A n c) n (bys xs)) (hbase : base ≤ w.heap.size) (hs : s = 1 ∨ s = 2 ∨ s = 4 ∨ s = 8) (hx : x < 18446744073709551616) (hn : n ≤ 70368744177664) :
    Puts 43 #[.slice A n c, .int .u64 x, .int .i64 s] w base (.slice A n c) n xs (Cl.lb x s) := by
  unfold Puts
  rw [Cl.lb_len]
  obtain ⟨i, hi, hz0, hz1, hz2⟩ := info_parts byteInfo
  have hs0 : 0 < s := by omega
  have hs8 : s ≤ 8 := by omega
  have Hown0 := hide hown
  have Hi := hide hi
  have Hz0 := hide hz0
  have Hz1 := hide hz1
  have Hz2 := hide hz2
  have Hs := hide hs
  clear hown hi hz0 hz1 hz2 hs
  go_enter Try.func43, Try.ntmps43
  have hzz : (madeCells (Value.int .u8 0).cells (s * 1)).toList = bys (List.replicate s 0) := by simp [bys, Value.cells, toList_madeCells_one]
  have Hzz := hide hzz
  clear hzz
  go_wp2_with (at_make; refine wpList_make_full _ rfl _ _ 24 rfl w.heap.size 5 i (.int .u8 0) 1 Try.underlying24 (unhide Hi) (unhide Hz0) (unhide Hz1) _ _ _ _ s rfl rfl rfl rfl (by rw [unhide Hz2]; omega) (by unfold maxLen; omega) (Nat.le_refl _) ?_; intro w1 hown hgrow; have Hb1 := hide ((Below.refl w.heap.size w).grown hgrow (Nat.le_refl _) (fun k hk => by cases hk)); rw [unhide Hzz] at hown; have Hmk := hide (Rd.of_own hown); clear hown hgrow)
  refine (set_yes _ s _ w1.heap.size (List.replicate s 0) 0 s x w1 (Nat.le_refl _) (unhide Hmk) (by omega) (unhide Hs) (by omega) hx).mono ?_
  rintro e w2 ⟨A2, c2, rfl, ho2, hb2⟩
  rw [setK_all] at ho2
  have Hr2 := hide (Rd.of_own ho2)
  have hb2' := (unhide Hb1).trans (hb2.mono (unhide Hb1).size)
  have Hb2 := hide hb2'
  have Ho1 := hide (own_below (unhide Hown0) hb2')
  have hsz2 := Nat.le_trans hbase hb2'.size
  clear ho2 hb2 hb2' Hmk Hb1 Hown0 Hi Hz0 Hz1 Hz2
  go_wp2_with (at_builtin; refine wpList_app byteTy rfl _ _ rfl base (.slice A n c) n (bys xs) rfl (unhide Ho1) w2.heap.size A2 s c2 (bys (Cl.lb x s)) rfl (unhide Hr2) (bys_one _) (by omega) hsz2 ?_; intro A3 c3 w3 ho3 hg3 hat3; rw [← bys_app] at ho3; have Hg3 := hide (Grew.after (unhide Hb2) ⟨ho3, hg3, hat3⟩); clear ho3 hg3 hat3)
  go_ret
  exact ⟨_, _, rfl, unhide Hg3⟩

set_option maxRecDepth 100000 in
set_option maxHeartbeats 1000000 in
theorem putText_any (A : Option Addr) (n c base : Nat) (xs : List UInt8) (s : ByteArray) (w : World) (hown : w.ownsRow base 5 1 (.slice A n c) n (bys xs)) (hbase : base ≤ w.heap.size) (hn : n ≤ 35184372088832) (hs : s.size ≤ 35184372088832) :
    Puts 41 #[.slice A n c, .string s] w base (.slice A n c) n xs (Cl.txt (Cl.bl s)) := by
  unfold Puts Cl.txt
  rw [List.length_append, Cl.lb_len, Cl.bl_len]
  have K := hide (put_any A n c base 2 s.size xs w hown hbase (by omega) (by omega) (by omega))
  clear hown
  go_enter Try.func41, Try.ntmps41
  go_wp2_with (first
    | (go_at_call 43; refine (unhide K).mono ?_; rintro e w1 ⟨A1, c1, rfl, hg1⟩; rw [Cl.lb_len] at hg1 ⊢; have Hg1 := hide hg1; have hsz := hg1.kept.size; clear hg1)
    | (at_builtin; refine wpList_appS rfl _ _ rfl base _ (n + 2) (xs ++ Cl.lb s.size 2) rfl (unhide Hg1).own s rfl (by omega) (by omega) ?_; intro A2 c2 w2 hg2; have Hg2 := hide ((unhide Hg1).trans hg2); clear hg2))
  go_ret
  have h := unhide Hg2
  rw [List.append_assoc] at h
  rw [← Nat.add_assoc]
  exact ⟨A2, c2, rfl, h⟩
/-- What lists of texts take is not too much: each text, and all of them in all. -/
def big (l : List ByteArray) : Nat := (Cl.txts l).length
theorem txts_snoc {l : List ByteArray} {k : Nat} {x : ByteArray} (h : l[k]? = some x) : Cl.txts (l.take (k + 1)) = Cl.txts (l.take k) ++ Cl.txt (Cl.bl x) := by
  rw [List.take_add_one, h, Cl.txts_app]
  simp [Cl.txts]
theorem txts_le (l : List ByteArray) (k : Nat) : (Cl.txts (l.take k)).length ≤ (Cl.txts l).length := by
  conv => rhs; rw [← List.take_append_drop k l, Cl.txts_app, List.length_append]
  omega

set_option maxRecDepth 100000 in
set_option maxHeartbeats 1000000 in
theorem putList_any (A : Option Addr) (n c base : Nat) (xs : List UInt8) (A2 : Option Addr) (m d B : Nat) (l : List ByteArray) (w : World) (hown : w.ownsRow base 5 1 (.slice A n c) n (bys xs)) (hbase : base ≤ w.heap.size) (hn : n ≤ 17592186044416)
    (hl : Rd w B 1 A2 m (l.map Value.string)) (hB : B ≤ base) (hm : m ≤ 17592186044416) (hs : ∀ x ∈ l, x.size ≤ 35184372088832) (hbig : (Cl.txts l).length ≤ 8796093022208) :
    Puts 42 #[.slice A n c, .slice A2 m d] w base (.slice A n c) n xs (Cl.lst l) := by
  unfold Puts Cl.lst
  have hll : l.length = m := by simpa using hl.len1
  rw [List.length_append, Cl.lb_len, hll]
  have K := hide (put_any A n c base 1 m xs w hown hbase (by omega) (by omega) (by omega))
  have Hl := hide hl
  have Hll := hide hll
  have Hs := hide hs
  have hnb : ∀ k, (Value.slice A n c).ownBlock = some k → B ≤ k := fun k hk => Nat.le_trans hB (own_lt hown k hk)
  have Hnb := hide hnb
  clear hl hll hs hown hnb
  go_enter Try.func42, Try.ntmps42
  go_wp2_with fail
  refine (unhide K).mono ?_
  rintro e w1 ⟨A1, c1, rfl, hg1⟩
  rw [Cl.lb_len] at hg1 ⊢
  have Hg1 := hide hg1
  clear hg1 K
  go_wp2_with fail
  go_loopg [0, 14] m (fun gk b i wr => ∃ (k : Nat) (Ak : Option Addr) (ck : Nat), gk = m - k ∧ k ≤ m ∧ i = .int .i64 k ∧ b = .slice Ak (n + 1 + (Cl.txts (l.take k)).length) ck ∧ Grew w wr base (.slice A n c) (.slice Ak (n + 1 + (Cl.txts (l.take k)).length) ck) (n + 1 + (Cl.txts (l.take k)).length) (xs ++ Cl.lb m 1 ++ Cl.txts (l.take k)))
  case atStart => exact ⟨0, A1, c1, by omega, by omega, rfl, by simp [Cl.txts], by simpa [Cl.txts] using unhide Hg1⟩
  case round =>
  obtain ⟨k, Ak, ck, hgk, hk, rfl, rfl, hg⟩ := hrel
  have Hgk := hide hgk
  have Hg := hide hg
  clear hgk hg Hg1
  have hsz := (unhide Hg).kept.size
  have hbk := (unhide Hg).below (Nat.le_trans hB hbase) (unhide Hnb)
  rcases Nat.lt_or_ge k m with hlt | hge
  case inr =>
    obtain rfl : k = m := by omega
    have e : l.take k = l := List.take_of_length_le (by have := unhide Hll; omega)
    rw [e] at Hg
    rw [e]
    clear hbk
    go_wp2
    go_ret
    rw [← Nat.add_assoc]
    have h := unhide Hg
    rw [List.append_assoc] at h
    exact ⟨Ak, ck, rfl, h⟩
  obtain ⟨x, hx⟩ : ∃ x, l[k]? = some x := ⟨_, List.getElem?_eq_getElem (by rw [unhide Hll]; exact hlt)⟩
  obtain ⟨b1, o1, rfl, hbb, c0⟩ := ((unhide Hl).below hbk).at_ (k := k) (u := .string x) (by simp [hx])
  have hle := txts_le l k
  have K2 := hide (putText_any Ak (n + 1 + (Cl.txts (l.take k)).length) ck base _ x wr (unhide Hg).own (Nat.le_trans hbase hsz) (by omega) ((unhide Hs) _ (List.mem_of_getElem? hx)))
  have Hx := hide (txts_snoc hx)
  clear hx hle hbk
  generalize hq : (Cl.txts (l.take k)).length = q at *
  have Hq := hide hq
  clear hq
  go_wp2_with fail
  refine (unhide K2).mono ?_
  rintro e w2 ⟨A3, c3, rfl, hg2⟩
  have Hg2 := hide ((unhide Hg).trans hg2)
  clear hg2 Hg
  go_wp2_with fail
  go_roundg (m - (k + 1))
  case measure => have := unhide Hgk; omega
  case rel => exact ⟨k + 1, A3, c3, rfl, by omega, by go_num, by rw [unhide Hx, List.length_append, unhide Hq, Nat.add_assoc (n + 1)], by rw [unhide Hx, List.length_append, unhide Hq, ← Nat.add_assoc (n + 1), ← List.append_assoc]; exact unhide Hg2⟩
end Go.Proofs.Ytphbkjdheopmhaa
