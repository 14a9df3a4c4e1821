/- The walks of envs.Check, of its reference, and of the helpers of calls.Check. Conditions: the lists and texts are no longer than the model's greatest length. -/
import Derived.Test.YtphbkjdheopmhaaCalls1
import Derived.Test.YtphbkjdheopmhaaCallsPure
import Derived.Test.YtphbkjdheopmhaaPathsC
import Derived.Test.YtphbkjdheopmhaaWords
import Derived.Deep.LoopGhost
namespace Go.Proofs.Ytphbkjdheopmhaa
set_option linter.unusedVariables false
set_option linter.unusedSimpArgs false
open Go.RowKit

def IdxB (b : Bool) (w : World) (e : Ending) (w' : World) : Prop := ∃ r : Int, e = .returned (.int .i64 r) ∧ decide (0 ≤ r) = b ∧ w = w'

set_option maxHeartbeats 1000000 in
theorem indexFunc_any (fn : FuncId) (p : ByteArray → Bool) (hcf : ∀ (args : Array Value) (w : World), (callFunc fn args).run Try.prog w = .ok (.enter fn args) w)
    (hfn : ∀ (x : ByteArray) (w : World), x.size ≤ maxLen → Calls Try.prog fn #[.string x] w fun e w' => e = .returned (.bool (p x)) ∧ w = w')
    (A : Option Addr) (n c B : Nat) (l : List ByteArray) (w : World) (hl : Rd w B 1 A n (l.map Value.string)) (hs : ∀ x ∈ l, x.size ≤ maxLen) (hn : n ≤ maxLen) :
    Calls Try.prog 74 #[.slice A n c, .func (.func fn) #[] #[]] w (IdxB (l.any p) w) := by
  have hln : l.length = n := by simpa using hl.len1
  unfold maxLen at hn
  have Hl := hide hl
  have Hln := hide hln
  have Hs := hide hs
  have Hfn := hide hfn
  clear hl hln hs hfn
  go_enter Try.func74, Try.ntmps74
  go_wp2_with fail
  go_loopg [8] n (fun gk i wr => ∃ k : Nat, gk = n - k ∧ k ≤ n ∧ i = .int .i64 k ∧ (l.take k).any p = false ∧ w = wr)
  case atStart => exact ⟨0, by omega, Nat.zero_le _, rfl, rfl, rfl⟩
  case round =>
    obtain ⟨k, hgk, hk, rfl, hno, rfl⟩ := hrel
    have Hgk := hide hgk
    have Hno := hide hno
    clear hgk hno
    by_cases hlt : k < n
    · obtain ⟨x, hx⟩ : ∃ x, l[k]? = some x := ⟨_, List.getElem?_eq_getElem (by rw [unhide Hln]; exact hlt)⟩
      obtain ⟨b1, o1, rfl, _, c1⟩ := (unhide Hl).at_ (k := k) (u := .string x) (by simp [hx])
      have hc := fun (w' : World) => (unhide Hfn) x w' ((unhide Hs) _ (List.mem_of_getElem? hx))
      cases hp : p x
      · have hno2 : (l.take (k + 1)).any p = false := by rw [List.take_add_one, hx]; simp [unhide Hno, hp]
        rw [hp] at hc
        have Hc := hide hc
        have Hno2 := hide hno2
        clear hc hno2 hp hx
        go_wp2_with ((with_reducible refine ((unhide Hc) _).mono ?_); rintro e w1 ⟨rfl, rfl⟩)
        go_roundg (n - (k + 1))
        case measure => have := unhide Hgk; omega
        case rel => exact ⟨k + 1, rfl, by omega, by go_num, unhide Hno2, rfl⟩
      · have hyes : l.any p = true := List.any_eq_true.2 ⟨x, List.mem_of_getElem? hx, hp⟩
        rw [hp] at hc
        have Hc := hide hc
        have Hyes := hide hyes
        clear hc hyes hp hx
        go_wp2_with ((with_reducible refine ((unhide Hc) _).mono ?_); rintro e w1 ⟨rfl, rfl⟩)
        go_ret
        exact ⟨k, rfl, by rw [unhide Hyes]; simp, rfl⟩
    · have hno2 : l.any p = false := by
        have := unhide Hno
        rwa [List.take_of_length_le (by have := unhide Hln; omega)] at this
      have Hno2 := hide hno2
      clear hno2
      go_wp2_with fail
      go_ret
      exact ⟨-1, rfl, by rw [unhide Hno2]; rfl, rfl⟩

theorem containsFunc_any (fn : FuncId) (p : ByteArray → Bool) (hcf : ∀ (args : Array Value) (w : World), (callFunc fn args).run Try.prog w = .ok (.enter fn args) w)
    (hfn : ∀ (x : ByteArray) (w : World), x.size ≤ maxLen → Calls Try.prog fn #[.string x] w fun e w' => e = .returned (.bool (p x)) ∧ w = w')
    (A : Option Addr) (n c B : Nat) (l : List ByteArray) (w : World) (hl : Rd w B 1 A n (l.map Value.string)) (hs : ∀ x ∈ l, x.size ≤ maxLen) (hn : n ≤ maxLen) :
    Calls Try.prog 61 #[.slice A n c, .func (.func fn) #[] #[]] w fun e w' => e = .returned (.bool (l.any p)) ∧ w = w' := by
  have hi := indexFunc_any fn p hcf hfn A n c B l w hl hs hn
  generalize l.any p = b at *
  have Hi := hide hi
  clear hi hl hs hfn hcf
  go_enter Try.func61, Try.ntmps61
  go_wp2_with (go_at_call 74; refine (unhide Hi).mono ?_; rintro e w1 ⟨r, rfl, hr, rfl⟩)
  go_ret
  exact ⟨ret_bool rfl, rfl⟩

theorem ck1_any (x : ByteArray) (w : World) (hx : x.size ≤ maxLen) : Calls Try.prog 62 #[.string x] w fun e w' => e = .returned (.bool (Cl.bigT x)) ∧ w = w' := by
  unfold maxLen at hx
  have e1 : Cl.bigT x = decide ((256 : Int) < (x.size : Int)) := by unfold Cl.bigT; rw [decide_eq_decide]; omega
  rw [e1]
  clear e1
  go_enter Try.func62, Try.ntmps62
  go_wp2_with fail
  go_ret
  exact ⟨rfl, rfl⟩
theorem nought_any (x : ByteArray) (w : World) : Calls Try.prog 63 #[.string x] w fun e w' => e = .returned (.bool (Cl.zeroT x)) ∧ w = w' := by
  have hc := fun (w' : World) => flipw (Try.strings_Contains_one x 0 w')
  have hcn := Lib.contains_iff_indexByte x.data.toList 0
  have e : decide (0 ≤ Lib.indexByte x.data.toList 0) = Cl.zeroT x := by
    unfold Cl.zeroT
    rw [← hcn]
  rw [e] at hc
  have Hc := hide hc
  clear hc hcn e
  go_enter Try.func63, Try.ntmps63
  go_wp2_with (go_at_call 58; refine ((unhide Hc) _).mono ?_; rintro e w1 ⟨rfl, rfl⟩)
  go_ret
  exact ⟨rfl, rfl⟩
theorem callFunc_ck1 (args : Array Value) (w : World) : (callFunc 62 args).run Try.prog w = .ok (.enter 62 args) w := by kernel_rfl
theorem callFunc_nought (args : Array Value) (w : World) : (callFunc 63 args).run Try.prog w = .ok (.enter 63 args) w := by kernel_rfl

set_option maxHeartbeats 1000000 in
theorem envCheck_any (A : Option Addr) (n c B : Nat) (l : List ByteArray) (w : World) (hl : Rd w B 1 A n (l.map Value.string)) (hs : ∀ x ∈ l, x.size ≤ maxLen) (hn : n ≤ maxLen) :
    Calls Try.prog 35 #[.slice A n c] w fun e w' => e = .returned (.int .i64 (Cl.envCk l)) ∧ w = w' := by
  have hln : l.length = n := by simpa using hl.len1
  have h1 := containsFunc_any 62 Cl.bigT callFunc_ck1 (fun x w' hx => ck1_any x w' hx) A n c B l w hl hs hn
  have h2 := containsFunc_any 63 Cl.zeroT callFunc_nought (fun x w' hx => nought_any x w') A n c B l w hl hs hn
  have hck : Cl.envCk l = if 32 < n then 12 else if l.any Cl.bigT then 12 else if l.any Cl.zeroT then 1 else 0 := by unfold Cl.envCk; rw [hln]
  rw [hck]
  unfold maxLen at hn
  generalize l.any Cl.bigT = b1 at *
  generalize l.any Cl.zeroT = b2 at *
  have H1 := hide h1
  have H2 := hide h2
  clear h1 h2 hck hl hs hln
  by_cases h32 : 32 < n
  · rw [if_pos h32]
    go_enter Try.func35, Try.ntmps35
    go_wp2_with fail
    go_ret
    exact ⟨rfl, rfl⟩
  · rw [if_neg h32]
    cases b1
    · cases b2
      all_goals
        go_enter Try.func35, Try.ntmps35
        go_wp2_with fail
        refine (unhide H1).mono ?_
        rintro e w1 ⟨rfl, rfl⟩
        go_wp2_with fail
        refine (unhide H2).mono ?_
        rintro e w1 ⟨rfl, rfl⟩
        go_wp2_with fail
        go_ret
        exact ⟨rfl, rfl⟩
    · go_enter Try.func35, Try.ntmps35
      go_wp2_with fail
      refine (unhide H1).mono ?_
      rintro e w1 ⟨rfl, rfl⟩
      go_wp2_with fail
      go_ret
      exact ⟨rfl, rfl⟩

set_option maxHeartbeats 1000000 in
theorem rhas_any (s : ByteArray) (w : World) (hs : s.size ≤ maxLen) : Calls Try.prog 66 #[.string s, .int .u8 0] w fun e w' => e = .returned (.bool (Cl.zeroT s)) ∧ w = w' := by
  unfold maxLen at hs
  obtain ⟨r, hr⟩ : ∃ r, Cl.zeroT s = r := ⟨_, rfl⟩
  rw [hr]
  have Hr := hide hr
  clear hr
  go_enter Try.func66, Try.ntmps66
  go_wp2_with fail
  go_loopg [5] s.size (fun gk i wr => ∃ k : Nat, gk = s.size - k ∧ k ≤ s.size ∧ i = .int .i64 k ∧ (s.data.toList.take k).contains 0 = false ∧ w = wr)
  case atStart => exact ⟨0, by omega, by omega, rfl, by simp, rfl⟩
  case round =>
    obtain ⟨k, hgk, hk, rfl, hz, rfl⟩ := hrel
    have Hz := hide hz
    have Hgk := hide hgk
    clear hz hgk
    by_cases hlt : k < s.size
    · by_cases hc : s[k] = 0
      · have b2 : (((s[k].toNat : Nat) : Int) == 0) = true := by rw [byte_0]; simpa using hc
        have hm : Cl.zeroT s = true := by
          unfold Cl.zeroT
          rw [List.contains_iff_mem, ← hc]
          exact Array.getElem_mem_toList _
        rw [unhide Hr] at hm
        subst hm
        clear hc
        go_wp2
        go_ret
        exact ⟨rfl, rfl⟩
      · have b2 : (((s[k].toNat : Nat) : Int) == 0) = false := by rw [byte_0]; simpa using hc
        have hz : (s.data.toList.take (k + 1)).contains 0 = false := by
          rw [List.take_succ_eq_append_getElem (by simpa using hlt), List.contains_append, unhide Hz]
          simp only [Bool.false_or]
          exact by simpa using fun h => hc h.symm
        have Hz2 := hide hz
        clear hz hc
        go_wp2
        go_roundg (s.size - (k + 1))
        case measure => have := unhide Hgk; omega
        case rel => exact ⟨k + 1, rfl, by omega, by go_num, unhide Hz2, rfl⟩
    · have hz : Cl.zeroT s = false := by
        have := unhide Hz
        unfold Cl.zeroT
        rwa [List.take_of_length_le (by simp; omega)] at this
      rw [unhide Hr] at hz
      subst hz
      go_wp2
      go_ret
      exact ⟨rfl, rfl⟩

set_option maxHeartbeats 2000000 in
theorem renvCheck_any (A : Option Addr) (n c B : Nat) (l : List ByteArray) (w : World) (hl : Rd w B 1 A n (l.map Value.string)) (hs : ∀ x ∈ l, x.size ≤ maxLen) (hn : n ≤ maxLen) :
    Calls Try.prog 39 #[.slice A n c] w fun e w' => e = .returned (.int .i64 (Cl.envCk l)) ∧ w = w' := by
  have hln : l.length = n := by simpa using hl.len1
  have hck : Cl.envCk l = if 32 < n then 12 else if l.any Cl.bigT then 12 else if l.any Cl.zeroT then 1 else 0 := by unfold Cl.envCk; rw [hln]
  unfold maxLen at hn
  obtain ⟨r, hr⟩ : ∃ r, Cl.envCk l = r := ⟨_, rfl⟩
  rw [hr]
  rw [hr] at hck
  have Hck := hide hck
  have Hl := hide hl
  have Hs := hide hs
  have Hln := hide hln
  clear hck hl hs hln hr
  by_cases h32 : 32 < n
  · have h := unhide Hck
    rw [if_pos h32] at h
    subst h
    go_enter Try.func39, Try.ntmps39
    go_wp2_with fail
    go_ret
    exact ⟨rfl, rfl⟩
  have hck := unhide Hck
  rw [if_neg h32] at hck
  replace Hck := hide hck
  clear hck
  go_enter Try.func39, Try.ntmps39
  go_wp2_with fail
  go_loopg [3] n (fun gk i wr => ∃ k : Nat, gk = n - k ∧ k ≤ n ∧ i = .int .i64 k ∧ (l.take k).any Cl.bigT = false ∧ w = wr)
  case atStart => exact ⟨0, by omega, by omega, rfl, rfl, rfl⟩
  case round =>
  obtain ⟨k, hgk, hk, rfl, hno, rfl⟩ := hrel
  have Hgk := hide hgk
  have Hno := hide hno
  clear hgk hno
  rcases Nat.lt_or_ge k n with hlt | hge
  case inl =>
    obtain ⟨x, hx⟩ : ∃ x, l[k]? = some x := ⟨_, List.getElem?_eq_getElem (by rw [unhide Hln]; exact hlt)⟩
    obtain ⟨b1, o1, rfl, _, c1⟩ := (unhide Hl).at_ (k := k) (u := .string x) (by simp [hx])
    have hxs := (unhide Hs) _ (List.mem_of_getElem? hx)
    unfold maxLen at hxs
    by_cases hb : 256 < x.size
    · have hyes : l.any Cl.bigT = true := List.any_eq_true.2 ⟨x, List.mem_of_getElem? hx, by simp [Cl.bigT, hb]⟩
      have h := unhide Hck
      rw [hyes, if_pos rfl] at h
      subst h
      clear hx hyes
      go_wp2_with fail
      go_ret
      exact ⟨rfl, rfl⟩
    · have hno2 : (l.take (k + 1)).any Cl.bigT = false := by rw [List.take_add_one, hx]; simp [unhide Hno, Cl.bigT]; omega
      have Hno2 := hide hno2
      clear hno2 hx
      go_wp2_with fail
      go_roundg (n - (k + 1))
      case measure => have := unhide Hgk; omega
      case rel => exact ⟨k + 1, rfl, by omega, by go_num, unhide Hno2, rfl⟩
  obtain rfl : k = n := by omega
  have hno2 : l.any Cl.bigT = false := by
    have := unhide Hno
    rwa [List.take_of_length_le (by have := unhide Hln; omega)] at this
  have hck := unhide Hck
  rw [hno2] at hck
  simp only [Bool.false_eq_true, if_false] at hck
  replace Hck := hide hck
  clear hck hno2 Hno Hgk
  go_wp2_with fail
  go_loopg [4] k (fun gk i wr => ∃ j : Nat, gk = k - j ∧ j ≤ k ∧ i = .int .i64 j ∧ (l.take j).any Cl.zeroT = false ∧ w = wr)
  case atStart => exact ⟨0, by omega, by omega, rfl, rfl, rfl⟩
  case round =>
  obtain ⟨j, hgk, hj, rfl, hno, rfl⟩ := hrel
  have Hgk := hide hgk
  have Hno := hide hno
  clear hgk hno
  rcases Nat.lt_or_ge j k with hlt | hge2
  case inl =>
    obtain ⟨x, hx⟩ : ∃ x, l[j]? = some x := ⟨_, List.getElem?_eq_getElem (by rw [unhide Hln]; exact hlt)⟩
    obtain ⟨b1, o1, rfl, _, c1⟩ := (unhide Hl).at_ (k := j) (u := .string x) (by simp [hx])
    have hh := fun (w' : World) => rhas_any x w' ((unhide Hs) _ (List.mem_of_getElem? hx))
    cases hb : Cl.zeroT x
    · have hno2 : (l.take (j + 1)).any Cl.zeroT = false := by rw [List.take_add_one, hx]; simp [unhide Hno, hb]
      rw [hb] at hh
      have Hno2 := hide hno2
      have Hh := hide hh
      clear hno2 hx hh hb
      go_wp2_with (go_at_call 66; refine ((unhide Hh) _).mono ?_; rintro e w1 ⟨rfl, rfl⟩)
      go_roundg (k - (j + 1))
      case measure => have := unhide Hgk; omega
      case rel => exact ⟨j + 1, rfl, by omega, by go_num, unhide Hno2, rfl⟩
    · have hyes : l.any Cl.zeroT = true := List.any_eq_true.2 ⟨x, List.mem_of_getElem? hx, hb⟩
      have h := unhide Hck
      rw [hyes, if_pos rfl] at h
      subst h
      rw [hb] at hh
      have Hh := hide hh
      clear hx hyes hh hb
      go_wp2_with (go_at_call 66; refine ((unhide Hh) _).mono ?_; rintro e w1 ⟨rfl, rfl⟩)
      go_ret
      exact ⟨rfl, rfl⟩
  have hno3 : l.any Cl.zeroT = false := by
    have := unhide Hno
    rwa [List.take_of_length_le (by have := unhide Hln; omega)] at this
  have h := unhide Hck
  rw [hno3] at h
  simp only [Bool.false_eq_true, if_false] at h
  subst h
  clear hno3
  go_wp2_with fail
  go_ret
  exact ⟨rfl, rfl⟩

theorem indexFld_any (A : Option Addr) (n c B : Nat) (xs : List Int) (v : Int) (w : World) (hx : Rd w B 1 A n (xs.map (Value.int .i64))) (hn : n ≤ maxLen) :
    Calls Try.prog 57 #[.slice A n c, .int .i64 v] w (IdxInt xs v w) := by
  have hxl : xs.length = n := by simpa using hx.len1
  unfold maxLen at hn
  have Hx := hide hx
  have Hxl := hide hxl
  clear hx hxl
  go_enter Try.func57, Try.ntmps57
  go_wp2
  go_loop [8] (fun i => ∃ k : Nat, k ≤ n ∧ i = .int .i64 k ∧ v ∉ xs.take k) (fun i => n - (intOf i).toNat)
  case atStart => exact ⟨0, Nat.zero_le _, rfl, by simp⟩
  case round =>
    obtain ⟨k, hk, rfl, hv⟩ := hrel
    have Hv := hide hv
    clear hv
    by_cases hlt : k < n
    · obtain ⟨x, hxk⟩ : ∃ x, xs[k]? = some x := ⟨_, List.getElem?_eq_getElem (by rw [unhide Hxl]; exact hlt)⟩
      obtain ⟨b1, o1, rfl, _, c1⟩ := (unhide Hx).at_ (k := k) (u := .int .i64 x) (by simp [hxk])
      by_cases he : v = x
      · have hb : (v == x) = true := by simpa using he
        have hm : v ∈ xs := by rw [he]; exact List.mem_of_getElem? hxk
        have Hm := hide hm
        clear he hxk hm
        go_wp2
        go_ret
        exact ⟨k, rfl, ⟨fun _ => unhide Hm, fun _ => by omega⟩, rfl⟩
      · have hb : (v == x) = false := by simpa using he
        have hm : v ∉ xs.take (k + 1) := by
          rw [List.take_add_one, hxk, List.mem_append]
          simp [he, unhide Hv]
        have Hm := hide hm
        clear he hxk hm
        go_wp2
        go_round
        case rel => exact ⟨k + 1, by omega, by go_num, unhide Hm⟩
        case measure => simp [intOf]; omega
    · have hm : v ∉ xs := by
        have := unhide Hv
        rwa [List.take_of_length_le (by have := unhide Hxl; omega)] at this
      have Hm := hide hm
      clear hm
      go_wp2
      go_ret
      exact ⟨-1, rfl, ⟨fun h => by omega, fun h => absurd h (unhide Hm)⟩, rfl⟩

theorem containsFld_any (A : Option Addr) (n c B : Nat) (xs : List Int) (v : Int) (w : World) (hx : Rd w B 1 A n (xs.map (Value.int .i64))) (hn : n ≤ maxLen) :
    Calls Try.prog 31 #[.slice A n c, .int .i64 v] w fun e w' => e = .returned (.bool (Wd.memB v xs)) ∧ w = w' := by
  have Hx := hide hx
  clear hx
  go_enter Try.func31, Try.ntmps31
  go_wp2_with (go_at_call 57; refine (indexFld_any _ _ _ _ _ _ _ (unhide Hx) hn).mono ?_; rintro e w1 ⟨r, rfl, hr, rfl⟩; have Hr := hide hr; clear hr)
  go_ret
  refine ⟨ret_bool ?_, rfl⟩
  unfold Wd.memB
  rw [Bool.eq_iff_iff, decide_eq_true_eq, decide_eq_true_eq]
  exact unhide Hr


theorem unless_any (b : Bool) (x : Int) (w : World) : Calls Try.prog 36 #[.bool b, .int .i64 x] w fun e w' => e = .returned (.int .i64 (if b then x else 0)) ∧ w = w' := by
  cases b
  all_goals
    go_enter Try.func36, Try.ntmps36
    go_wp2_with fail
    go_ret
    exact ⟨rfl, rfl⟩

end Go.Proofs.Ytphbkjdheopmhaa
