/- The statement StackTells: whatever the input, the law returns true, and what was there reads as it did. No conditions. Ahead of it: The walk of stack.Lay. Conditions: as the arguments'. Rows of bytes that a conversion of a text has laid (they bear a mark behind their last cell): read, kept, appended to. No conditions. The walk of hostelref00.marked; the state of Apart. Conditions: there are fewer than 2^32 bytes. The walk of hostelref00.Apart: rows of the call's own that lie apart. Conditions: there are fewer than 2^32 bytes in each. The walks of hostelref20's text and put. Conditions: there are fewer than 2^32 bytes. string(b) of bytes that are read; parts of what is read. No conditions. The walks of the stack's reader: next, upTo. Conditions: there are fewer than 2^32 bytes. The walk of the stack's reader: vector. Conditions: there are fewer than 2^32 bytes. The walk of stack.texts. Conditions: there are fewer than 2^32 bytes. The walk of stack.Read. Conditions: there are fewer than 2^32 bytes. The walks of the law's own helpers: large, copied, eq. Conditions: as stack.Lay's. The walk of the law's own eq: are pairs the same? Conditions: as stack.Lay's. The walks of the law's own copied and within. Conditions: as stack.Lay's. The plain law of stack: what is read keeps to the limits, and each text stands in the bytes. No conditions. The plain laws of stack: what was laid is read again; what is read keeps to the limits. Conditions: the limits. The walk of the law's own (Begun).large. Conditions: as stack.Lay's. The plain lemma on the capacity of a row of the call's own. No conditions. The anchor of the law: its plain facts, and its walk. No conditions. The walk of StackTells. Conditions: as the argument's. What an argument that is a slice of bytes, of integers or of strings reads as: a list, cell by cell. No conditions. -/
import Derived.Test.YtmoenjmhogmcoaaTl1
import Derived.Laws.EntriesVeiled
import Derived.Laws.IdiomStrings
import Derived.Laws.CopyRow
import Derived.Laws.BytesArg
import Derived.Test.YtmoenjmhogmcoaaShelf
import Derived.Lib.IndexLaws
import Derived.ChangeSlices
import Derived.SliceStrings
import Derived.OpenShut
import Derived.Test.YtmoenjmhogmcoaaRows
import Derived.ProofKit
import Derived.ShutString
import Derived.ChangeOld
import Derived.Below
namespace Go.Proofs.Ytmoenjmhogmcoaa
set_option linter.unusedVariables false
set_option linter.unusedSimpArgs false
open Go.RowKit

def Stk.auxN : List (Nat × Nat) → List Nat
  | [] => []
  | a :: r => a.1 :: a.2 :: Stk.auxN r
theorem Stk.auxN_app (a b : List (Nat × Nat)) : Stk.auxN (a ++ b) = Stk.auxN a ++ Stk.auxN b := by
  induction a with
  | nil => rfl
  | cons s r ih => simp [Stk.auxN, ih]
theorem Stk.auxN_len (a : List (Nat × Nat)) : (Stk.auxN a).length = 2 * a.length := by
  induction a with
  | nil => rfl
  | cons s r ih => simp [Stk.auxN, ih]; omega
/-- The bytes of the texts; how many lie above the environment's, above the arguments'. -/
def Stk.ue (path : ByteArray) : Nat := path.size + 9
def Stk.ua (env : List ByteArray) (path : ByteArray) : Nat := (Stk.txs env).length + Stk.ue path
def Stk.tail (path : ByteArray) : List UInt8 := Stk.tx path ++ List.replicate 8 0
def Stk.txt (argv env : List ByteArray) (path : ByteArray) : List UInt8 := Stk.txs argv ++ (Stk.txs env ++ Stk.tail path)
theorem Stk.tail_len (path : ByteArray) : (Stk.tail path).length = Stk.ue path := by simp [Stk.tail, Stk.tx_len, Stk.ue]
def Stk.vec (argv env : List ByteArray) (aux : List (Nat × Nat)) (path : ByteArray) : List Nat :=
  [argv.length] ++ Stk.adr (Stk.ua env path) argv ++ [0] ++ Stk.adr (Stk.ue path) env ++ [0] ++ Stk.auxN aux ++ [31, Stk.top - Stk.ue path, 0, 0]
def Stk.pad (n : Nat) : Nat := (16 - n % 16) % 16
def Stk.whole (argv env : List ByteArray) (aux : List (Nat × Nat)) (path : ByteArray) : List UInt8 :=
  Stk.nums (Stk.vec argv env aux path) ++ List.replicate (Stk.pad ((Stk.nums (Stk.vec argv env aux path)).length + (Stk.txt argv env path).length)) 0 ++ Stk.txt argv env path
/-- What Lay answers. -/
def Stk.lay (argv env : List ByteArray) (aux : List (Nat × Nat)) (path : ByteArray) : List UInt8 × Nat × Int :=
  if Stk.mayE argv env aux path ≠ 0 then ([], 0, Stk.mayE argv env aux path) else if 16384 < (Stk.whole argv env aux path).length then ([], 0, 12) else (Stk.whole argv env aux path, Stk.top - (Stk.whole argv env aux path).length, 0)
/-- What keeps to the limits. -/
structure Stk.Ok (argv env : List ByteArray) (aux : List (Nat × Nat)) (path : ByteArray) : Prop where
  a : Cl.envCk argv = 0
  e : Cl.envCk env = 0
  p : path.size ≤ 200
  x : aux.length ≤ 16
  z : Cl.zeroT path = false
  b : aux.any Stk.bad = false
theorem Stk.may_ok {argv env : List ByteArray} {aux : List (Nat × Nat)} {path : ByteArray} (h : Stk.mayE argv env aux path = 0) : Stk.Ok argv env aux path := by
  unfold Stk.mayE at h
  split at h
  · rename_i h1; exact absurd h h1
  rename_i h1
  split at h
  · rename_i h2; exact absurd h h2
  rename_i h2
  split at h
  · cases h
  rename_i h3
  split at h
  · cases h
  rename_i h4
  split at h
  · cases h
  rename_i h5
  exact ⟨by simpa using h1, by simpa using h2, by omega, by omega, by simpa using h4, by simpa using h5⟩
theorem Stk.txs_le {l : List ByteArray} {k : Nat} (h : ∀ x ∈ l, x.size ≤ k) : (Stk.txs l).length ≤ l.length * (k + 1) := by
  induction l with
  | nil => simp [Stk.txs]
  | cons s r ih =>
    have h1 := h s (.head _)
    have h2 := ih (fun x hx => h x (.tail _ hx))
    simp only [Stk.txs, List.length_append, Stk.tx_len, List.length_cons, Nat.add_mul]
    omega
theorem Stk.Ok.small {argv env : List ByteArray} {aux : List (Nat × Nat)} {path : ByteArray} (h : Stk.Ok argv env aux path) : argv.length ≤ 32 ∧ env.length ≤ 32 ∧ (Stk.txs argv).length ≤ 8224 ∧ (Stk.txs env).length ≤ 8224 := by
  obtain ⟨a1, a2⟩ := Cl.envCk_small h.a
  obtain ⟨e1, e2⟩ := Cl.envCk_small h.e
  have h1 := Stk.txs_le a2
  have h2 := Stk.txs_le e2
  exact ⟨a1, e1, by omega, by omega⟩
/-- What Lay's answer is, in the world behind. -/
def LayEnd (L : List UInt8 × Nat × Int) (w : World) (e : Ending) (w' : World) : Prop := ∃ A' c', e = .returned (.tuple #[.slice A' L.1.length c', .int .u64 (L.2.1 : Nat), .int .i64 L.2.2]) ∧ w'.ownsRow w.heap.size 5 1 (.slice A' L.1.length c') L.1.length (bys L.1) ∧ Below w.heap.size w w'
/-- The three lists that are laid, in a row of slices. -/
def three (path : ByteArray) (env argv : List ByteArray) : Nat → List ByteArray
  | 0 => [path]
  | 1 => env
  | _ => argv
def sizeTo (path : ByteArray) (env argv : List ByteArray) : Nat → Nat
  | 0 => 8
  | k + 1 => sizeTo path env argv k + (Stk.txs (three path env argv k)).length
theorem sizeTo_3 (path : ByteArray) (env argv : List ByteArray) : sizeTo path env argv 3 = (Stk.txt argv env path).length := by
  simp [sizeTo, three, Stk.txt, Stk.tail, Stk.txs, Stk.tx_len]
  omega
theorem sizeTo_le (path : ByteArray) (env argv : List ByteArray) {k : Nat} (hk : k ≤ 3) : sizeTo path env argv k ≤ (Stk.txt argv env path).length := by
  rw [← sizeTo_3]
  obtain rfl | rfl | rfl | rfl : k = 0 ∨ k = 1 ∨ k = 2 ∨ k = 3 := by omega
  all_goals simp only [sizeTo]; omega
theorem Stk.txs_take_le (l : List ByteArray) (k : Nat) : (Stk.txs (l.take k)).length ≤ (Stk.txs l).length := by
  have h : Stk.txs l = Stk.txs (l.take k) ++ Stk.txs (l.drop k) := by rw [← Stk.txs_app, List.take_append_drop]
  rw [h, List.length_append]
  omega
/-- What lies there when the sizes are counted. -/
theorem lay_start (w1 : World) (x y z u v : Value) : ∃ W : World, W = (((w1.alloc (.cells #[x] 3)).alloc (.cells #[y] 9)).alloc (.cells #[z, u, v] 22)) ∧ Blk W w1.heap.size 3 [x] ∧ Blk W (w1.heap.size + 1) 9 [y] ∧ Blk W (w1.heap.size + 1 + 1) 22 [z, u, v] ∧ Below w1.heap.size w1 W ∧ W.heap.size = w1.heap.size + 3 := by
  have h1 := Blk.new w1 3 [x]
  have h2 := Blk.new (w1.alloc (.cells #[x] 3)) 9 [y]
  have h3 := Blk.new ((w1.alloc (.cells #[x] 3)).alloc (.cells #[y] 9)) 22 [z, u, v]
  have e1 : (w1.alloc (.cells #[x] 3)).heap.size = w1.heap.size + 1 := by simp
  have e2 : ((w1.alloc (.cells #[x] 3)).alloc (.cells #[y] 9)).heap.size = w1.heap.size + 1 + 1 := by simp
  rw [e1] at h2
  rw [e2] at h3
  exact ⟨_, rfl, (h1.alloc _).alloc _, h2.alloc _, h3, (((Below.refl _ _).alloc (Nat.le_refl _) _).alloc (by simp) _).alloc (by simp; omega) _, by simp⟩
theorem own_blk {w : World} {base g n : Nat} {e : TypeId} {xs : List Value} (h : w.ownsRow base e 1 (.slice (some ⟨g, 0, none⟩) n n) n xs) : Blk w g e xs := by
  rcases h.2 with ⟨h1, _⟩ | ⟨g', cap, cur, h1, h2, h3, h4, h5, h6, h7⟩
  · cases h1
  · injection h1 with e1 _ e3
    injection e1 with e1
    injection e1 with e1
    subst e1 e3
    have h8 : cur.toList = xs := by
      rw [← h7, List.take_of_length_le]
      rw [Array.length_toList]
      omega
    unfold Blk
    rw [h3, ← h8, Array.toArray_toList]
/-- What lies there when the closures are made. -/
theorem lay_made (w2 : World) (x y z : Value) : ∃ W : World, W = (((w2.alloc (.cells #[x] 29)).alloc (.cells #[y] 3)).alloc (.cells #[z] 49)) ∧ Blk W w2.heap.size 29 [x] ∧ Blk W (w2.heap.size + 1) 3 [y] ∧ Blk W (w2.heap.size + 1 + 1) 49 [z] ∧ Below w2.heap.size w2 W := by
  have h1 := Blk.new w2 29 [x]
  have h2 := Blk.new (w2.alloc (.cells #[x] 29)) 3 [y]
  have h3 := Blk.new ((w2.alloc (.cells #[x] 29)).alloc (.cells #[y] 3)) 49 [z]
  have e1 : (w2.alloc (.cells #[x] 29)).heap.size = w2.heap.size + 1 := by simp
  have e2 : ((w2.alloc (.cells #[x] 29)).alloc (.cells #[y] 3)).heap.size = w2.heap.size + 1 + 1 := by simp
  rw [e1] at h2
  rw [e2] at h3
  exact ⟨_, rfl, (h1.alloc _).alloc _, h2.alloc _, h3, (((Below.refl _ _).alloc (Nat.le_refl _) _).alloc (by simp) _).alloc (by simp; omega) _⟩
/-- The numbers that have been put. -/
structure NumS (w7 wc : World) (A : Option Addr) (c : Nat) (l : List Nat) : Prop where
  own : wc.ownsRow w7.heap.size 5 1 (.slice A (8 * l.length) c) (8 * l.length) (bys (Stk.nums l))
  bel : Below w7.heap.size w7 wc
theorem NumS.below {w7 wc w' : World} {A : Option Addr} {c : Nat} {l : List Nat} (h : NumS w7 wc A c l) (hb : Below wc.heap.size wc w') : NumS w7 w' A c l := ⟨own_below h.own hb, h.bel.trans (hb.mono h.bel.size)⟩
theorem num_put {w7 wc w' : World} {A A' : Option Addr} {c c' : Nat} {l xs : List Nat} (h : NumS w7 wc A c l) (hg : Grew wc w' w7.heap.size (.slice A (8 * l.length) c) (.slice A' (8 * l.length + 8 * xs.length) c') (8 * l.length + 8 * xs.length) (Stk.nums l ++ Stk.nums xs)) : NumS w7 w' A' c' (l ++ xs) := by
  refine ⟨?_, h.bel.trans (hg.below h.bel.size (fun k hk => (h.own.lt k hk).1))⟩
  rw [List.length_append, Nat.mul_add, Stk.nums_app]
  exact hg.own
theorem num_lit {w7 wc : World} {A : Option Addr} {c : Nat} {l : List Nat} (h : NumS w7 wc A c l) (xs : List Nat) (k : Nat) (cs : Array Value) (hcs : cs.toList = u64s xs) (hk : xs.length = k) (hx : ∀ x ∈ xs, x < 18446744073709551616) (hl : 8 * l.length ≤ 4294967296) (hk2 : k ≤ 4294967296) :
    Calls Try.prog 22 #[.slice A (8 * l.length) c, .slice (some ⟨wc.heap.size, 0, none⟩) k k] (wc.alloc (.cells cs 30)) fun e w' => ∃ A' c', e = .returned (.slice A' (8 * (l ++ xs).length) c') ∧ NumS w7 w' A' c' (l ++ xs) := by
  have hbl : Below wc.heap.size wc (wc.alloc (.cells cs 30)) := (Below.refl _ _).alloc (Nat.le_refl _) _
  have h1 := h.below hbl
  have hblk : (wc.alloc (.cells cs 30)).heap[wc.heap.size]? = some (.cells cs 30 (0, 0)) := heap_alloc_new _ _
  have hfr : Fr (wc.alloc (.cells cs 30)) (Value.slice A (8 * l.length) c).ownBlock (some ⟨wc.heap.size, 0, none⟩) k (u64s xs) := by
    refine ⟨by rw [u64s_len, hk], .inr ⟨wc.heap.size, 0, cs, _, (0, 0), rfl, fun e => ?_, hblk, fun j u hu => ?_⟩⟩
    · have := (h.own.lt _ e.symm).2; omega
    · rw [← hcs] at hu
      simpa using hu
  refine (numbers_any A (8 * l.length) c w7.heap.size (Stk.nums l) (some ⟨wc.heap.size, 0, none⟩) k k xs _ h1.own h1.bel.size hfr hx hl hk2).mono ?_
  rintro e w' ⟨A', c', rfl, hg⟩
  refine ⟨A', c', ?_, ?_⟩
  · rw [List.length_append, Nat.mul_add, hk]
  · subst hk
    exact num_put h1 hg
theorem num_litg {w7 wc : World} {A : Option Addr} {c : Nat} {l : List Nat} (h : NumS w7 wc A c l) (xs : List Nat) (k g : Nat) (hg : g = wc.heap.size) (cs : Array Value) (hcs : cs.toList = u64s xs) (hk : xs.length = k) (hx : ∀ x ∈ xs, x < 18446744073709551616) (hl : 8 * l.length ≤ 4294967296) (hk2 : k ≤ 4294967296) :
    Calls Try.prog 22 #[.slice A (8 * l.length) c, .slice (some ⟨g, 0, none⟩) k k] (wc.alloc (.cells cs 30)) fun e w' => ∃ A' c', e = .returned (.slice A' (8 * (l ++ xs).length) c') ∧ NumS w7 w' A' c' (l ++ xs) := by
  subst hg
  exact num_lit h xs k cs hcs hk hx hl hk2
theorem num_row {w7 wc : World} {A : Option Addr} {c : Nat} {l : List Nat} (h : NumS w7 wc A c l) (xs : List Nat) (Aq : Option Addr) (k cq base : Nat) (ho : w7.ownsRow base 30 1 (.slice Aq k cq) k (u64s xs)) (hx : ∀ x ∈ xs, x < 18446744073709551616) (hl : 8 * l.length ≤ 4294967296) (hk2 : k ≤ 4294967296) :
    Calls Try.prog 22 #[.slice A (8 * l.length) c, .slice Aq k cq] wc fun e w' => ∃ A' c', e = .returned (.slice A' (8 * (l ++ xs).length) c') ∧ NumS w7 w' A' c' (l ++ xs) := by
  have hk : xs.length = k := by have := ho.1; rw [u64s_len] at this; omega
  have ho2 := own_below ho h.bel
  have hfr : Fr wc (Value.slice A (8 * l.length) c).ownBlock Aq k (u64s xs) := own_fr ho2 (fun g hg e => by have h1 := (h.own.lt g e).1; have h2 := (ho.lt g hg).2; omega)
  refine (numbers_any A (8 * l.length) c w7.heap.size (Stk.nums l) Aq k cq xs _ h.own h.bel.size hfr hx hl hk2).mono ?_
  rintro e w' ⟨A', c', rfl, hg⟩
  refine ⟨A', c', ?_, ?_⟩
  · rw [List.length_append, Nat.mul_add, hk]
  · subst hk
    exact num_put h hg
theorem NumS.start (w7 : World) : NumS w7 w7 none 0 [] := ⟨World.ownsRow_nil _ _ _ _, Below.refl _ _⟩
theorem Stk.adr_lt (u : Nat) (l : List ByteArray) : ∀ x ∈ Stk.adr u l, x < 18446744073709551616 := by
  induction l with
  | nil => simp [Stk.adr]
  | cons s r ih =>
    intro x hx
    rcases List.mem_cons.1 hx with h | h
    · rw [h]; unfold Stk.top; omega
    · exact ih x h

set_option maxRecDepth 100000 in
set_option maxHeartbeats 16000000 in
theorem slay_any (A1 A2 A3 : Option Addr) (n1 c1 n2 c2 n3 c3 B : Nat) (argv env : List ByteArray) (aux : List (Nat × Nat)) (path : ByteArray) (w : World) (hin : StkIn w B A1 n1 argv A2 n2 env A3 n3 aux) (hB : B ≤ w.heap.size) (hf : StkFit argv env aux path) :
    Calls Try.prog 10 #[.slice A1 n1 c1, .slice A2 n2 c2, .slice A3 n3 c3, .string path] w (LayEnd (Stk.lay argv env aux path) w) := by
  have K1 := hide (scheck_any A1 A2 A3 n1 c1 n2 c2 n3 c3 B argv env aux path w hin hB hf)
  by_cases hm : Stk.mayE argv env aux path = 0
  case neg =>
    have hr : Stk.lay argv env aux path = ([], 0, Stk.mayE argv env aux path) := by unfold Stk.lay; rw [if_pos hm]
    rw [hr]
    have t1 : (Stk.mayE argv env aux path != 0) = true := by simpa using hm
    generalize Stk.mayE argv env aux path = ev at *
    clear hr hm hin hf
    go_enter Try.func10, Try.ntmps10
    go_wp2_with fail
    refine (unhide K1).mono ?_
    rintro e w1 ⟨rfl, hb1⟩
    have Hb1 := hide hb1
    clear hb1 K1
    go_wp2_with fail
    go_ret3
    exact ⟨none, 0, rfl, World.ownsRow_nil _ _ _ _, unhide Hb1⟩
  have hok := Stk.may_ok hm
  obtain ⟨s1, s2, s3, s4⟩ := hok.small
  have hr : Stk.lay argv env aux path = if 16384 < (Stk.whole argv env aux path).length then ([], 0, 12) else (Stk.whole argv env aux path, Stk.top - (Stk.whole argv env aux path).length, 0) := by unfold Stk.lay; rw [if_neg (by simpa using hm)]
  rw [hm] at K1
  have hln1 : argv.length = n1 := by simpa using hin.r1.len1
  have hln2 : env.length = n2 := by simpa using hin.r2.len1
  have hln3 : aux.length = n3 := hin.r3.aux_len
  have hp := hok.p
  have hx := hok.x
  obtain ⟨res, hres⟩ : ∃ res, Stk.lay argv env aux path = res := ⟨_, rfl⟩
  rw [hres]
  rw [hres] at hr
  have Hr := hide hr
  have Hin := hide hin
  have Hf := hide hf
  have Hok := hide hok
  have Hln := hide (And.intro hln1 (And.intro hln2 hln3))
  have Hs := hide (And.intro s3 s4)
  have hn1 : n1 ≤ 32 := by omega
  have hn2 : n2 ≤ 32 := by omega
  have hn3 : n3 ≤ 16 := by omega
  clear hr hres hin hf hok hln1 hln2 hln3 s1 s2 s3 s4 hm hx
  go_enter Try.func10, Try.ntmps10
  go_wp2_with fail
  refine (unhide K1).mono ?_
  rintro e w1 ⟨rfl, hb1⟩
  have Hb1 := hide hb1
  have hs1 := hb1.size
  clear hb1 K1
  go_wp2_with fail
  obtain ⟨W, hW, bs, b1, b2, hbW, hWs⟩ := lay_start w1 (.int .i64 8) (.string path) (.slice (some ⟨w1.heap.size + 1, 0, none⟩) 1 1) (.slice A2 n2 c2) (.slice A1 n1 c1)
  rw [← hW]
  clear hW
  have hrd0 : Rd W W.heap.size 1 (some ⟨w1.heap.size + 1, 0, none⟩) 1 (([path] : List ByteArray).map Value.string) := ⟨rfl, .inr ⟨_, 0, rfl, b1.lt, fun j u hj => by rw [Nat.zero_add]; exact b1.cell hj⟩⟩
  have hbW' := (unhide Hb1).trans (hbW.mono hs1)
  have hrd1 := (unhide Hin).r2.below (hbW'.mono hB)
  have hrd2 := (unhide Hin).r1.below (hbW'.mono hB)
  obtain ⟨fA, fn, fc, hcell, hrd, hfn⟩ : ∃ (fA : Nat → Option Addr) (fn fc : Nat → Nat), (∀ k, k < 3 → W.cell? ⟨w1.heap.size + 1 + 1, k, none⟩ = some (.slice (fA k) (fn k) (fc k))) ∧ (∀ k, k < 3 → (three path env argv k).length = fn k ∧ ∀ j x, (three path env argv k)[j]? = some x → ∃ b o, fA k = some ⟨b, o, none⟩ ∧ b < W.heap.size ∧ b ≠ w1.heap.size ∧ W.cell? ⟨b, o + j, none⟩ = some (.string x)) ∧ (∀ k, k < 3 → fn k ≤ 32) := by
    refine ⟨fun k => match k with | 0 => some ⟨w1.heap.size + 1, 0, none⟩ | 1 => A2 | _ => A1, fun k => match k with | 0 => 1 | 1 => n2 | _ => n1, fun k => match k with | 0 => 1 | 1 => c2 | _ => c1, fun k hk => ?_, fun k hk => ?_, fun k hk => ?_⟩
    · obtain rfl | rfl | rfl : k = 0 ∨ k = 1 ∨ k = 2 := by omega
      · exact b2.cell rfl
      · exact b2.cell rfl
      · exact b2.cell rfl
    · obtain rfl | rfl | rfl : k = 0 ∨ k = 1 ∨ k = 2 := by omega
      · refine ⟨rfl, fun j x hj => ?_⟩
        obtain ⟨b, o, h1, h2, h3⟩ := hrd0.at_ (k := j) (u := .string x) (by have hj' : ([path] : List ByteArray)[j]? = some x := hj; rw [List.getElem?_map, hj']; rfl)
        have hb : b = w1.heap.size + 1 := by injection h1 with h1; injection h1 with h1; exact h1.symm
        exact ⟨b, o, h1, h2, by omega, h3⟩
      · refine ⟨by show env.length = n2; exact (unhide Hln).2.1, fun j x hj => ?_⟩
        obtain ⟨b, o, h1, h2, h3⟩ := hrd1.at_ (k := j) (u := .string x) (by have hj' : env[j]? = some x := hj; simp [hj'])
        exact ⟨b, o, h1, by omega, by omega, h3⟩
      · refine ⟨by show argv.length = n1; exact (unhide Hln).1, fun j x hj => ?_⟩
        obtain ⟨b, o, h1, h2, h3⟩ := hrd2.at_ (k := j) (u := .string x) (by have hj' : argv[j]? = some x := hj; simp [hj'])
        exact ⟨b, o, h1, by omega, by omega, h3⟩
    · obtain rfl | rfl | rfl : k = 0 ∨ k = 1 ∨ k = 2 := by omega
      · show 1 ≤ 32; omega
      · exact hn2
      · exact hn1
  generalize hgs : w1.heap.size = gs at *
  generalize hg2 : gs + 1 + 1 = g2 at *
  have hne : g2 ≠ gs := by omega
  have hb2lt := b2.lt
  have hTl : (Stk.txt argv env path).length ≤ 20000 := by
    have h := unhide Hs
    unfold Stk.txt
    rw [List.length_append, List.length_append, Stk.tail_len]
    unfold Stk.ue
    omega
  obtain ⟨T, hT⟩ : ∃ T, Stk.txt argv env path = T := ⟨_, rfl⟩
  rw [hT] at hTl
  have HT := hide hT
  have Hbs := hide bs
  have Hcell := hide hcell
  have Hrd := hide hrd
  have HbW := hide hbW'
  clear hT bs hcell hrd hrd0 hrd1 hrd2 b1 b2 hbW hbW' hg2 hgs Hb1
  go_loopg [40] 3 (fun gk iv wr => ∃ k : Nat, gk = 3 - k ∧ k ≤ 3 ∧ iv = .int .i64 k ∧ Blk wr gs 3 [.int .i64 (sizeTo path env argv k : Nat)] ∧ Only W wr gs gs)
  case atStart => exact ⟨0, by omega, by omega, rfl, unhide Hbs, Only.refl _ _ _⟩
  case round =>
  clear Hbs
  obtain ⟨k, hgk, hk, rfl, hbs, hO⟩ := hrel
  have Hgk := hide hgk
  have Hbs := hide hbs
  have HO := hide hO
  clear hgk hbs hO
  rcases Nat.lt_or_ge k 3 with hlt | hge
  case inl =>
    have y2 := ((unhide HO).cell hb2lt hne hne k).trans ((unhide Hcell) k hlt)
    have hlr := ((unhide Hrd) k hlt)
    have hfk := hfn k hlt
    have y0 := (unhide Hbs).cell (i := 0) rfl
    have hstep : sizeTo path env argv (k + 1) = sizeTo path env argv k + (Stk.txs (three path env argv k)).length := rfl
    have hsl := sizeTo_le path env argv (k := k + 1) (by omega)
    rw [unhide HT, hstep] at hsl
    generalize three path env argv k = l at *
    obtain ⟨hll, hlr⟩ := hlr
    generalize sizeTo path env argv k = sz at *
    have Hlr := hide hlr
    have Hll := hide hll
    have Hstep := hide hstep
    clear hlr hll hstep
    go_wp2_with fail
    go_loopg [46] (fn k) (fun gk iv wr => ∃ j : Nat, gk = fn k - j ∧ j ≤ fn k ∧ iv = .int .i64 j ∧ Blk wr gs 3 [.int .i64 (sz + (Stk.txs (l.take j)).length : Nat)] ∧ Only W wr gs gs)
    case atStart => exact ⟨0, by omega, by omega, rfl, by simpa [Stk.txs] using unhide Hbs, unhide HO⟩
    case round =>
    clear Hbs HO y0 y2
    obtain ⟨j, hgj, hj, rfl, hbs, hO⟩ := hrel
    have Hgj := hide hgj
    have Hbs := hide hbs
    have HO := hide hO
    clear hgj hbs hO
    rcases Nat.lt_or_ge j (fn k) with hjlt | hjge
    case inl =>
      obtain ⟨s, hs⟩ : ∃ s, l[j]? = some s := ⟨_, List.getElem?_eq_getElem (by rw [unhide Hll]; exact hjlt)⟩
      obtain ⟨b, o, hA, hb1, hb2, hc⟩ := (unhide Hlr) j s hs
      have y3 := ((unhide HO).cell hb1 hb2 hb2 (o + j)).trans hc
      have y0 := (unhide Hbs).cell (i := 0) rfl
      have yf := (unhide Hbs).free 0
      have htk := Stk.txs_take hs
      have htl := Stk.txs_take_le l (j + 1)
      have hbs2 := (unhide Hbs).set 0 (.int .i64 (sz + (Stk.txs (l.take (j + 1))).length : Nat))
      have hO2 := (unhide HO).trans (Only.set1 wr gs gs 0 (.int .i64 (sz + (Stk.txs (l.take (j + 1))).length : Nat)))
      have e1 : ((sz + (Stk.txs (l.take (j + 1))).length : Nat) : Int) = ((sz + (Stk.txs (l.take j)).length : Nat) : Int) + ((s.size : Int) + 1) := by rw [htk]; omega
      rw [e1] at hbs2 hO2
      have HA := hide hA
      rw [hA]
      generalize hm1 : sz + (Stk.txs (l.take j)).length = m1 at *
      have hm2 : m1 + (s.size + 1) ≤ 20000 := by omega
      have Hbs2 := hide hbs2
      have HO2 := hide hO2
      have He1 := hide e1
      clear hbs2 hO2 e1 hm1 htk htl hsl hs hA Hbs HO
      go_wp2_with fail
      rw [← unhide HA]
      go_roundg (fn k - (j + 1))
      case measure => have := unhide Hgj; omega
      case rel => exact ⟨j + 1, rfl, by omega, by go_num, by rw [unhide He1]; exact unhide Hbs2, unhide HO2⟩
    have d1 : decide (j < fn k) = false := by simp; omega
    have hbs := unhide Hbs
    rw [List.take_of_length_le (by rw [unhide Hll]; omega), ← unhide Hstep] at hbs
    have Hbs3 := hide hbs
    clear hbs hjge hj Hgj Hbs
    go_wp2_with fail
    go_roundg (3 - (k + 1))
    case measure => have := unhide Hgk; omega
    case rel => exact ⟨k + 1, rfl, by omega, by go_num, unhide Hbs3, unhide HO⟩
  have d0 : decide (k < 3) = false := by simp; omega
  obtain rfl : k = 3 := by omega
  have hbs := unhide Hbs
  rw [sizeTo_3, unhide HT] at hbs
  have Hbs3 := hide hbs
  clear hbs Hbs hge hk Hgk
  have hS : T.length = (Stk.txs argv).length + (Stk.txs env).length + (path.size + 9) := by
    rw [← unhide HT]
    unfold Stk.txt
    rw [List.length_append, List.length_append, Stk.tail_len]
    unfold Stk.ue
    omega
  obtain ⟨S, hSS⟩ : ∃ S, T.length = S := ⟨_, rfl⟩
  rw [hSS] at hTl hS
  have hbs := unhide Hbs3
  rw [hSS] at hbs
  have hb2 := (unhide HO).below (unhide HbW) hs1 hs1 (Nat.le_refl _)
  have y0 := hbs.cell (i := 0) rfl
  have hgslt := hbs.lt
  have Hbs := hide hbs
  have Hbr := hide hb2
  have HSS := hide hSS
  have HS := hide hS
  obtain ⟨iu, hi, hz0, hz1, hz2⟩ := info_parts byteInfo
  have Hi := hide hi
  have Hz0 := hide hz0
  have Hz1 := hide hz1
  have Hz2 := hide hz2
  have hmf : ∀ (fn : Fn) (first cap : Array Value) (w : World), (Instr.makeFunc fn first cap).run Try.prog w = .ok (.func fn first cap) w := fun _ _ _ _ => rfl
  have hc20 := callFunc_lay1
  have hc21 := callFunc_lay2
  clear Hbs3 hbs hb2 HO HbW Hcell Hrd hSS hS hi hz0 hz1 hz2 hWs hfn hne hb2lt
  go_wp2_with (at_make; refine wpList_make_full _ rfl _ _ 29 rfl wr.heap.size 5 iu (.int .u8 0) 1 Try.underlying29 (unhide Hi) (unhide Hz0) (unhide Hz1) _ _ _ _ S rfl rfl rfl rfl (by rw [unhide Hz2]; omega) (by unfold maxLen; omega) (Nat.le_refl _) ?_; intro w2 hown hgrow; have hb2 := (Below.refl wr.heap.size wr).grown hgrow (Nat.le_refl _) (fun k hk => by cases hk); have Hown := hide hown; have Hb2 := hide hb2; have y1 := ((unhide Hbs).belowSz hb2).cell (i := 0) rfl; have hs2 := hb2.size; have hgs2 : gs < w2.heap.size := (by omega); have hgxlt := (own_at hown).2.1; clear hown hgrow hb2 y0)
  obtain ⟨W4, hW4, bt, bf, bl, hbW4⟩ := lay_made w2 (.slice (some ⟨wr.heap.size, 0, none⟩) S S) (.int .i64 ((S : Int) - 8)) (.func (.func 20) #[] #[.pointer (some ⟨w2.heap.size + 1, 0, none⟩), .pointer (some ⟨w2.heap.size, 0, none⟩), .pointer (some ⟨gs, 0, none⟩)])
  rw [← hW4]
  clear hW4
  have hfe : (S : Int) - 8 = (((Stk.txs argv).length + (Stk.txs env).length + (path.size + 1) : Nat) : Int) := by have := unhide HS; omega
  rw [hfe] at bf
  have hrow : Blk W4 wr.heap.size 5 (bys (List.replicate ((Stk.txs argv).length + (Stk.txs env).length + (path.size + 1)) 0 ++ List.replicate 8 0)) := by
    have h1 := own_blk (own_below (unhide Hown) hbW4)
    have e : (madeCells (Value.int .u8 0).cells (S * 1)).toList = bys (List.replicate ((Stk.txs argv).length + (Stk.txs env).length + (path.size + 1)) 0 ++ List.replicate 8 0) := by
      rw [List.replicate_append_replicate, show (Stk.txs argv).length + (Stk.txs env).length + (path.size + 1) + 8 = S from by have := unhide HS; omega]
      simp [bys, Value.cells, toList_madeCells_one]
    rwa [e] at h1
  have hbs4 := ((unhide Hbs).belowSz (unhide Hb2)).belowSz hbW4
  have hL0 : LayS W4 (w2.heap.size + 1) w2.heap.size gs wr.heap.size S ((Stk.txs argv).length + (Stk.txs env).length + (path.size + 1)) (List.replicate 8 0) :=
    ⟨bf, bt, hbs4, hrow, by have := unhide HS; simp; omega, by omega, by omega, by omega, by omega, by omega⟩
  have hb4 := ((unhide Hbr).trans ((unhide Hb2).mono (unhide Hbr).size)).trans (hbW4.mono (by have := (unhide Hbr).size; omega))
  have hwr := (unhide Hbr).size
  have hW4s := bl.lt
  generalize hgx : wr.heap.size = gx at *
  generalize hgt : w2.heap.size = gt at *
  have K20 := lay1_any (gt + 1) gt gs gx S ((Stk.txs argv).length + (Stk.txs env).length) (List.replicate 8 0) path W4 hL0 (by omega)
  have etail : Stk.tx path ++ List.replicate 8 0 = Stk.tail path := rfl
  rw [etail, Stk.tail_len] at K20
  replace K20 := hide K20
  have Hb4 := hide hb4
  have Hbl := hide bl
  clear hfe bf bt bl hrow hbs4 hL0 hb4 hbW4 Hown Hb2 Hbr Hbs y1 etail Hi Hz0 Hz1 Hz2
  refine (unhide K20).mono ?_
  rintro e w5 ⟨rfl, hL5, hO5⟩
  have hin5 := (unhide Hin).below ((hO5.below (unhide Hb4) (by omega) (by omega) (by omega)).mono hB)
  have K21 := lay2_any (gt + 1 + 1) (gt + 1) gt gs gx S (Stk.txs argv).length (Stk.tail path) A2 n2 c2 B env w5 hL5 (by omega) hin5.r2 (by have := hO5.size; omega) (by omega) (by omega) (hO5.blk (unhide Hbl) (by omega) (by omega)) (by omega) (by omega) (by omega)
  rw [Stk.tail_len] at K21
  replace K21 := hide K21
  have HO5 := hide hO5
  have hs5 := hO5.size
  clear hL5 hO5 hin5 K20
  go_wp2_with fail
  refine (unhide K21).mono ?_
  rintro e w6 ⟨Ae, ce, rfl, hoe, hL6, hO6⟩
  have hO6' := (unhide HO5).trans hO6
  have hin6 := (unhide Hin).below ((hO6'.below (unhide Hb4) (by omega) (by omega) (by omega)).mono hB)
  rw [show (Stk.txs argv).length = 0 + (Stk.txs argv).length from by omega] at hL6
  have K22 := lay2_any (gt + 1 + 1) (gt + 1) gt gs gx S 0 (Stk.txs env ++ Stk.tail path) A1 n1 c1 B argv w6 hL6 (by omega) hin6.r1 (by have := hO6'.size; omega) (by omega) (by omega) (hO6'.blk (unhide Hbl) (by omega) (by omega)) (by omega) (by omega) (by omega)
  have hua : (Stk.txs env ++ Stk.tail path).length = Stk.ua env path := by rw [List.length_append, Stk.tail_len]; rfl
  rw [hua] at K22
  replace K22 := hide K22
  have HO6 := hide hO6'
  have Hoe := hide hoe
  have hs6 := hO6'.size
  clear hL6 hO6 hO6' hin6 K21 hoe hua
  go_wp2_with fail
  refine (unhide K22).mono ?_
  rintro e w7 ⟨Aa, ca, rfl, hoa, hL7, hO7⟩
  have hO7' := (unhide HO6).trans hO7
  have hoe7 := hO7.own (unhide Hoe) (fun e => by have := ((unhide Hoe).lt _ e).1; omega) (fun e => by have := ((unhide Hoe).lt _ e).1; omega)
  have htx : Stk.txs argv ++ (Stk.txs env ++ Stk.tail path) = T := unhide HT
  rw [htx] at hL7
  have hb7 := hO7'.below (unhide Hb4) (by omega) (by omega) (by omega)
  have hs7 := hO7'.size
  have HL7 := hide hL7
  have Hoa := hide (own_base hoa (show w.heap.size ≤ w6.heap.size by omega))
  have Hoe7 := hide (own_base hoe7 (show w.heap.size ≤ w5.heap.size by omega))
  have Hb7 := hide hb7
  clear hO7 hO7' hoe7 htx hL7 hb7 hoa HO5 HO6 Hoe K22 Hb4 Hbl
  go_wp2_with fail
  have Hal1 := hide (show (Stk.adr (Stk.ua env path) argv).length = n1 by rw [Stk.adr_len]; exact (unhide Hln).1)
  have Hal2 := hide (show (Stk.adr (Stk.ue path) env).length = n2 by rw [Stk.adr_len]; exact (unhide Hln).2.1)
  have KN1 := hide (num_lit (NumS.start w7) [n1] 1 #[.int .u64 (n1 : Nat)] rfl rfl (by intro x hx; simp at hx; omega) (by simp) (by omega))
  refine (unhide KN1).mono ?_
  rintro e w8 ⟨B1, d1', rfl, hN1⟩
  obtain ⟨L1, hL1⟩ : ∃ L1, [] ++ [n1] = L1 := ⟨_, rfl⟩
  have hl1 : L1.length ≤ 1 := by rw [← hL1]; simp
  rw [hL1] at hN1
  rw [hL1]
  have KN2 := hide (num_row hN1 (Stk.adr (Stk.ua env path) argv) Aa n1 ca w.heap.size (unhide Hoa) (Stk.adr_lt _ _) (by omega) (by omega))
  have HL1 := hide hL1
  clear hN1 KN1 hL1
  go_wp2_with fail
  refine (unhide KN2).mono ?_
  rintro e w9 ⟨B2, d2', rfl, hN2⟩
  obtain ⟨L2, hL2⟩ : ∃ L2, L1 ++ Stk.adr (Stk.ua env path) argv = L2 := ⟨_, rfl⟩
  have hl2 : L2.length ≤ 33 := by rw [← hL2, List.length_append, unhide Hal1]; omega
  rw [hL2] at hN2
  rw [hL2]
  have KN3 := hide (num_lit hN2 [0] 1 #[.int .u64 0] rfl rfl (by intro x hx; simp at hx; omega) (by omega) (by omega))
  have HL2 := hide hL2
  clear hN2 KN2 hL2
  go_wp2_with fail
  refine (unhide KN3).mono ?_
  rintro e w10 ⟨B3, d3', rfl, hN3⟩
  obtain ⟨L3, hL3⟩ : ∃ L3, L2 ++ [0] = L3 := ⟨_, rfl⟩
  have hl3 : L3.length ≤ 34 := by rw [← hL3, List.length_append]; simp; omega
  rw [hL3] at hN3
  rw [hL3]
  have KN4 := hide (num_row hN3 (Stk.adr (Stk.ue path) env) Ae n2 ce w.heap.size (unhide Hoe7) (Stk.adr_lt _ _) (by omega) (by omega))
  have HL3 := hide hL3
  clear hN3 KN3 hL3
  go_wp2_with fail
  refine (unhide KN4).mono ?_
  rintro e w11 ⟨B4, d4', rfl, hN4⟩
  obtain ⟨L4, hL4⟩ : ∃ L4, L3 ++ Stk.adr (Stk.ue path) env = L4 := ⟨_, rfl⟩
  have hl4 : L4.length ≤ 66 := by rw [← hL4, List.length_append, unhide Hal2]; omega
  rw [hL4] at hN4
  rw [hL4]
  have KN5 := hide (num_lit hN4 [0] 1 #[.int .u64 0] rfl rfl (by intro x hx; simp at hx; omega) (by omega) (by omega))
  have HL4 := hide hL4
  clear hN4 KN4 hL4
  go_wp2_with fail
  refine (unhide KN5).mono ?_
  rintro e w12 ⟨B5, d5', rfl, hN5⟩
  obtain ⟨L5, hL5⟩ : ∃ L5, L4 ++ [0] = L5 := ⟨_, rfl⟩
  have hl5 : L5.length ≤ 67 := by rw [← hL5, List.length_append]; simp; omega
  rw [hL5] at hN5
  rw [hL5]
  have HL5 := hide (show [n1] ++ Stk.adr (Stk.ua env path) argv ++ [0] ++ Stk.adr (Stk.ue path) env ++ [0] = L5 by rw [← hL5, ← unhide HL4, ← unhide HL3, ← unhide HL2, ← unhide HL1]; simp)
  have HN5 := hide hN5
  clear hN5 KN5 hL5 HL1 HL2 HL3 HL4 Hoa Hoe7 Hal1 Hal2 hl1 hl2 hl3 hl4
  have htp : Stk.top - Stk.ue path < 18446744073709551616 := by unfold Stk.top; omega
  go_wp2_with fail
  go_loopg [8, 89] n3 (fun gk bv iv wr => ∃ (k : Nat) (A' : Option Addr) (c' : Nat) (LK : List Nat), gk = n3 - k ∧ k ≤ n3 ∧ iv = .int .i64 k ∧ bv = .slice A' (8 * LK.length) c' ∧ LK = L5 ++ Stk.auxN (aux.take k) ∧ NumS w7 wr A' c' LK)
  case atStart => exact ⟨0, B5, d5', L5, by omega, by omega, rfl, rfl, by simp [Stk.auxN], unhide HN5⟩
  case round =>
  clear HN5
  obtain ⟨k, Ak, ck, LK, hgk, hk, rfl, rfl, hLK, hN⟩ := hrel
  have hLKl : LK.length ≤ 67 + 2 * k := by rw [hLK, List.length_append, Stk.auxN_len, List.length_take]; omega
  have Hgk := hide hgk
  have HLK := hide hLK
  have HN := hide hN
  have hszr := hN.bel.size
  clear hgk hLK hN
  rcases Nat.lt_or_ge k n3 with hlt | hge
  case inl =>
    obtain ⟨a, ha⟩ : ∃ a, aux[k]? = some a := ⟨_, List.getElem?_eq_getElem (by rw [(unhide Hln).2.2]; exact hlt)⟩
    obtain ⟨hx1, hx2⟩ := (unhide Hf).x2 a (List.mem_of_getElem? ha)
    have hbr := (unhide Hb7).trans ((unhide HN).bel.mono (unhide Hb7).size)
    obtain ⟨b, o, rfl, hb, y1, y2⟩ := ((unhide Hin).r3.below (hbr.mono hB)).aux ha
    have hblr := hbr.size
    have hbl : Below wr.heap.size wr (wr.alloc (.cells #[.int .u64 (a.1 : Nat), .int .u64 (a.2 : Nat)] 43)) := (Below.refl _ _).alloc (Nat.le_refl _) _
    have KN6 := hide (num_litg ((unhide HN).below hbl) [a.1, a.2] 2 (wr.heap.size + 1) (by simp) #[.int .u64 (a.1 : Nat), .int .u64 (a.2 : Nat)] rfl rfl (by intro x hx; simp at hx; rcases hx with rfl | rfl <;> assumption) (by omega) (by omega))
    have e1 : Stk.auxN (aux.take (k + 1)) = Stk.auxN (aux.take k) ++ [a.1, a.2] := by rw [List.take_add_one, ha, Stk.auxN_app]; simp [Stk.auxN]
    have He1 := hide e1
    clear hbl e1 ha hbr
    go_wp2_with fail
    refine (unhide KN6).mono ?_
    rintro e w13 ⟨A6, c6, rfl, hN6⟩
    have HN6 := hide hN6
    clear hN6 KN6 y1 y2
    go_wp2_with fail
    go_roundg (n3 - (k + 1))
    case measure => have := unhide Hgk; omega
    case rel => exact ⟨k + 1, A6, c6, LK ++ [a.1, a.2], rfl, by omega, by go_num, by simp, by rw [unhide He1, unhide HLK, List.append_assoc], unhide HN6⟩
  have d1 : decide (k < n3) = false := by simp; omega
  have HLK2 := hide (show LK = L5 ++ Stk.auxN aux by have h := unhide HLK; rwa [List.take_of_length_le (by rw [(unhide Hln).2.2]; omega)] at h)
  have hLK99 : LK.length ≤ 99 := by omega
  have KN7 := hide (num_lit (unhide HN) [31, Stk.top - Stk.ue path, 0, 0] 4 #[.int .u64 31, .int .u64 ((Stk.top - Stk.ue path : Nat) : Int), .int .u64 0, .int .u64 0] rfl rfl (by intro x hx; simp at hx; rcases hx with rfl | rfl | rfl <;> omega) (by omega) (by omega))
  clear hge hk Hgk HLK HN hLKl
  go_wp2_with fail
  refine (unhide KN7).mono ?_
  rintro e w14 ⟨A7, c7, rfl, hN7⟩
  have hvec : LK ++ [31, Stk.top - Stk.ue path, 0, 0] = Stk.vec argv env aux path := by
    rw [unhide HLK2, ← unhide HL5]
    unfold Stk.vec
    rw [(unhide Hln).1]
  rw [hvec] at hN7
  rw [hvec]
  have hVl : (Stk.vec argv env aux path).length ≤ 103 := by rw [← hvec]; simp; omega
  obtain ⟨V, hV⟩ : ∃ V, Stk.vec argv env aux path = V := ⟨_, rfl⟩
  rw [hV] at hN7 hVl
  rw [hV]
  have HV := hide hV
  have HN7 := hide hN7
  have hL7 := (unhide HL7).below hN7.bel
  have y0 := hL7.size.cell (i := 0) rfl
  have y9 := hL7.txt.cell (i := 0) rfl
  have Hrow7 := hide hL7.row
  clear hvec hV hN7 hL7 KN7 HL5 HLK2
  have hg7 : gs < w7.heap.size := by omega
  go_wp2_with (first
    | (at_builtin; (with_reducible refine (@id (wpList _ _ _ _ _ w14) ?_)); refine wpList_appZ rfl _ _ rfl w7.heap.size (.slice A7 (8 * V.length) c7) (8 * V.length) (Stk.nums V) rfl (unhide HN7).own (Stk.pad (8 * V.length + S)) (by show Value.int .i64 ((16 - (8 * (V.length : Int) + (S : Int)) % 16) % 16) = _; congr 1; unfold Stk.pad; omega) (by unfold Stk.pad; omega) (unhide HN7).bel.size ?_; intro A8 c8 w15 hg15; have hb15 := (unhide HN7).bel.trans (hg15.below (unhide HN7).bel.size (fun k hk => ((unhide HN7).own.lt k hk).1)); have hL15 := (unhide HL7).below hb15; have y8 := hL15.txt.cell (i := 0) rfl; have Hrow15 := hide hL15.row; have Ho15 := hide hg15.own; have Hb15 := hide hb15; have hs15 := hb15.size; generalize hpd : Stk.pad (8 * V.length + S) = pd at *; have hpd16 : pd ≤ 15 := (by rw [← hpd]; unfold Stk.pad; omega); have Hpd := hide hpd; clear hg15 hb15 hL15 y0 y9 hpd)
    | (at_builtin; (with_reducible refine (@id (wpList _ _ _ _ _ w15) ?_)); refine wpList_app byteTy rfl _ _ rfl w7.heap.size (.slice A8 (8 * V.length + pd) c8) (8 * V.length + pd) _ rfl (unhide Ho15) w15.heap.size (some ⟨gx, 0, none⟩) S S (bys T) rfl ⟨by simp [bys]; exact unhide HSS, .inr ⟨gx, 0, rfl, (unhide Hrow15).lt, fun j u hj => by rw [Nat.zero_add]; exact (unhide Hrow15).cell (by simpa using hj)⟩⟩ (bys_one _) (by omega) hs15 ?_; intro A9 c9 w16 ho16 hg16 hat16; have hb16 := (unhide Hb15).grown hg16 hs15 (fun k hk => ((unhide Ho15).lt k hk).1); have Ho16 := hide ho16; have Hb16 := hide hb16; clear ho16 hg16 hat16 hb16 y8))
  all_goals
    have hwh : Stk.whole argv env aux path = Stk.nums V ++ List.replicate pd 0 ++ T := by
      unfold Stk.whole
      rw [unhide HV, unhide HT, Stk.nums_len, unhide HSS, unhide Hpd]
    have hwl : (Stk.whole argv env aux path).length = 8 * V.length + pd + S := by
      rw [hwh, List.length_append, List.length_append, Stk.nums_len, List.length_replicate, unhide HSS]
    have hres := unhide Hr
    have hbe := (unhide Hb7).trans ((unhide Hb16).mono (unhide Hb7).size)
    have hoe := unhide Ho16
    rw [← bys_app, ← hwh] at hoe
    go_ret3
  · rw [if_pos (by rw [hwl]; omega)] at hres
    subst hres
    exact ⟨none, 0, rfl, World.ownsRow_nil _ _ _ _, hbe⟩
  · rw [if_neg (by rw [hwl]; omega)] at hres
    subst hres
    refine ⟨A9, c9, ?_, ?_, hbe⟩
    · simp only [hwl]
      have e : (140737488351232 - (8 * (V.length : Int) + (pd : Int) + (S : Int))) = ((Stk.top - (8 * V.length + pd + S) : Nat) : Int) := by unfold Stk.top; omega
      rw [← e]
      rfl
    · simp only [hwl]
      exact own_base hoe (unhide Hb7).size
end Go.Proofs.Ytmoenjmhogmcoaa
namespace Go.Proofs.Ytmoenjmhogmcoaa
set_option linter.unusedVariables false
set_option linter.unusedSimpArgs false
open Go.RowKit

/-- A row of bytes from block 'base' on, marked or not. -/
def OwnM (w : World) (base : Nat) (A : Option Addr) (n c : Nat) (xs : List UInt8) : Prop :=
  xs.length = n ∧ ∃ (g : Nat) (cur : Array Value) (fr : Nat × Nat), A = some ⟨g, 0, none⟩ ∧ base ≤ g ∧ w.heap[g]? = some (.cells cur 5 fr) ∧ (fr = (0, 0) ∨ cur.size ≤ fr.1) ∧ n ≤ c ∧ c ≤ maxLen ∧ cur.size = c ∧ cur.toList.take n = bys xs
section
variable {w w' : World} {base B n c : Nat} {A : Option Addr} {xs : List UInt8}
theorem OwnM.rd (h : OwnM w base A n c xs) : Rd w w.heap.size 1 A n (bys xs) := by
  obtain ⟨hl, g, cur, fr, rfl, hb, hg, _, hn, _, hc, ht⟩ := h
  refine ⟨by simp [bys]; omega, .inr ⟨g, 0, rfl, lt_of_block hg, fun j u hu => ?_⟩⟩
  have hj : j < n := by have := (List.getElem?_eq_some_iff.1 hu).1; simp [bys] at this; omega
  rw [cell_of_row w g (0 + j) cur _ fr hg, Nat.zero_add]
  rw [← ht, List.getElem?_take_of_lt hj] at hu
  simpa using hu
theorem OwnM.below (h : OwnM w base A n c xs) (hb : Below w.heap.size w w') : OwnM w' base A n c xs := by
  obtain ⟨hl, g, cur, fr, rfl, h1, hg, r⟩ := h
  exact ⟨hl, g, cur, fr, rfl, h1, (hb.block g (lt_of_block hg)).trans hg, r⟩
theorem OwnM.low (h : OwnM w base A n c xs) (hb : B ≤ base) : OwnM w B A n c xs := by
  obtain ⟨hl, g, cur, fr, rfl, h1, r⟩ := h
  exact ⟨hl, g, cur, fr, rfl, Nat.le_trans hb h1, r⟩
theorem OwnM.keep (h : OwnM w base A n c xs) {k : Nat} (hk : ∀ g, g < w.heap.size → g ≠ k → w'.heap[g]? = w.heap[g]?) (hne : ∀ o, A ≠ some ⟨k, o, none⟩) : OwnM w' base A n c xs := by
  obtain ⟨hl, g, cur, fr, rfl, h1, hg, r⟩ := h
  exact ⟨hl, g, cur, fr, rfl, h1, (hk g (lt_of_block hg) (fun e => hne 0 (by rw [e]))).trans hg, r⟩
theorem OwnM.at_ (h : OwnM w base A n c xs) : ∃ g, A = some ⟨g, 0, none⟩ ∧ base ≤ g ∧ g < w.heap.size ∧ n ≤ c := by
  obtain ⟨hl, g, cur, fr, rfl, h1, hg, _, hn, _⟩ := h
  exact ⟨g, rfl, h1, lt_of_block hg, hn⟩
theorem OwnM.of_own (h : w.ownsRow base 5 1 (.slice A n c) n (bys xs)) (hA : A ≠ none) : OwnM w base A n c xs := by
  have hl : xs.length = n := by have := h.1; simp [bys] at this; omega
  rcases h.2 with ⟨h1, _⟩ | ⟨g, cap, cur, h1, h2, h3, h4, h5, h6, h7⟩
  · injection h1 with e1
    exact absurd e1 hA
  · injection h1 with e1 _ e3
    subst e1 e3
    exact ⟨hl, g, cur, (0, 0), rfl, h2, h3, .inl rfl, h4, h5, by simpa using h6, by simpa using h7⟩
theorem OwnM.conv (w : World) (s : ByteArray) (hs : s.size ≤ maxLen) : OwnM (w.drew.alloc (.cells (bytesRow s (grownCap w s.size 0 5)) 5 ((bytesRow s (grownCap w s.size 0 5)).size, (bytesRow s (grownCap w s.size 0 5)).size + 1))) w.heap.size (some ⟨w.heap.size, 0, none⟩) s.size (grownCap w s.size 0 5) s.data.toList := by
  have hge := grownCap_ge w s.size 0 5
  refine ⟨rfl, w.heap.size, _, _, rfl, Nat.le_refl _, heap_alloc_new w.drew _, .inr (Nat.le_refl _), hge, grownCap_le_maxLen w s.size 0 5 hs, ?_, ?_⟩
  · simp [bytesRow]
    omega
  · unfold bytesRow
    rw [Array.toList_append, List.take_append_of_le_length (by simp), List.take_of_length_le (by simp)]
    simp [bys]
end
/-- 'run_storeCells_at' for a row whose mark lies behind its cells. -/
theorem run_storeCells_atM (P : Program) (g o : Nat) (t : TypeId) (fz : Nat × Nat) : ∀ (vs : List Value) (i : Nat) (cur : Array Value) (w : World), w.heap[g]? = some (.cells cur t fz) → (fz = (0, 0) ∨ cur.size ≤ fz.1) → o + i + vs.length ≤ cur.size → (∀ v ∈ vs, v.oneCell' = true) →
    (storeCells ⟨g, o, none⟩ vs i).run P w = .ok () (w.setRow g (cur.toList.take (o + i) ++ vs ++ cur.toList.drop (o + i + vs.length)).toArray)
  | [], i, cur, w, hg, _, _, _ => by
    simp only [storeCells, List.append_nil, List.length_nil, Nat.add_zero, List.take_append_drop, Array.toArray_toList]
    rw [setRow_self w g cur t fz hg]
    rfl
  | v :: rest, i, cur, w, hg, hfz, hl, h1 => by
    have hi : o + i < cur.size := by simp at hl; omega
    have hadd : (⟨g, o, none⟩ : Addr).add i = ⟨g, o + i, none⟩ := by unfold Addr.add; split <;> simp_all
    have hcell : w.cell? ⟨g, o + i, none⟩ = some cur[o + i] := by simp [World.cell?, hg, hi]
    have hfro : w.frozen? ⟨g, o + i, none⟩ = false := by
      obtain ⟨lo, hi'⟩ := fz
      simp only [World.frozen?, hg, Bool.and_eq_false_iff, decide_eq_false_iff_not]
      rcases hfz with h | h
      · injection h with h2 h3
        right
        omega
      · left
        simp only at h
        omega
    have hst : (store ((⟨g, o, none⟩ : Addr).add i) v).run P w = .ok () (w.setRow g (cur.setIfInBounds (o + i) v)) := by
      rw [hadd, run_store P w _ v _ (h1 v (by simp)), hcell]
      simp [hfro, setCell_eq_setRow w g (o + i) cur t fz v hg]
    have ih := run_storeCells_atM P g o t fz rest (i + 1) (cur.setIfInBounds (o + i) v) (w.setRow g (cur.setIfInBounds (o + i) v)) (setRow_heap w g cur _ t _ hg) (by simpa using hfz) (by simp at hl ⊢; omega) (fun x hx => h1 x (by simp [hx]))
    simp only [storeCells, Sem.run_bind, hst, Result.andThen_ok, ih, setRow_setRow]
    congr 3
    have e := list_seg_step cur.toList (o + i) v rest (by simp at hl ⊢; omega)
    simpa [Array.toList_setIfInBounds, Nat.add_assoc] using e

theorem run_appM (w : World) (base : Nat) (ty : TypeId) (A : Option Addr) (n c : Nat) (xs : List UInt8) (h : OwnM w base A n c xs) (B2 b2 o2 m c2 : Nat) (ys : List UInt8) (hr : Rd w B2 1 (some ⟨b2, o2, none⟩) m (bys ys)) (hb : n + m ≤ 140737488355328) (hbase : base ≤ w.heap.size) :
    ∃ A' c' w', (Builtin.append_ #[29, 29] ty #[.slice A n c, .slice (some ⟨b2, o2, none⟩) m c2]).run Try.prog w = .ok (.slice A' (n + m) c') w' ∧ OwnM w' base A' (n + m) c' (xs ++ ys) ∧ w.grownBy w' (Value.slice A n c).ownBlock ∧ (A' = A ∨ A' = some ⟨w.heap.size, 0, none⟩) := by
  obtain ⟨i, hi, hz, hsize, hby⟩ := info_parts byteInfo
  have ht := Try.underlying29
  obtain ⟨hl, g, cur, fr, rfl, hbg, hg, hfr, hnc, hcm, hcs, htake⟩ := h
  have hml : (bys ys).length = m := hr.len1
  have hxl : (bys xs).length = n := by simp [bys]; exact hl
  have hnews : ∀ j u, (bys ys)[j]? = some u → w.cell? ((⟨b2, o2, none⟩ : Addr).add j) = some u := by
    intro j u hu
    obtain ⟨b, o, e, _, hc⟩ := hr.at_ hu
    injection e with e
    injection e with e1 e2
    subst e1 e2
    rw [Addr.add_lit]
    exact hc
  by_cases hroom : n + m ≤ c
  · have hf := run_firstCells_some (P := Try.prog) w 1 m ⟨b2, o2, none⟩ m c2 (bys ys) (by omega) hnews
    have hst := run_storeCells_atM Try.prog g n 5 fr (bys ys) 0 cur w hg hfr (by omega) (bys_one _)
    simp only [Nat.add_zero, hml] at hst
    have hsz : (cur.toList.take n ++ bys ys ++ cur.toList.drop (n + m)).toArray.size = cur.size := by
      simp only [List.size_toArray, List.length_append, List.length_take, List.length_drop, Array.length_toList, hml]
      omega
    refine ⟨some ⟨g, 0, none⟩, c, w.setRow g (cur.toList.take n ++ bys ys ++ cur.toList.drop (n + m)).toArray, ?_, ⟨by simp; simp [bys] at hml; omega, g, _, fr, rfl, hbg, setRow_heap w g cur _ _ fr hg, ?_, hroom, hcm, ?_, ?_⟩, ⟨rfl, rfl, rfl, by simp, fun k _ hk => setRow_other w g k _ (fun e => hk (by simp [Value.ownBlock, e]))⟩, .inl rfl⟩
    · simp [Builtin.append_, run_underlying ht, sizeOf, typeInfo, hi, hsize, Builtin.lenOf, hroom, hf, Addr.add_lit, hst]
    · refine hfr.imp id fun h => ?_
      rw [hsz]
      exact h
    · rw [hsz]
      exact hcs
    · have h1 : (bys xs ++ bys ys).length = n + m := by rw [List.length_append, hxl, hml]
      rw [htake, bys_app, ← h1]
      exact List.take_left
  · have holds : ∀ j u, (bys xs)[j]? = some u → w.cell? ((⟨g, 0, none⟩ : Addr).add j) = some u := by
      intro j u hu
      rw [Addr.add_lit]
      have hj : j < n := by have := (List.getElem?_eq_some_iff.1 hu).1; omega
      rw [cell_of_row w g (0 + j) cur _ fr hg, Nat.zero_add]
      rw [← htake, List.getElem?_take_of_lt hj] at hu
      simpa using hu
    have hr2 := run_append_grow (P := Try.prog) w 29 ty 5 i (.int .u8 0) ht hi hz ⟨g, 0, none⟩ n c (bys xs) (by rw [hsize]; omega) holds ⟨b2, o2, none⟩ m c2 (bys ys) (by rw [hsize]; omega) hnews (by omega) (by omega) (by rw [hby]; exact growslice_fits (by omega) (by omega))
    have hge := grownCap_ge w (n + m) c 5
    have hcm2 := grownCap_le_maxLen w (n + m) c 5 (by unfold maxLen; omega)
    refine ⟨_, _, _, hr2, ⟨by simp; simp [bys] at hml; omega, w.heap.size, _, (0, 0), rfl, hbase, heap_alloc_new w.drew _, .inl rfl, hge, hcm2, ?_, ?_⟩, ⟨rfl, rfl, rfl, by simp, fun j hj _ => Below.heap_alloc _ _ _ hj⟩, .inr rfl⟩
    · have hz1 : (Value.int IntKind.u8 0).cells.size = 1 := rfl
      simp only [Array.size_append, List.size_toArray, size_zeroCells, hz1, hxl, hml]
      omega
    · have h1 : (bys xs ++ bys ys).length = n + m := by rw [List.length_append, hxl, hml]
      rw [Array.toList_append, Array.toList_append, bys_app, ← h1]
      exact List.take_left
/-- append(b, x...), b a row that may be marked, x a slice that is there. -/
theorem wpList_appM {w : World} {ops : Array Oper} {rest : List Oper} {o : Oper} {a : Act} {Q : Exit → Act → World → Prop} (hgd : o.guard = none) (s x : Operand)
    (ho : o.op = .call { callee := .builtin .append, args := #[s, x], argTypes := #[29, 29] })
    (base : Nat) (A : Option Addr) (n c : Nat) (xs : List UInt8) (hs : a.eval s = .slice A n c) (h : OwnM w base A n c xs) (B2 b2 o2 m c2 : Nat) (ys : List UInt8) (hx : a.eval x = .slice (some ⟨b2, o2, none⟩) m c2) (hr : Rd w B2 1 (some ⟨b2, o2, none⟩) m (bys ys)) (hb : n + m ≤ 140737488355328) (hbase : base ≤ w.heap.size)
    (hK : ∀ A' c' w', OwnM w' base A' (n + m) c' (xs ++ ys) → w.grownBy w' (Value.slice A n c).ownBlock → (A' = A ∨ A' = some ⟨w.heap.size, 0, none⟩) → wpList Try.prog ops Q rest (a.put o.dst (.slice A' (n + m) c')) w') : wpList Try.prog ops Q (o :: rest) a w := by
  refine wpList_plain hgd fun K hk => ?_
  obtain ⟨A', c', w', hrun, h2, h3, h4⟩ := run_appM w base o.type A n c xs h B2 b2 o2 m c2 ys hr hb hbase
  unfold Oper.wp execOp
  simp only [ho, resolve, invoke, builtin, Sem.run_bind, Sem.run_pure, Result.andThen_ok, List.map_toArray, List.map_cons, List.map_nil, hs, hx, hrun]
  exact hk _ _ (hK A' c' w' h2 h3 h4)
end Go.Proofs.Ytmoenjmhogmcoaa
namespace Go.Proofs.Ytmoenjmhogmcoaa
set_option linter.unusedVariables false
set_option linter.unusedSimpArgs false
open Go.RowKit

theorem rep_at (ys : List UInt8) (mark : UInt8) {j : Nat} (h1 : ys.length ≤ j) (h2 : j < ys.length + 40) : (ys ++ List.replicate 40 mark)[j]? = some mark := by
  rw [List.getElem?_append_right h1, List.getElem?_replicate, if_pos (by omega)]

set_option maxRecDepth 100000 in
set_option maxHeartbeats 2000000 in
theorem marked_any (A : Option Addr) (n m c B : Nat) (ys : List UInt8) (mark : UInt8) (w : World) (hr : Rd w B 1 A m (bys (ys ++ List.replicate 40 mark))) (hm : m = n + 40) (hn : n ≤ 4294967296) :
    Calls Try.prog 28 #[.slice A m c, .int .u8 mark.toNat] w fun e w' => e = .returned (.int .i64 40) ∧ w = w' := by
  have hyl : ys.length = n := by have := hr.len1; simp [bys] at this; omega
  have Hr := hide hr
  have Hyl := hide hyl
  have hmb : m ≤ 4294967400 := by omega
  have Hm := hide hm
  clear hr hyl hm
  go_enter Try.func28, Try.ntmps28
  go_wp2_with fail
  go_loopg [5, 6] 40 (fun gk nv av wr => ∃ k j : Nat, gk = 40 - k ∧ k ≤ 40 ∧ k + j = m ∧ nv = .int .i64 k ∧ av = .int .i64 ((j : Int) - 1) ∧ w = wr)
  case atStart => exact ⟨0, m, by omega, by omega, by omega, rfl, rfl, rfl⟩
  case round =>
  obtain ⟨k, j, hgk, hk, hj, rfl, rfl, rfl⟩ := hrel
  have Hgk := hide hgk
  have Hj := hide hj
  have hm := unhide Hm
  have hjm : j ≤ m := by omega
  have hjl : k < 40 → n < j := by omega
  have Hjl := hide hjl
  clear hgk hj hm hjl
  rcases Nat.lt_or_ge k 40 with hlt | hge
  case inr =>
    obtain rfl : k = 40 := by omega
    clear hk hge
    by_cases h0 : j = 0
    · subst h0
      go_wp2_with fail
      go_ret
      exact ⟨rfl, rfl⟩
    · have h1 : (0 : Int) ≤ (j : Int) - 1 := by omega
      go_wp2_with fail
      go_ret
      exact ⟨rfl, rfl⟩
  obtain ⟨i, rfl⟩ : ∃ i, j = i + 1 := ⟨j - 1, by have := (unhide Hjl) hlt; omega⟩
  have e1 : ((i + 1 : Nat) : Int) - 1 = (i : Int) := by omega
  rw [e1]
  obtain ⟨b1, o1, rfl, _, c1⟩ := (unhide Hr).at_ (k := i) (u := .int .u8 mark.toNat) (bys_at (rep_at ys mark (by rw [unhide Hyl]; have := (unhide Hjl) hlt; omega) (by rw [unhide Hyl]; have := unhide Hm; omega)))
  have him : i < m := by omega
  have hself : (((mark.toNat : Nat) : Int) == ((mark.toNat : Nat) : Int)) = true := beq_self_eq_true _
  clear e1
  go_wp2_with fail
  go_roundg (40 - (k + 1))
  case measure => have := unhide Hgk; omega
  case rel => exact ⟨k + 1, i, rfl, by omega, by have := unhide Hj; omega, by go_num, rfl, rfl⟩

/-- A row among those that are held apart. -/
structure RB where
  A : Option Addr
  n : Nat
  c : Nat
  xs : List UInt8
abbrev RB.v (r : RB) : Value := .slice r.A r.n r.c
def RB.ok (r : RB) (w : World) (base : Nat) : Prop := w.ownsRow base 5 1 r.v r.n (bys r.xs)
theorem RB.ok.rd {r : RB} {w : World} {base : Nat} (h : r.ok w base) : Rd w w.heap.size 1 r.A r.n (bys r.xs) := Rd.of_own h
def nilSl : Value := .slice none 0 0
/-- What a row of slices holds where the first ones are done. -/
def done (D : List RB) (N : Nat) : List Value := D.map RB.v ++ List.replicate (N - D.length) nilSl
theorem done_at {D : List RB} {N j : Nat} {d : RB} (h : D[j]? = some d) : (done D N)[j]? = some d.v := by
  have hlt := (List.getElem?_eq_some_iff.1 h).1
  unfold done
  rw [List.getElem?_append_left (by simpa using hlt), List.getElem?_map, h]
  rfl
theorem done_next {D : List RB} {N : Nat} (h : D.length < N) : (done D N)[D.length]? = some nilSl := by
  unfold done
  rw [List.getElem?_append_right (by simp), List.length_map, Nat.sub_self, List.getElem?_replicate, if_pos (by omega)]
theorem done_set {D : List RB} {N : Nat} (h : D.length < N) (d : RB) : (done D N).set D.length d.v = done (D ++ [d]) N := by
  unfold done
  rw [show N - D.length = (N - (D.length + 1)) + 1 from by omega, List.replicate_succ, List.set_append]
  simp
/-- Where Apart stands: its two rows lie at w's end and at gl. -/
structure ApS (w wr : World) (base G gl : Nat) (R D E : List RB) : Prop where
  bel : Below base w wr
  hgl : w.heap.size < gl
  size : gl < wr.heap.size
  all : Blk wr G 29 (R.map RB.v)
  was : wr.ownsRow w.heap.size 29 1 (.slice (some ⟨w.heap.size, 0, none⟩) R.length R.length) R.length (done D R.length)
  long : wr.ownsRow w.heap.size 29 1 (.slice (some ⟨gl, 0, none⟩) R.length R.length) R.length (done E R.length)
  rows : ∀ (j : Nat) r, R[j]? = some r → r.ok wr base
  ds : ∀ (j : Nat) d r, D[j]? = some d → R[j]? = some r → d.n = r.n ∧ d.xs = r.xs ∧ d.ok wr (gl + 1)
  es : ∀ (j : Nat) d r, E[j]? = some d → R[j]? = some r → d.n = r.n + 40 ∧ d.xs = r.xs ++ List.replicate 40 (UInt8.ofNat (j + 1)) ∧ d.ok wr base ∧ ∀ g, d.v.ownBlock = some g → r.v.ownBlock = some g ∨ gl + 1 ≤ g
/-- What is given. -/
structure ApG (w : World) (base G : Nat) (R : List RB) : Prop where
  lo : base ≤ w.heap.size
  all : Blk w G 29 (R.map RB.v)
  rows : ∀ (j : Nat) r, R[j]? = some r → r.ok w base
  len : ∀ (j : Nat) r, R[j]? = some r → r.n ≤ 4294967296
  G : ∀ (j : Nat) r, R[j]? = some r → r.v.ownBlock ≠ some G
  pair : ∀ (i j : Nat) r s, R[i]? = some r → R[j]? = some s → i ≠ j → ∀ g, r.v.ownBlock = some g → s.v.ownBlock ≠ some g
  few : R.length ≤ 200
theorem ApG.lt {w : World} {base G j : Nat} {R : List RB} (h : ApG w base G R) {r : RB} (hr : R[j]? = some r) {g : Nat} (hg : r.v.ownBlock = some g) : g < w.heap.size := ((h.rows j r hr).lt g hg).2
theorem own_setNe {w : World} {base : Nat} {e : TypeId} {size n : Nat} {v : Value} {xs : List Value} (h : w.ownsRow base e size v n xs) {p : Addr} (hp : ∀ g, v.ownBlock = some g → g ≠ p.block) (u : Value) : (w.setCell p u).ownsRow base e size v n xs := by
  refine ⟨h.1, h.2.imp id ?_⟩
  rintro ⟨g, cap, cur, e1, e2, e3, r⟩
  exact ⟨g, cap, cur, e1, e2, (heap_setCell_other _ _ _ _ (by have := hp g (by rw [e1]; rfl); omega)).trans e3, r⟩
section
variable {w wr w' : World} {base G gl : Nat} {R D E : List RB} {r d : RB}
theorem RB.ok.below {B : Nat} (h : r.ok wr B) (hb : Below wr.heap.size wr w') : r.ok w' B := own_below h hb
theorem RB.ok.lo {B : Nat} (h : r.ok wr B) {g : Nat} (hg : r.v.ownBlock = some g) : B ≤ g := (h.lt g hg).1
theorem ApS.below (h : ApS w wr base G gl R D E) (q : ApG w base G R) (hb : Below wr.heap.size wr w') : ApS w w' base G gl R D E :=
  ⟨h.bel.trans (hb.mono (by have := h.size; have := h.hgl; have := q.lo; omega)), h.hgl, Nat.lt_of_lt_of_le h.size hb.size, h.all.belowSz hb, own_below h.was hb, own_below h.long hb, fun j r hr => (h.rows j r hr).below hb,
   fun j d r h1 h2 => by obtain ⟨a, b, c⟩ := h.ds j d r h1 h2; exact ⟨a, b, c.below hb⟩,
   fun j d r h1 h2 => by obtain ⟨a, b, c, e⟩ := h.es j d r h1 h2; exact ⟨a, b, c.below hb, e⟩⟩
theorem snoc_at {α : Type} {l : List α} {x y : α} {j : Nat} (h : (l ++ [x])[j]? = some y) : (l[j]? = some y) ∨ (j = l.length ∧ y = x) := by
  rw [List.getElem?_append] at h
  split at h
  · exact .inl h
  · rename_i hj
    have h2 : j - l.length = 0 := by
      have := (List.getElem?_eq_some_iff.1 h).1
      simp at this
      omega
    rw [h2] at h
    exact .inr ⟨by omega, by simpa using h.symm⟩
theorem ApS.put1 (h : ApS w wr base G gl R D E) (q : ApG w base G R) (hk : R[D.length]? = some r) (hd : d.ok wr (gl + 1)) (e1 : d.n = r.n) (e2 : d.xs = r.xs) : ApS w (wr.setCell ⟨w.heap.size, D.length, none⟩ d.v) base G gl R (D ++ [d]) E := by
  have hlt := (List.getElem?_eq_some_iff.1 hk).1
  have hG := q.all.lt
  have hgl := h.hgl
  refine ⟨h.bel.setCell q.lo _, h.hgl, by simpa using h.size, h.all.other (by simp; omega) _, ?_, own_setNe h.long (fun g hg => ?_) _, fun j s hs => own_setNe (h.rows j s hs) (fun g hg => ?_) _, fun j x s h1 h2 => ?_, fun j x s h1 h2 => ?_⟩
  · rw [← done_set hlt]
    exact own_set h.was _
  · simp [Value.ownBlock] at hg
    simp
    omega
  · have := q.lt hs hg
    simp
    omega
  · rcases snoc_at h1 with h1 | ⟨rfl, rfl⟩
    · obtain ⟨a, b, c⟩ := h.ds j x s h1 h2
      exact ⟨a, b, own_setNe c (fun g hg => by have := c.lo hg; simp; omega) _⟩
    · rw [hk] at h2
      injection h2 with h2
      subst h2
      exact ⟨e1, e2, own_setNe hd (fun g hg => by have := hd.lo hg; simp; omega) _⟩
  · obtain ⟨a, b, c, e⟩ := h.es j x s h1 h2
    refine ⟨a, b, own_setNe c (fun g hg => ?_) _, e⟩
    rcases e g hg with h3 | h3
    · have := q.lt h2 h3; simp; omega
    · simp; omega
theorem ApS.gone (h : ApS w wr base G gl R D E) (q : ApG w base G R) (hk : R[E.length]? = some r) {mark : UInt8} {A' : Option Addr} {c' : Nat} (hg : Gone wr w' base r.A r.n r.c r.xs mark 40 A' c') : ApS w w' base G gl R D E := by
  have hG := q.all.lt
  have hgl := h.hgl
  have hsz := hg.grew.kept.size
  have hrk := q.rows _ _ hk
  have hl : base ≤ wr.heap.size := by have := h.size; have := q.lo; omega
  refine ⟨h.bel.trans (hg.grew.below hl (fun k hk' => hrk.lo hk')), h.hgl, Nat.lt_of_lt_of_le h.size hsz, hg.grew.blk (by have := h.size; omega) (q.G _ _ hk) h.all, own_grown h.was hg.grew.kept (fun g hg => ?_), own_grown h.long hg.grew.kept (fun g hg => ?_), fun j s hs => ?_, fun j x s h1 h2 => ?_, fun j x s h1 h2 => ?_⟩
  · simp [Value.ownBlock] at hg
    intro e
    have := q.lt hk e
    omega
  · simp [Value.ownBlock] at hg
    intro e
    have := q.lt hk e
    omega
  · by_cases hj : j = E.length
    · subst hj
      rw [hk] at hs
      injection hs with hs
      subst hs
      exact hg.keeps
    · exact own_grown (h.rows j s hs) hg.grew.kept (fun g hg => q.pair j E.length s r hs hk hj g hg)
  · obtain ⟨a, b, c⟩ := h.ds j x s h1 h2
    exact ⟨a, b, own_grown c hg.grew.kept (fun g hg e => by have := c.lo hg; have := q.lt hk e; omega)⟩
  · obtain ⟨a, b, c, e⟩ := h.es j x s h1 h2
    have hj : j < E.length := (List.getElem?_eq_some_iff.1 h1).1
    refine ⟨a, b, own_grown c hg.grew.kept (fun g hg e2 => ?_), e⟩
    rcases e g hg with h3 | h3
    · exact q.pair j E.length s r h2 hk (by omega) g h3 e2
    · have := q.lt hk e2; omega
theorem ApS.put2 (h : ApS w wr base G gl R D E) (q : ApG w base G R) (hk : R[E.length]? = some r) (hd : d.ok wr base) (e1 : d.n = r.n + 40) (e2 : d.xs = r.xs ++ List.replicate 40 (UInt8.ofNat (E.length + 1)))
    (e3 : ∀ g, d.v.ownBlock = some g → r.v.ownBlock = some g ∨ gl + 1 ≤ g) : ApS w (wr.setCell ⟨gl, E.length, none⟩ d.v) base G gl R D (E ++ [d]) := by
  have hlt := (List.getElem?_eq_some_iff.1 hk).1
  have hG := q.all.lt
  have hgl := h.hgl
  have hlo := q.lo
  refine ⟨h.bel.setCell (by show base ≤ gl; omega) _, h.hgl, by simpa using h.size, h.all.other (by simp; omega) _, own_setNe h.was (fun g hg => ?_) _, ?_, fun j s hs => own_setNe (h.rows j s hs) (fun g hg => ?_) _, fun j x s h1 h2 => ?_, fun j x s h1 h2 => ?_⟩
  · simp [Value.ownBlock] at hg
    simp
    omega
  · rw [← done_set hlt]
    exact own_set h.long _
  · have := q.lt hs hg
    simp
    omega
  · obtain ⟨a, b, c⟩ := h.ds j x s h1 h2
    exact ⟨a, b, own_setNe c (fun g hg => by have := c.lo hg; simp; omega) _⟩
  · rcases snoc_at h1 with h1 | ⟨rfl, rfl⟩
    · obtain ⟨a, b, c, e⟩ := h.es j x s h1 h2
      refine ⟨a, b, own_setNe c (fun g hg => ?_) _, e⟩
      rcases e g hg with h3 | h3
      · have := q.lt h2 h3; simp; omega
      · simp; omega
    · rw [hk] at h2
      injection h2 with h2
      subst h2
      refine ⟨e1, e2, own_setNe hd (fun g hg => ?_) _, e3⟩
      rcases e3 g hg with h3 | h3
      · have := q.lt hk h3; simp; omega
      · simp; omega
theorem ApS.drewN (h : ApS w wr base G gl R D E) (m : Nat) : ApS w (wr.drewN m) base G gl R D E := ⟨below_drewN' h.bel m, h.hgl, h.size, h.all, h.was, h.long, h.rows, h.ds, h.es⟩
/-- Where Apart stands while it writes over: the rows from k on are as they were. -/
structure ApX (w wr : World) (base G gl : Nat) (R D : List RB) (k : Nat) : Prop where
  bel : Below base w wr
  hgl : w.heap.size < gl
  all : Blk wr G 29 (R.map RB.v)
  was : wr.ownsRow w.heap.size 29 1 (.slice (some ⟨w.heap.size, 0, none⟩) R.length R.length) R.length (done D R.length)
  rows : ∀ (j : Nat) r, k ≤ j → R[j]? = some r → r.ok wr base
  ds : ∀ (j : Nat) d r, D[j]? = some d → R[j]? = some r → d.n = r.n ∧ d.xs = r.xs ∧ d.ok wr (gl + 1)
theorem ApS.x (h : ApS w wr base G gl R D E) : ApX w wr base G gl R D 0 := ⟨h.bel, h.hgl, h.all, h.was, fun j r _ hr => h.rows j r hr, h.ds⟩
theorem ApX.drewN {k : Nat} (h : ApX w wr base G gl R D k) (m : Nat) : ApX w (wr.drewN m) base G gl R D k := ⟨below_drewN' h.bel m, h.hgl, h.all, h.was, h.rows, h.ds⟩
theorem ApX.next {k : Nat} (h : ApX w wr base G gl R D k) : ApX w wr base G gl R D (k + 1) := ⟨h.bel, h.hgl, h.all, h.was, fun j r hj hr => h.rows j r (by omega) hr, h.ds⟩
theorem ApX.set {k g o : Nat} (h : ApX w wr base G gl R D (k + 1)) (q : ApG w base G R) (hk : R[k]? = some r) (hg : r.v.ownBlock = some g) (u : Value) : ApX w (wr.setCell ⟨g, o, none⟩ u) base G gl R D (k + 1) := by
  have h1 := q.lt hk hg
  have h2 := (q.rows _ _ hk).lo hg
  have h3 := h.hgl
  refine ⟨h.bel.setCell h2 u, h.hgl, h.all.other (fun e => q.G _ _ hk (by rw [hg]; exact congrArg some e)) _, own_setNe h.was (fun g' hg' => ?_) _, fun j s hj hs => own_setNe (h.rows j s hj hs) (fun g' hg' e => ?_) _, fun j x s h4 h5 => ?_⟩
  · simp [Value.ownBlock] at hg'
    simp
    omega
  · simp at e
    subst e
    exact q.pair j k s r hs hk (by omega) _ hg' hg
  · obtain ⟨a, b, c⟩ := h.ds j x s h4 h5
    exact ⟨a, b, own_setNe c (fun g' hg' => by have := c.lo hg'; simp; omega) _⟩
end
end Go.Proofs.Ytmoenjmhogmcoaa
namespace Go.Proofs.Ytmoenjmhogmcoaa
set_option linter.unusedVariables false
set_option linter.unusedSimpArgs false
open Go.RowKit

theorem slInfo : (Try.prog.info? 29).map (fun i => (i.zero, i.size, i.bytes)) = some (some (.slice none 0 0), 1, 24) := by kernel_rfl
theorem done_nil (N : Nat) : (madeCells nilSl.cells (N * 1)).toList = done [] N := by
  simp [done, nilSl, Value.cells, toList_madeCells_one]
theorem xor_u8 (c : UInt8) : ∃ y : UInt8, bits BinOp.xor IntKind.u8 ((c.toNat : Nat) : Int) 255 = ((y.toNat : Nat) : Int) := by
  have h : ∀ x : Fin 256, bits BinOp.xor IntKind.u8 ((x.val : Nat) : Int) 255 = ((255 - x.val : Nat) : Int) := by decide +kernel
  have h2 := h ⟨c.toNat, c.toNat_lt⟩
  refine ⟨UInt8.ofNat (255 - c.toNat), h2.trans ?_⟩
  have : (UInt8.ofNat (255 - c.toNat)).toNat = 255 - c.toNat := by simp; omega
  rw [this]

set_option maxRecDepth 100000 in
set_option maxHeartbeats 4000000 in
theorem apart_any (G base N : Nat) (R : List RB) (w : World) (q : ApG w base G R) (hN : R.length = N) :
    Calls Try.prog 15 #[.slice (some ⟨G, 0, none⟩) N N] w fun e w' => e = .returned (.bool true) ∧ Below base w w' := by
  obtain ⟨i, hi, hz0, hz1, hz2⟩ := info_parts slInfo
  have Hi := hide hi
  have Hz0 := hide hz0
  have Hz1 := hide hz1
  have Hz2 := hide hz2
  have hfew := q.few
  rw [hN] at hfew
  have Q := hide q
  have HN := hide hN
  clear hi hz0 hz1 hz2 q hN
  go_enter Try.func15, Try.ntmps15
  go_wp2_with (first
    | (at_make; (with_reducible refine (@id (wpList _ _ _ _ _ w) ?_)); refine wpList_make_full _ rfl _ _ 38 rfl w.heap.size 29 i nilSl 1 Try.underlying38 (unhide Hi) (unhide Hz0) (unhide Hz1) _ _ _ _ N rfl rfl rfl rfl (by rw [unhide Hz2]; omega) (by unfold maxLen; omega) (Nat.le_refl _) ?_; intro w1 hown1 hg1; have hsz1 := hg1.size; have Hown1 := hide hown1; have Hg1 := hide hg1; clear hown1 hg1)
    | (at_make; (with_reducible refine (@id (wpList _ _ _ _ _ w1) ?_)); refine wpList_make_full _ rfl _ _ 38 rfl w.heap.size 29 i nilSl 1 Try.underlying38 (unhide Hi) (unhide Hz0) (unhide Hz1) _ _ _ _ N rfl rfl rfl rfl (by rw [unhide Hz2]; omega) (by unfold maxLen; omega) hsz1 ?_; intro w2 hown2 hg2; have Hown2 := hide hown2; have Hg2 := hide hg2; clear hown2 hg2))
  have hS0 : ApS w w2 base G w1.heap.size R [] [] := by
    have q := unhide Q
    have g1 := unhide Hg1
    have g2 := unhide Hg2
    have o1 := own_grown (unhide Hown1) g2 (fun g hg e => by cases e)
    have o2 := unhide Hown2
    rw [done_nil, ← unhide HN] at o1 o2
    have hG := q.all.lt
    refine ⟨(((Below.refl base w).grown g1 q.lo (fun k hk => by cases hk)).grown g2 (Nat.le_trans q.lo hsz1) (fun k hk => by cases hk)), (own_at (unhide Hown1)).2.1, (own_at (unhide Hown2)).2.1, ?_, o1, o2, fun j r hr => own_grown (own_grown (q.rows j r hr) g1 (fun g hg e => by cases e)) g2 (fun g hg e => by cases e), fun j d r h1 => by simp at h1, fun j d r h1 => by simp at h1⟩
    exact (g2.block _ (by omega) (fun e => by cases e)).trans ((g1.block _ hG (fun e => by cases e)).trans q.all)
  generalize hgl : w1.heap.size = gl at *
  have HS0 := hide hS0
  clear hS0 hgl Hown1 Hown2 Hg1 Hg2 Hi Hz0 Hz1 Hz2
  go_loopg [5] N (fun gk av wr => ∃ D, gk = N - D.length ∧ D.length ≤ N ∧ av = .int .i64 D.length ∧ ApS w wr base G gl R D [])
  case atStart => exact ⟨[], by simp, by simp, rfl, unhide HS0⟩
  case round =>
  clear HS0
  obtain ⟨D, hgk, hk, rfl, hS⟩ := hrel
  have Hgk := hide hgk
  have HS := hide hS
  clear hgk hS
  rcases Nat.lt_or_ge D.length N with hlt | hge
  case inl =>
    obtain ⟨r, hr⟩ : ∃ r, R[D.length]? = some r := ⟨_, List.getElem?_eq_getElem (by rw [unhide HN]; exact hlt)⟩
    have c1 := (unhide HS).all.cell (i := D.length) (u := r.v) (by simp [hr])
    have hsz := (unhide HS).size
    have hgl := (unhide HS).hgl
    have hrk := (unhide HS).rows _ _ hr
    have K := hide (copyBytes_any r.A r.n r.c wr.heap.size r.xs wr (Nat.le_refl _) hrk.rd ((unhide Q).len _ _ hr))
    have Hr := hide hr
    clear hr hrk
    go_wp2_with fail
    refine (unhide K).mono ?_
    rintro e w3 ⟨A', c', rfl, ho, hb⟩
    have hS3 := (unhide HS).below (unhide Q) hb
    have hput := hS3.put1 (d := ⟨A', r.n, c', r.xs⟩) (unhide Q) (unhide Hr) (own_base ho (by omega)) rfl rfl
    have z1 := own_free hS3.was D.length
    have z2 := own_cell hS3.was (done_next (by rw [unhide HN]; exact hlt))
    have z3 := own_at hS3.was
    have Hput := hide hput
    clear hput hS3 ho hb K c1
    go_wp2_with fail
    go_roundg (N - (D.length + 1))
    case measure => have := unhide Hgk; omega
    case rel => exact ⟨D ++ [⟨A', r.n, c', r.xs⟩], by simp, by simp; omega, by simp, unhide Hput⟩
  have HDN := hide (show D.length = N by omega)
  have d1 : decide (D.length < N) = false := by simp; omega
  clear hge
  clear Hgk hk
  go_wp2_with fail
  go_loopg [6] N (fun gk av wr => ∃ E, gk = N - E.length ∧ E.length ≤ N ∧ av = .int .i64 E.length ∧ ApS w wr base G gl R D E)
  case atStart => exact ⟨[], by simp, by simp, rfl, unhide HS⟩
  case round =>
  clear HS
  obtain ⟨E, hgk, hk, rfl, hS⟩ := hrel
  have Hgk := hide hgk
  have HS := hide hS
  clear hgk hS
  rcases Nat.lt_or_ge E.length N with hlt | hge2
  case inl =>
    obtain ⟨r, hr⟩ : ∃ r, R[E.length]? = some r := ⟨_, List.getElem?_eq_getElem (by rw [unhide HN]; exact hlt)⟩
    have c1 := (unhide HS).all.cell (i := E.length) (u := r.v) (by simp [hr])
    have hsz := (unhide HS).size
    have hgl := (unhide HS).hgl
    have hlo := (unhide Q).lo
    have hrk := (unhide HS).rows _ _ hr
    have K := goneOn_any r.A r.n r.c base r.xs (UInt8.ofNat (E.length + 1)) wr hrk ((unhide Q).len _ _ hr) (by omega)
    have e1 : (((UInt8.ofNat (E.length + 1)).toNat : Nat) : Int) = (E.length : Int) + 1 := by simp; omega
    rw [e1] at K
    replace K := hide K
    have Hr := hide hr
    clear hr hrk e1
    go_wp2_with fail
    refine (unhide K).mono ?_
    rintro e w3 ⟨A', c', rfl, hg⟩
    have hS3 := (unhide HS).gone (unhide Q) (unhide Hr) hg
    have hat : ∀ g, (Value.slice A' (r.n + 40) c').ownBlock = some g → r.v.ownBlock = some g ∨ gl + 1 ≤ g := fun g h => (hg.grew.at_ g h).imp id fun h => by omega
    have hput := hS3.put2 (d := ⟨A', r.n + 40, c', r.xs ++ List.replicate 40 (UInt8.ofNat (E.length + 1))⟩) (unhide Q) (unhide Hr) hg.grew.own rfl rfl hat
    have z1 := own_free hS3.long E.length
    have z2 := own_cell hS3.long (done_next (by rw [unhide HN]; exact hlt))
    have z3 := own_at hS3.long
    have Hput := hide hput
    clear hput hS3 hg hat K c1
    go_wp2_with fail
    go_roundg (N - (E.length + 1))
    case measure => have := unhide Hgk; omega
    case rel => exact ⟨E ++ [⟨A', r.n + 40, c', r.xs ++ List.replicate 40 (UInt8.ofNat (E.length + 1))⟩], by simp, by simp; omega, by simp, unhide Hput⟩
  have HEN := hide (show E.length = N by omega)
  have d2 : decide (E.length < N) = false := by simp; omega
  clear hge2
  clear Hgk hk
  go_wp2_with fail
  go_loopg [7] N (fun gk av wr => ∃ k : Nat, gk = N - k ∧ k ≤ N ∧ av = .int .i64 k ∧ ApS w wr base G gl R D E)
  case atStart => exact ⟨0, by omega, by omega, rfl, unhide HS⟩
  case round =>
  clear HS
  obtain ⟨k, hgk, hk, rfl, hS⟩ := hrel
  have Hgk := hide hgk
  have HS := hide hS
  clear hgk hS
  rcases Nat.lt_or_ge k N with hlt | hge3
  case inl =>
    obtain ⟨r, hr⟩ : ∃ r, R[k]? = some r := ⟨_, List.getElem?_eq_getElem (by rw [unhide HN]; exact hlt)⟩
    obtain ⟨d, hd⟩ : ∃ d, D[k]? = some d := ⟨_, List.getElem?_eq_getElem (by rw [unhide HDN]; exact hlt)⟩
    obtain ⟨e, he⟩ : ∃ e, E[k]? = some e := ⟨_, List.getElem?_eq_getElem (by rw [unhide HEN]; exact hlt)⟩
    obtain ⟨u1, u2, u3⟩ := (unhide HS).ds _ _ _ hd hr
    obtain ⟨v1, v2, v3, _⟩ := (unhide HS).es _ _ _ he hr
    have c1 := (unhide HS).all.cell (i := k) (u := r.v) (by simp [hr])
    have c2 := own_cell (unhide HS).was (done_at hd)
    have c3 := own_cell (unhide HS).long (done_at he)
    have hrk := (unhide HS).rows _ _ hr
    have hrn := (unhide Q).len _ _ hr
    have K1 : ∀ m, Calls Try.prog 28 #[.slice e.A e.n e.c, .int .u8 ((k : Int) + 1)] (wr.drewN m) fun e w' => e = .returned (.int .i64 40) ∧ w' = wr.drewN m := by
      intro m
      have e1 : (((UInt8.ofNat (k + 1)).toNat : Nat) : Int) = (k : Int) + 1 := by simp; omega
      rw [← e1]
      have h := v3.rd
      rw [v2] at h
      exact (marked_any e.A r.n e.n e.c wr.heap.size r.xs (UInt8.ofNat (k + 1)) (wr.drewN m) h v1 hrn).mono fun _ _ h => ⟨h.1, h.2.symm⟩
    have K2 : ∀ m, Calls Try.prog 12 #[.slice r.A r.n r.c, .slice d.A d.n d.c] (wr.drewN m) fun e w' => e = .returned (.bool true) ∧ ∃ j, w' = (wr.drewN m).drewN j := by
      intro m
      have h := eqBytes_any r.A d.A r.n d.n r.c d.c wr.heap.size r.xs d.xs (wr.drewN m) hrk.rd u3.rd (by unfold maxLen; omega) (by unfold maxLen; omega)
      rwa [u2, decide_eq_true rfl] at h
    replace K1 := hide K1
    replace K2 := hide K2
    clear u1 u2 u3 v1 v2 v3 hr hd he hrk hrn
    go_wp2_with fail
    go_quiet (first
      | (go_at_call 28; exact Calls.quiet_of_same ((unhide K1) _))
      | (go_at_call 12; exact Calls.quiet_of ((unhide K2) _)))
    go_wp2_with fail
    go_roundg (N - (k + 1))
    case measure => have := unhide Hgk; omega
    case rel => exact ⟨k + 1, rfl, by omega, by go_num, (unhide HS).drewN _⟩
  have d3 : decide (k < N) = false := by simp; omega
  have HX := hide (unhide HS).x
  clear hge3 HS Hgk hk
  go_wp2_with fail
  go_loopg [8] N (fun gk av wr => ∃ k : Nat, gk = N - k ∧ k ≤ N ∧ av = .int .i64 k ∧ ApX w wr base G gl R D k)
  case atStart => exact ⟨0, by omega, by omega, rfl, unhide HX⟩
  case round =>
  clear HX
  obtain ⟨k, hgk, hk, rfl, hX⟩ := hrel
  have Hgk := hide hgk
  have HX := hide hX
  clear hgk hX
  rcases Nat.lt_or_ge k N with hlt | hge4
  case inr =>
    go_wp2_with fail
    go_ret
    exact ⟨rfl, (unhide HX).bel⟩
  obtain ⟨r, hr⟩ : ∃ r, R[k]? = some r := ⟨_, List.getElem?_eq_getElem (by rw [unhide HN]; exact hlt)⟩
  have c1 := (unhide HX).all.cell (i := k) (u := .slice r.A r.n r.c) (by simp [hr])
  have hrn := (unhide Q).len _ _ hr
  have Hr := hide hr
  have hok := (unhide HX).rows _ _ (Nat.le_refl _) hr
  have hX1 := (unhide HX).next
  have Hok := hide hok
  have HX1 := hide hX1
  clear hr hok hX1 HX
  go_wp2_with fail
  go_loopg [10] r.n (fun gk av wr => ∃ (j : Nat) (ys : List UInt8), gk = r.n - j ∧ j ≤ r.n ∧ av = .int .i64 j ∧ ApX w wr base G gl R D (k + 1) ∧ RB.ok ⟨r.A, r.n, r.c, ys⟩ wr base)
  case atStart => exact ⟨0, r.xs, by omega, by omega, rfl, unhide HX1, unhide Hok⟩
  case round =>
  clear HX1 Hok c1
  obtain ⟨j, ys, hgj, hj, rfl, hX1, hok⟩ := hrel
  have Hgj := hide hgj
  have HX1 := hide hX1
  have Hok := hide hok
  clear hgj hX1 hok
  rcases Nat.lt_or_ge j r.n with hjlt | hjge
  case inl =>
    have hown : _ := unhide Hok
    unfold RB.ok RB.v at hown
    simp only at hown
    have hyl : ys.length = r.n := by have := hown.1; simpa [bys] using this
    obtain ⟨g, hA, hg1, hg2⟩ := own_some hown (by omega)
    obtain ⟨x, hx⟩ : ∃ x, ys[j]? = some x := ⟨_, List.getElem?_eq_getElem (by rw [hyl]; exact hjlt)⟩
    rw [hA] at hown
    have z1 := own_free hown j
    have z2 := own_cell hown (bys_at hx)
    obtain ⟨y, hy⟩ := xor_u8 x
    have hset := own_set (i := j) hown (.int .u8 y.toNat)
    rw [bys_set] at hset
    have hXs := (unhide HX1).set (g := g) (o := j) (unhide Q) (unhide Hr) (by show (Value.slice r.A r.n r.c).ownBlock = some g; rw [hA]; rfl) (.int .u8 y.toNat)
    have HXs := hide hXs
    have HA := hide hA
    have Hset := hide hset
    rw [hA]
    clear hown hyl hx hXs hset hA HX1 Hok
    go_wp2_with fail
    rw [← unhide HA]
    go_roundg (r.n - (j + 1))
    case measure => have := unhide Hgj; omega
    case rel => exact ⟨j + 1, ys.set j y, rfl, by omega, by go_num, unhide HXs, by show World.ownsRow _ _ _ _ (Value.slice r.A r.n r.c) _ _; rw [unhide HA]; exact unhide Hset⟩
  have d4 : decide (j < r.n) = false := by simp; omega
  clear hjge Hok Hgj hj
  go_wp2_with fail
  go_loopg [11] (N - (k + 1)) (fun gk av wr => ∃ o : Nat, gk = N - o ∧ k + 1 ≤ o ∧ o ≤ N ∧ av = .int .i64 o ∧ ApX w wr base G gl R D (k + 1))
  case atStart => exact ⟨k + 1, by omega, by omega, by omega, by go_num, unhide HX1⟩
  case round =>
  clear HX1
  obtain ⟨o, hgo, hko, ho, rfl, hX1⟩ := hrel
  have Hgo := hide hgo
  have HX1 := hide hX1
  clear hgo hX1
  rcases Nat.lt_or_ge o N with holt | hoge
  case inl =>
    obtain ⟨s, hs⟩ : ∃ s, R[o]? = some s := ⟨_, List.getElem?_eq_getElem (by rw [unhide HN]; exact holt)⟩
    obtain ⟨d, hd⟩ : ∃ d, D[o]? = some d := ⟨_, List.getElem?_eq_getElem (by rw [unhide HDN]; exact holt)⟩
    obtain ⟨u1, u2, u3⟩ := (unhide HX1).ds _ _ _ hd hs
    have hsk := (unhide HX1).rows _ _ hko hs
    have hsn := (unhide Q).len _ _ hs
    have c1 := (unhide HX1).all.cell (i := o) (u := s.v) (by simp [hs])
    have c2 := own_cell (unhide HX1).was (done_at hd)
    have K2 : ∀ m, Calls Try.prog 12 #[.slice s.A s.n s.c, .slice d.A d.n d.c] (wr.drewN m) fun e w' => e = .returned (.bool true) ∧ ∃ j, w' = (wr.drewN m).drewN j := by
      intro m
      have h := eqBytes_any s.A d.A s.n d.n s.c d.c wr.heap.size s.xs d.xs (wr.drewN m) hsk.rd u3.rd (by unfold maxLen; omega) (by unfold maxLen; omega)
      rwa [u2, decide_eq_true rfl] at h
    replace K2 := hide K2
    clear u1 u2 u3 hs hd hsk hsn
    go_wp2_with fail
    go_quiet ((go_at_call 12; exact Calls.quiet_of ((unhide K2) _)))
    go_wp2_with fail
    go_roundg (N - (o + 1))
    case measure => have := unhide Hgo; omega
    case rel => exact ⟨o + 1, rfl, by omega, by omega, by go_num, (unhide HX1).drewN _⟩
  have d5 : decide (o < N) = false := by simp; omega
  clear hoge Hgo hko ho
  go_wp2_with fail
  go_roundg (N - (k + 1))
  case measure => have := unhide Hgk; omega
  case rel => exact ⟨k + 1, rfl, by omega, by go_num, unhide HX1⟩
end Go.Proofs.Ytmoenjmhogmcoaa
namespace Go.Proofs.Ytmoenjmhogmcoaa
set_option linter.unusedVariables false
set_option linter.unusedSimpArgs false
open Go.RowKit

theorem strTy9 : Try.prog.underlying 9 = some .string := Try.underlying9
set_option maxRecDepth 100000 in
set_option maxHeartbeats 4000000 in
theorem rtext_any (s : ByteArray) (w : World) (hs : s.size ≤ 4294967296) :
    Calls Try.prog 36 #[.string s] w fun e w' => ∃ A' c', e = .returned (.slice A' (s.size + 1) c') ∧ OwnM w' w.heap.size A' (s.size + 1) c' (Stk.tx s) ∧ Below w.heap.size w w' := by
  have hcv := run_bytes_of_string (P := Try.prog) w 9 29 5 s strTy9 Try.underlying29 Try.underlying5
  have hm := OwnM.conv w s (by unfold maxLen; omega)
  have hb1 : Below w.heap.size w (w.drew.alloc (.cells (bytesRow s (grownCap w s.size 0 5)) 5 ((bytesRow s (grownCap w s.size 0 5)).size, (bytesRow s (grownCap w s.size 0 5)).size + 1))) := (below_drew' (Below.refl _ _)).alloc (Nat.le_refl _) _
  generalize (w.drew.alloc (.cells (bytesRow s (grownCap w s.size 0 5)) 5 ((bytesRow s (grownCap w s.size 0 5)).size, (bytesRow s (grownCap w s.size 0 5)).size + 1))) = w1 at *
  generalize grownCap w s.size 0 5 = cc at *
  have hbl : Below w1.heap.size w1 (w1.alloc (.cells #[.int .u8 0] 5)) := (Below.refl _ _).alloc (Nat.le_refl _) _
  have hm1 := hm.below hbl
  have hlit : Rd (w1.alloc (.cells #[.int .u8 0] 5)) (w1.heap.size + 1) 1 (some ⟨w1.heap.size, 0, none⟩) 1 (bys [0]) := Rd.row (w := w1) rfl
  have hs1 := hb1.size
  have Hm1 := hide hm1
  have Hlit := hide hlit
  have Hb := hide (hb1.trans (hbl.mono hs1))
  clear hm hm1 hlit hb1 hbl
  go_enter Try.func36, Try.ntmps36
  go_wp2_with (at_builtin; refine wpList_appM rfl _ _ rfl w.heap.size (some ⟨w.heap.size, 0, none⟩) s.size cc s.data.toList rfl (unhide Hm1) (w1.heap.size + 1) w1.heap.size 0 1 1 [0] rfl (unhide Hlit) (by omega) (by simp; omega) ?_; intro A2 c2 w2 hm2 hg2 ha2; have Hm2 := hide hm2; have Hb2 := hide ((unhide Hb).grown hg2 (by simp; omega) (fun k hk => by simp [Value.ownBlock] at hk; omega)); clear hm2 hg2 ha2)
  go_ret
  exact ⟨A2, c2, rfl, unhide Hm2, unhide Hb2⟩

/-- Where put stands: the bytes xs so far, in a row from 'base' on. -/
structure TxS (w : World) (gt base : Nat) (A : Option Addr) (n c : Nat) (xs : List UInt8) : Prop where
  blk : Blk w gt 55 [.slice A n c, .slice none 0 0]
  row : OwnM w base A n c xs
  ne : ∀ o, A ≠ some ⟨gt, o, none⟩
theorem TxS.below {w w' : World} {gt base n c : Nat} {A : Option Addr} {xs : List UInt8} (h : TxS w gt base A n c xs) (hb : Below w.heap.size w w') : TxS w' gt base A n c xs := ⟨h.blk.belowSz hb, h.row.below hb, h.ne⟩
theorem TxS.len {w : World} {gt base n c : Nat} {A : Option Addr} {xs : List UInt8} (h : TxS w gt base A n c xs) : xs.length = n := h.row.1

set_option maxRecDepth 100000 in
set_option maxHeartbeats 8000000 in
theorem rput_any (gt base : Nat) (AB : Option Addr) (nB cB : Nat) (xs : List UInt8) (A : Option Addr) (n c : Nat) (l : List ByteArray) (w : World) (h : TxS w gt base AB nB cB xs) (hln : l.length = n) (hl : ∀ (j : Nat) s, l[j]? = some s → ∃ b o, A = some ⟨b, o, none⟩ ∧ b < w.heap.size ∧ b ≠ gt ∧ w.cell? ⟨b, o + j, none⟩ = some (.string s)) (hbase : base ≤ w.heap.size) (hn : n ≤ 4294967296) (hs : ∀ s ∈ l, s.size ≤ 4294967296) (hsum : (Stk.txs l).length + nB ≤ 4294967296) :
    Calls Try.prog 24 #[.pointer (some ⟨gt, 0, none⟩), .slice A n c] w fun e w' => ∃ A' c' AB' cB', e = .returned (.slice A' n c') ∧ w'.ownsRow w.heap.size 30 1 (.slice A' n c') n (u64s (Stk.adr nB l)) ∧ TxS w' gt base AB' ((Stk.txs l).length + nB) cB' (Stk.txs l ++ xs) ∧ Only w w' gt gt := by
  obtain ⟨i, hi, hz0, hz1, hz2⟩ := info_parts u64Info
  have Hi := hide hi
  have Hz0 := hide hz0
  have Hz1 := hide hz1
  have Hz2 := hide hz2
  have H := hide h
  have Hl := hide hl
  have Hln := hide hln
  have Hs := hide hs
  have hltg := h.blk.lt
  clear hi hz0 hz1 hz2 h hl hln hs
  go_enter Try.func24, Try.ntmps24
  go_wp2_with (at_make; refine wpList_make_full _ rfl _ _ 50 rfl w.heap.size 30 i (.int .u64 0) 1 Try.underlying50 (unhide Hi) (unhide Hz0) (unhide Hz1) _ _ _ _ n rfl rfl rfl rfl (by rw [unhide Hz2]; omega) (by unfold maxLen; omega) (Nat.le_refl _) ?_; intro w1 hown hgrow; have hb1 := (Below.refl w.heap.size w).grown hgrow (Nat.le_refl _) (fun k hk => by cases hk); have Hown := hide hown; have Hb1 := hide hb1; clear hown hgrow hb1)
  go_loopg [6] n (fun gk iv wr => ∃ (k : Nat) (Ak : Option Addr) (ck : Nat), gk = k ∧ k ≤ n ∧ iv = .int .i64 ((k : Int) - 1) ∧ wr.ownsRow w.heap.size 30 1 (.slice (some ⟨w.heap.size, 0, none⟩) n n) n (backU nB l k) ∧ TxS wr gt base Ak ((Stk.txs (l.drop k)).length + nB) ck (Stk.txs (l.drop k) ++ xs) ∧ Only w wr gt gt)
  case atStart =>
    refine ⟨n, AB, cB, rfl, Nat.le_refl _, rfl, ?_, ?_, Only.of_below _ _ (unhide Hb1)⟩
    · have ho := unhide Hown
      rw [zerosU] at ho
      unfold backU
      rw [List.drop_of_length_le (by rw [unhide Hln]; exact Nat.le_refl _)]
      simpa [Stk.adr, u64s] using ho
    · rw [List.drop_of_length_le (by rw [unhide Hln]; exact Nat.le_refl _)]
      simpa [Stk.txs] using (unhide H).below (unhide Hb1)
  case round =>
  clear Hown Hb1 H
  obtain ⟨k, Ak, ck, hgk, hk, rfl, hown, hT, hO⟩ := hrel
  have Hgk := hide hgk
  have Hown := hide hown
  have HT := hide hT
  have HO := hide hO
  have hsz := hO.size
  clear hgk hown hT hO
  rcases Nat.eq_zero_or_pos k with rfl | hpos
  · have h1 := unhide Hown
    have h2 := unhide HT
    simp only [backU, List.replicate_zero, List.nil_append, List.drop_zero] at h1
    simp only [List.drop_zero] at h2
    have Hown2 := hide h1
    have HT2 := hide h2
    clear h1 h2
    go_wp2_with fail
    go_ret
    exact ⟨some ⟨w.heap.size, 0, none⟩, n, Ak, ck, rfl, unhide Hown2, unhide HT2, unhide HO⟩
  obtain ⟨j, rfl⟩ : ∃ j, k = j + 1 := ⟨k - 1, by omega⟩
  obtain ⟨s, hs⟩ : ∃ s, l[j]? = some s := ⟨_, List.getElem?_eq_getElem (by rw [unhide Hln]; omega)⟩
  obtain ⟨ab, ao, rfl, hab, habg, cs0⟩ := (unhide Hl) j s hs
  have cs := ((unhide HO).cell hab habg habg (ao + j)).trans cs0
  have KT := hide (rtext_any s wr ((unhide Hs) s (List.mem_of_getElem? hs)))
  have e1 : ((j + 1 : Nat) : Int) - 1 = (j : Int) := by omega
  rw [e1]
  have hjn : j < n := by omega
  have hjn' : (j : Int) < (n : Int) := by omega
  have hss := (unhide Hs) s (List.mem_of_getElem? hs)
  have hdl : (Stk.txs (l.drop j)).length = s.size + 1 + (Stk.txs (l.drop (j + 1))).length := by rw [Stk.txs_drop hs, List.length_append, Stk.tx_len]
  have hdl2 : (Stk.txs (l.drop j)).length ≤ (Stk.txs l).length := by
    have h : Stk.txs l = Stk.txs (l.take j) ++ Stk.txs (l.drop j) := by rw [← Stk.txs_app, List.take_append_drop]
    rw [h, List.length_append]
    omega
  have Hs2 := hide hs
  clear cs0 e1 hs
  obtain ⟨m, hm⟩ : ∃ m, (Stk.txs (l.drop (j + 1))).length + nB = m := ⟨_, rfl⟩
  have hT := unhide HT
  rw [hm] at hT
  have hmm : s.size + 1 + m ≤ 4294967296 := by omega
  have Hdl := hide (show (Stk.txs (l.drop j)).length + nB = s.size + 1 + m by omega)
  have HT2 := hide hT
  clear hT hdl hdl2 hm HT
  go_wp2_with fail
  refine (unhide KT).mono ?_
  rintro e w2 ⟨A2, c2, rfl, hm2, hb2⟩
  have hT2 := (unhide HT2).below hb2
  obtain ⟨gB, rfl, hgB1, hgB2, hgB3⟩ := hT2.row.at_
  have y0 := hT2.blk.cell (i := 0) rfl
  have hs2 := hb2.size
  have Hm2 := hide hm2
  have HrB := hide hT2.row.rd
  have HT3 := hide hT2
  have Hb2 := hide hb2
  clear hm2 hb2 hT2 KT cs HT2
  go_wp2_with (at_builtin; refine wpList_appM rfl _ _ rfl wr.heap.size A2 (s.size + 1) c2 (Stk.tx s) rfl (unhide Hm2) w2.heap.size gB 0 m ck _ rfl (unhide HrB) (by omega) hs2 ?_; intro A3 c3 w3 hm3 hg3 ha3; have Hm3 := hide hm3; have Hg3 := hide hg3; have Ha3 := hide ha3; have hb3 := (unhide Hb2).grown hg3 hs2 (fun k hk => by obtain ⟨g2, e2, h2, _⟩ := (unhide Hm2).at_; rw [e2] at hk; simp [Value.ownBlock] at hk; omega); have Hb3 := hide hb3; have y3 := ((unhide HT3).blk.cell (i := 0) rfl); have hbk3 := hg3.block gt (by have := (unhide HT3).blk.lt; omega) (fun e => by obtain ⟨g2, e2, h2, _⟩ := (unhide Hm2).at_; rw [e2] at e; simp [Value.ownBlock] at e; have := (unhide HO).size; omega); have hbk : Blk w3 gt 55 [.slice (some ⟨gB, 0, none⟩) m ck, .slice none 0 0] := hbk3.trans (unhide HT3).blk; have z0 := hbk.cell (i := 0) rfl; have zf := hbk.free 0; have hown3 := own_below (unhide Hown) hb3; have hown4 := own_setNe hown3 (p := ⟨gt, 0, none⟩) (fun g hg => (by have hg' : some w.heap.size = some g := hg; injection hg' with hg'; show g ≠ gt; omega)) (.slice A3 (s.size + 1 + m) c3); have q1 := own_cell hown4 (i := j) backU_at; have q2 := own_free hown4 j; have Hown4 := hide hown4; have Hbk := hide hbk; clear hm3 hg3 ha3 hb3 y3 hbk3 hbk y0 hown3 hown4)
  obtain ⟨res, hre⟩ : ∃ res, Stk.top - ((Stk.txs (l.drop j)).length + nB) = res := ⟨_, rfl⟩
  have hres : (140737488351232 - ((s.size : Int) + 1 + (m : Int))) = ((res : Nat) : Int) := by
    rw [← hre, unhide Hdl]
    unfold Stk.top
    omega
  rw [hres]
  have hset := own_set (i := j) (unhide Hown4) (.int .u64 ((res : Nat) : Int))
  rw [← hre, backU_set (unhide Hs2), hre] at hset
  have hA3 : ∃ g3, A3 = some ⟨g3, 0, none⟩ ∧ wr.heap.size ≤ g3 := by
    obtain ⟨g2, e2, h2, _⟩ := (unhide Hm2).at_
    rcases unhide Ha3 with h | h
    · exact ⟨g2, h.trans e2, h2⟩
    · exact ⟨_, h, hs2⟩
  obtain ⟨g3, rfl, hg3⟩ := hA3
  have hltw := (own_at (unhide Hown)).2.1
  have hrow : OwnM ((w3.setCell ⟨gt, 0, none⟩ (.slice (some ⟨g3, 0, none⟩) (s.size + 1 + m) c3)).setCell ⟨w.heap.size, j, none⟩ (.int .u64 ((res : Nat) : Int))) base (some ⟨g3, 0, none⟩) (s.size + 1 + m) c3 (Stk.txs (l.drop j) ++ xs) := by
    have h0 := unhide Hm3
    rw [← List.append_assoc, ← Stk.txs_drop (unhide Hs2)] at h0
    have h1 := (h0.low (show base ≤ wr.heap.size by omega)).keep (w' := w3.setCell ⟨gt, 0, none⟩ (.slice (some ⟨g3, 0, none⟩) (s.size + 1 + m) c3)) (k := gt) (fun g _ hne => heap_setCell_other _ _ _ _ hne) (fun o e => by injection e with e; injection e with e; omega)
    exact h1.keep (k := w.heap.size) (fun g _ hne => heap_setCell_other _ _ _ _ hne) (fun o e => by injection e with e; injection e with e; omega)
  have hblk5 := ((unhide Hbk).set 0 (.slice (some ⟨g3, 0, none⟩) (s.size + 1 + m) c3)).other (p := ⟨w.heap.size, j, none⟩) (by show w.heap.size ≠ gt; omega) (.int .u64 ((res : Nat) : Int))
  have hO5 := ((unhide HO).trans ((Only.of_below gt gt (unhide Hb3)).trans (Only.set1 w3 gt gt 0 (.slice (some ⟨g3, 0, none⟩) (s.size + 1 + m) c3)))).new (g := w.heap.size) (o := j) (Nat.le_refl _) (.int .u64 ((res : Nat) : Int))
  have hT5 : TxS _ gt base (some ⟨g3, 0, none⟩) (s.size + 1 + m) c3 (Stk.txs (l.drop j) ++ xs) := ⟨hblk5, hrow, fun o e => by injection e with e; injection e with e; omega⟩
  have HT5 := hide hT5
  have Hset := hide hset
  have HO5 := hide hO5
  clear hT5 hset hO5 hblk5 hrow hres
  go_roundg j
  case measure => have := unhide Hgk; omega
  case rel => exact ⟨j, some ⟨g3, 0, none⟩, c3, rfl, by omega, by go_num, unhide Hset, by rw [unhide Hdl]; exact unhide HT5, unhide HO5⟩
theorem rd_list {w : World} {B n gt : Nat} {A : Option Addr} {l : List ByteArray} (h : Rd w B 1 A n (l.map Value.string)) (hB : B ≤ w.heap.size) (hg : B ≤ gt) : ∀ (j : Nat) s, l[j]? = some s → ∃ b o, A = some ⟨b, o, none⟩ ∧ b < w.heap.size ∧ b ≠ gt ∧ w.cell? ⟨b, o + j, none⟩ = some (.string s) := by
  intro j s hs
  obtain ⟨b, o, h1, h2, h3⟩ := h.at_ (k := j) (u := .string s) (by simp [hs])
  exact ⟨b, o, h1, by omega, by omega, h3⟩
/-- The numbers that have been put, in n bytes. -/
structure NumT (w7 wc : World) (A : Option Addr) (n c : Nat) (l : List Nat) : Prop where
  own : wc.ownsRow w7.heap.size 5 1 (.slice A n c) n (bys (Stk.nums l))
  bel : Below w7.heap.size w7 wc
theorem NumT.n {w7 wc : World} {A : Option Addr} {n c : Nat} {l : List Nat} (h : NumT w7 wc A n c l) : n = 8 * l.length := by
  have h1 := h.own.1
  have h2 := Stk.nums_len l
  simp [bys] at h1
  omega
theorem NumT.below {w7 wc w' : World} {A : Option Addr} {n c : Nat} {l : List Nat} (h : NumT w7 wc A n c l) (hb : Below wc.heap.size wc w') : NumT w7 w' A n c l := ⟨own_below h.own hb, h.bel.trans (hb.mono h.bel.size)⟩
theorem NumT.app {w7 wc w2 w3 : World} {A A3 : Option Addr} {n c c3 x : Nat} {l : List Nat} (h : NumT w7 wc A n c l) (hb : Below wc.heap.size wc w2) (ho3 : w3.ownsRow w7.heap.size 5 1 (.slice A3 (n + 8) c3) (n + 8) (bys (Stk.nums l) ++ bys (Cl.lb x 8))) (hg3 : w2.grownBy w3 (Value.slice A n c).ownBlock) : NumT w7 w3 A3 (n + 8) c3 (l ++ [x]) := by
  have h2 := h.below hb
  refine ⟨?_, h2.bel.grown hg3 h2.bel.size (fun k hk => (h2.own.lt k hk).1)⟩
  rw [Stk.nums_app, Stk.nums_one, bys_app]
  exact ho3
end Go.Proofs.Ytmoenjmhogmcoaa
namespace Go.Proofs.Ytmoenjmhogmcoaa
set_option linter.unusedVariables false
set_option linter.unusedSimpArgs false
open Go.RowKit

theorem Rd.sub {w : World} {B n : Nat} {b1 o1 : Nat} {xs : List Value} (h : Rd w B 1 (some ⟨b1, o1, none⟩) n xs) {off k : Nat} (hk : off + k ≤ n) : Rd w B 1 (some ⟨b1, o1 + off, none⟩) k ((xs.drop off).take k) := by
  have hl := h.len1
  refine ⟨by simp; omega, ?_⟩
  rcases h.2 with h0 | ⟨b, o, e, hb, hc⟩
  · exact .inl (by simp [h0])
  · obtain ⟨rfl, rfl⟩ : b1 = b ∧ o1 = o := by injection e with e; injection e with h1 h2 h3; exact ⟨h1, h2⟩
    refine .inr ⟨b1, o1 + off, rfl, hb, fun j u hu => ?_⟩
    by_cases hj : j < k
    · rw [List.getElem?_take_of_lt hj, List.getElem?_drop] at hu
      rw [Nat.add_assoc]
      exact hc _ _ hu
    · rw [List.getElem?_take_eq_none (by omega)] at hu
      cases hu

theorem conv_any {P : Program} {w : World} {B n c : Nat} {A : Option Addr} {l : List UInt8} {src dst e : TypeId} (h : Rd w B 1 A n (bys l)) (hs : P.underlying src = some (.slice e)) (he : P.underlying e = some (.int .u8)) (hd : P.underlying dst = some .string) :
    (convert src dst (.slice A n c)).run P w = .ok (.string ⟨l.toArray⟩) w := by
  have hl : l.length = n := by simpa [bys] using h.len1
  subst hl
  cases A with
  | none =>
    have h0 : l = [] := by
      rcases h.2 with h0 | ⟨b, o, e1, _⟩
      · simpa [bys] using h0
      · cases e1
    subst h0
    exact run_convert_bytes_nil w src e hs he _ c dst hd
  | some ad =>
    refine run_convert_bytes_back w src dst e ad c l hs he hd fun j hj => ?_
    obtain ⟨b, o, e1, _, hc⟩ := h.at_ (k := j) (u := .int .u8 (l[j].toNat : Nat)) (bys_at (List.getElem?_eq_getElem hj))
    injection e1 with e1
    subst e1
    rw [Addr.add_lit]
    exact hc
theorem Rd.from {w : World} {B n : Nat} {b1 o1 k : Nat} {l : List UInt8} (h : Rd w B 1 (some ⟨b1, o1, none⟩) n (bys l)) (hk : k ≤ n) : Rd w B 1 (some ⟨b1, o1 + k, none⟩) (n - k) (bys (l.drop k)) := by
  have hl : l.length = n := by simpa [bys] using h.len1
  have h1 := h.sub (off := k) (k := n - k) (by omega)
  have e : ((bys l).drop k).take (n - k) = bys (l.drop k) := by
    unfold bys
    rw [← List.map_drop, ← List.map_take, List.take_of_length_le (by simp; omega)]
  rwa [e] at h1
end Go.Proofs.Ytmoenjmhogmcoaa
namespace Go.Proofs.Ytmoenjmhogmcoaa
set_option linter.unusedVariables false
set_option linter.unusedSimpArgs false
open Go.RowKit

/-- A reader: what is left, and whether some was lacking. -/
structure Stk.R where
  b : List UInt8
  gone : Bool
def Stk.next (r : Stk.R) : Nat × Stk.R := if r.b.length < 8 then (0, ⟨r.b, true⟩) else (Wd.le (r.b.take 8), ⟨r.b.drop 8, r.gone⟩)
/-- Block g is a reader's; the bytes lie below B. -/
def SRd (w : World) (g B : Nat) (r : Stk.R) : Prop := ∃ A n c, Blk w g 64 [.slice A n c, .bool r.gone] ∧ Rd w B 1 A n (bys r.b) ∧ n ≤ c ∧ n ≤ 4294967296
theorem SRd.below {w w' : World} {g B : Nat} {r : Stk.R} (h : SRd w g B r) (hb : Below w.heap.size w w') (hB : B ≤ w.heap.size) : SRd w' g B r := by
  obtain ⟨A, n, c, h1, h2, h3, h4⟩ := h
  exact ⟨A, n, c, h1.belowSz hb, h2.below (hb.mono hB), h3, h4⟩
theorem SRd.grow {w w' : World} {g B N : Nat} {r : Stk.R} {row : Option Nat} (h : SRd w g B r) (hg : w.grownBy w' row) (hr : ∀ k, row = some k → N ≤ k) (h1 : g < N) (h2 : B ≤ N) (h3 : N ≤ w.heap.size) : SRd w' g B r := by
  obtain ⟨A, n, c, b1, b2, b3, b4⟩ := h
  exact ⟨A, n, c, (hg.block g (by omega) (fun e => by have := hr g e.symm; omega)).trans b1, b2.below ((Below.refl B w).grown hg (by omega) (fun k hk => by have := hr k hk; omega)), b3, b4⟩
theorem SRd.gone {w : World} {g B : Nat} {r : Stk.R} (h : SRd w g B r) : w.cell? ⟨g, 1, none⟩ = some (.bool r.gone) := by
  obtain ⟨A, n, c, h1, _⟩ := h
  exact h1.cell (i := 1) rfl
theorem SRd.lt {w : World} {g B : Nat} {r : Stk.R} (h : SRd w g B r) : g < w.heap.size := by
  obtain ⟨A, n, c, h1, _⟩ := h
  exact h1.lt

set_option maxRecDepth 100000 in
set_option maxHeartbeats 2000000 in
theorem next_any (g B : Nat) (r : Stk.R) (w : World) (hr : SRd w g B r) (hg : B ≤ g) :
    Calls Try.prog 38 #[.pointer (some ⟨g, 0, none⟩)] w fun e w' => e = .returned (.int .u64 ((Stk.next r).1 : Nat)) ∧ SRd w' g B (Stk.next r).2 ∧ Only w w' g g := by
  obtain ⟨A, n, c, hb, hrd, hnc, hn⟩ := hr
  have hbl : r.b.length = n := by simpa [bys] using hrd.len1
  have hgl := hb.lt
  have c0 := hb.cell (i := 0) rfl
  have c1 := hb.cell (i := 1) rfl
  by_cases h8 : n < 8
  · have hx : Stk.next r = (0, ⟨r.b, true⟩) := by unfold Stk.next; rw [if_pos (by omega)]
    rw [hx]
    have K := hide (get_no A n c 0 8 w (by unfold maxLen; omega) (.inr (.inr (.inr rfl))) (by omega) (by omega) (by omega))
    have Hb := hide hb
    have Hrd := hide hrd
    clear hb hrd hx hbl c1
    go_enter Try.func38, Try.ntmps38
    go_wp2_with fail
    refine (unhide K).mono ?_
    rintro e w1 ⟨rfl, hb1⟩
    have hb2 := (unhide Hb).belowSz hb1
    have f1 := hb2.free 1
    have c1 := hb2.cell (i := 1) rfl
    have hs1 := hb1.size
    have Hb2 := hide hb2
    have Hb1 := hide hb1
    clear hb2 hb1 K c0
    go_wp2_with fail
    go_ret
    exact ⟨rfl, ⟨A, n, c, (unhide Hb2).set 1 (.bool true), ((unhide Hrd).below ((unhide Hb1).mono (by omega))).setCell (p := ⟨g, 1, none⟩) hg _, hnc, hn⟩, (Only.of_below g g (unhide Hb1)).trans (Only.set1 w1 g g 1 _)⟩
  · have hx : Stk.next r = (Wd.le (r.b.take 8), ⟨r.b.drop 8, r.gone⟩) := by unfold Stk.next; rw [if_neg (by omega)]
    rw [hx]
    obtain ⟨ab, ao, hA, hab, hcc⟩ := hrd.open_ (by intro e; rw [show r.b = [] by simpa [bys] using e] at hbl; simp at hbl; omega)
    subst hA
    have K := get_yes (some ⟨ab, ao, none⟩) n c B r.b 0 8 w (by omega) hrd (by unfold maxLen; omega) (.inr (.inr (.inr rfl))) (by omega)
    have hnum : Wd.num r.b 0 8 = Wd.le (r.b.take 8) := by simp [Wd.num]
    rw [hnum] at K
    generalize Wd.le (r.b.take 8) = x at *
    replace K := hide K
    have Hb := hide hb
    have Hrd := hide hrd
    have Hbl := hide hbl
    clear hb hrd hx hbl hnum hcc c1
    go_enter Try.func38, Try.ntmps38
    go_wp2_with fail
    refine (unhide K).mono ?_
    rintro e w1 ⟨rfl, hb1⟩
    have hb2 := (unhide Hb).belowSz hb1
    have f0 := hb2.free 0
    have c0' := hb2.cell (i := 0) rfl
    have hs1 := hb1.size
    have Hb2 := hide hb2
    have Hb1 := hide hb1
    have hle : 8 ≤ n := by omega
    clear hb2 hb1 K c0
    go_wp2_with fail
    · go_ret
      have h8n : n = 8 := by omega
      have hd : r.b.drop 8 = [] := List.drop_eq_nil_of_le (by rw [unhide Hbl]; omega)
      refine ⟨rfl, ⟨some ⟨ab, ao, none⟩, n - 8, 0, (unhide Hb2).set 0 _, ?_, by omega, by omega⟩, (Only.of_below g g (unhide Hb1)).trans (Only.set1 w1 g g 0 _)⟩
      rw [hd]
      exact ⟨by simp [bys]; omega, .inl rfl⟩
    · go_ret
      exact ⟨rfl, ⟨some ⟨ab, ao + 8, none⟩, n - 8, c - 8, (unhide Hb2).set 0 _, (((unhide Hrd).from hle).below ((unhide Hb1).mono (by omega))).setCell (p := ⟨g, 0, none⟩) hg _, by omega, by omega⟩, (Only.of_below g g (unhide Hb1)).trans (Only.set1 w1 g g 0 _)⟩
/-- Numbers up to a 0, at most k more. -/
def Stk.upTo : Nat → Stk.R → List Nat → (List Nat × Int) × Stk.R
  | 0, r, l => if (Stk.next r).2.gone then (([], 25), (Stk.next r).2) else if (Stk.next r).1 = 0 then ((l, 0), (Stk.next r).2) else (([], 12), (Stk.next r).2)
  | k + 1, r, l => if (Stk.next r).2.gone then (([], 25), (Stk.next r).2) else if (Stk.next r).1 = 0 then ((l, 0), (Stk.next r).2) else Stk.upTo k (Stk.next r).2 (l ++ [(Stk.next r).1])
theorem Stk.next_lt (r : Stk.R) : (Stk.next r).1 < 18446744073709551616 := by
  unfold Stk.next
  split
  · simp
  · rename_i h
    have h1 := Wd.le_lt (r.b.take 8)
    rw [List.length_take, Nat.min_eq_left (by omega)] at h1
    exact h1

set_option maxRecDepth 100000 in
set_option maxHeartbeats 4000000 in
theorem upTo_any (g B many : Nat) (r : Stk.R) (w : World) (hr : SRd w g B r) (hg : B ≤ g) (hB : B ≤ w.heap.size) (hm : many ≤ 1000) :
    Calls Try.prog 39 #[.pointer (some ⟨g, 0, none⟩), .int .i64 many] w fun e w' => ∃ A' c', e = .returned (.tuple #[.slice A' (Stk.upTo many r []).1.1.length c', .int .i64 (Stk.upTo many r []).1.2]) ∧ w'.ownsRow w.heap.size 30 1 (.slice A' (Stk.upTo many r []).1.1.length c') (Stk.upTo many r []).1.1.length (u64s (Stk.upTo many r []).1.1) ∧ SRd w' g B (Stk.upTo many r []).2 ∧ Only w w' g g := by
  obtain ⟨res, hres⟩ : ∃ res, Stk.upTo many r [] = res := ⟨_, rfl⟩
  rw [hres]
  have Hres := hide hres
  have Hr := hide hr
  have hgl := hr.lt
  clear hres hr
  go_enter Try.func39, Try.ntmps39
  go_wp2_with fail
  go_loopg [4] (many + 1) (fun gk lv wr => ∃ (k : Nat) (r' : Stk.R) (l : List Nat) (A' : Option Addr) (c' : Nat), gk = k + 1 ∧ l.length + k = many ∧ lv = .slice A' l.length c' ∧ wr.ownsRow w.heap.size 30 1 (.slice A' l.length c') l.length (u64s l) ∧ SRd wr g B r' ∧ Only w wr g g ∧ Stk.upTo k r' l = res)
  case atStart => exact ⟨many, r, [], none, 0, rfl, by simp, rfl, World.ownsRow_nil _ _ _ _, unhide Hr, Only.refl _ _ _, unhide Hres⟩
  case round =>
  clear Hres Hr
  obtain ⟨k, r', l, A', c', hgk, hlk, rfl, hown, hrd, hO, hup⟩ := hrel
  have Hgk := hide hgk
  have Hlk := hide hlk
  have Hown := hide hown
  have HO := hide hO
  have Hup := hide hup
  have K := hide (next_any g B r' wr hrd hg)
  have hsz := hO.size
  have hgone : (Stk.next r').2.gone = true ∨ (Stk.next r').2.gone = false := by cases (Stk.next r').2.gone <;> simp
  have hx8 := Stk.next_lt r'
  have hll : l.length ≤ many := by omega
  clear hgk hlk hown hrd hO hup
  go_wp2_with fail
  refine (unhide K).mono ?_
  rintro e w1 ⟨rfl, hrd1, hO1⟩
  have y1 := hrd1.gone
  have hO1' := (unhide HO).trans hO1
  have hown1 := hO1.own (unhide Hown) (fun e => by have := ((unhide Hown).lt _ e).1; omega) (fun e => by have := ((unhide Hown).lt _ e).1; omega)
  have Hrd1 := hide hrd1
  have HO1 := hide hO1'
  have Hown1 := hide hown1
  have hup1 := unhide Hup
  clear hrd1 hO1 hO1' hown1 K
  obtain ⟨x, hx⟩ : ∃ x, (Stk.next r').1 = x := ⟨_, rfl⟩
  obtain ⟨r2, hr2⟩ : ∃ r2, (Stk.next r').2 = r2 := ⟨_, rfl⟩
  have hun : ∀ k l, Stk.upTo k r' l = if r2.gone then (([], 25), r2) else if x = 0 then ((l, 0), r2) else (match k with | 0 => (([], 12), r2) | k + 1 => Stk.upTo k r2 (l ++ [x])) := by
    intro k l
    cases k <;> simp only [Stk.upTo, hx, hr2]
  rw [hun] at hup1
  rw [hx] at hx8 ⊢
  rw [hr2] at y1 hgone Hrd1
  have Hup1 := hide hup1
  clear hx hr2 hun hup1 Hup
  rcases hgone with hgo | hgo
  · have hu := unhide Hup1
    rw [if_pos hgo] at hu
    subst hu
    rw [hgo] at y1
    clear hgo Hup1
    go_wp2_with fail
    go_ret2
    exact ⟨none, 0, rfl, World.ownsRow_nil _ _ _ _, unhide Hrd1, unhide HO1⟩
  have hu := unhide Hup1
  rw [if_neg (by rw [hgo]; simp)] at hu
  rw [hgo] at y1
  have Hu := hide hu
  clear hgo Hup1 hu
  by_cases hx0 : x = 0
  · have hu := unhide Hu
    rw [if_pos hx0] at hu
    subst hu
    have t1 : (((x : Nat) : Int) == 0) = true := by simp; omega
    clear hx0 Hu
    go_wp2_with fail
    go_ret2
    exact ⟨A', c', rfl, unhide Hown1, unhide Hrd1, unhide HO1⟩
  have hu := unhide Hu
  rw [if_neg hx0] at hu
  have t1 : (((x : Nat) : Int) == 0) = false := by simp; omega
  clear hx0 Hu
  cases k with
  | zero =>
    simp only at hu
    subst hu
    have t2 : (((l.length : Nat) : Int) == ((many : Nat) : Int)) = true := by have := unhide Hlk; simp; omega
    go_wp2_with fail
    go_ret2
    exact ⟨none, 0, rfl, World.ownsRow_nil _ _ _ _, unhide Hrd1, unhide HO1⟩
  | succ k =>
    simp only at hu
    have Hu := hide hu
    have t2 : (((l.length : Nat) : Int) == ((many : Nat) : Int)) = false := by have := unhide Hlk; simp; omega
    clear hu
    have hs1 := (unhide HO1).size
    go_wp2_with (at_builtin; (with_reducible refine (@id (wpList _ _ _ _ _ (World.alloc w1 _)) ?_)); refine wpList_app1g u64Ty rfl _ _ rfl w.heap.size (.slice A' l.length c') l.length (u64s l) rfl (unhide Hown1) _ w1.heap.size rfl rfl rfl (by simp [Value.oneCell']) (by omega) hs1 ?_; intro A3 c3 w3 ho3 hg3 hat3; have hO3 := (unhide HO1).grow hg3 (fun k hk => ((unhide Hown1).lt k hk).1); have hr3 := (unhide Hrd1).grow hg3 (fun k hk => ((unhide Hown1).lt k hk).1) hgl hB hs1; have HO3 := hide hO3; have Hr3 := hide hr3; have Ho3 := hide ho3; clear ho3 hg3 hat3 hO3 hr3)
    have ho3 := unhide Ho3
    have e1 : u64s l ++ [Value.int .u64 (x : Nat)] = u64s (l ++ [x]) := by rw [u64s_app]; rfl
    rw [e1] at ho3
    have Ho4 := hide ho3
    clear ho3 e1 Ho3
    go_roundg (k + 1)
    case measure => have := unhide Hgk; omega
    case rel => exact ⟨k, r2, l ++ [x], A3, c3, rfl, by have := unhide Hlk; simp; omega, by simp, by rw [List.length_append]; exact unhide Ho4, unhide Hr3, unhide HO3, unhide Hu⟩
end Go.Proofs.Ytmoenjmhogmcoaa
namespace Go.Proofs.Ytmoenjmhogmcoaa
set_option linter.unusedVariables false
set_option linter.unusedSimpArgs false
open Go.RowKit

theorem results_tmp4 {fn : Func} {t u v x : Tmp} (h : fn.results = #[.tmp t, .tmp u, .tmp v, .tmp x]) (tmps : Array Value) (P : Program) (w : World) :
    (results fn tmps).run P w = .ok (.tuple #[tmps.getD t undef, tmps.getD u undef, tmps.getD v undef, tmps.getD x undef]) w := by
  simp [results, h]
/-- So many numbers. -/
def Stk.takeN : Nat → Stk.R → List Nat → List Nat × Stk.R
  | 0, r, l => (l, r)
  | k + 1, r, l => Stk.takeN k (Stk.next r).2 (l ++ [(Stk.next r).1])
theorem Stk.takeN_len (k : Nat) (r : Stk.R) (l : List Nat) : (Stk.takeN k r l).1.length = l.length + k := by
  induction k generalizing r l with
  | zero => rfl
  | succ k ih => simp only [Stk.takeN]; rw [ih]; simp; omega
/-- Pairs up to a key 0, at most k more. -/
def Stk.pairs : Nat → Stk.R → List (Nat × Nat) → List (Nat × Nat) × Int
  | 0, r, l => if (Stk.next (Stk.next r).2).2.gone then ([], 25) else if (Stk.next r).1 = 0 then (l, 0) else ([], 12)
  | k + 1, r, l => if (Stk.next (Stk.next r).2).2.gone then ([], 25) else if (Stk.next r).1 = 0 then (l, 0) else Stk.pairs k (Stk.next (Stk.next r).2).2 (l ++ [((Stk.next r).1, (Stk.next (Stk.next r).2).1)])
/-- The addresses of both, and the pairs. -/
def Stk.vecR (r : Stk.R) : List Nat × List Nat × List (Nat × Nat) × Int :=
  if (Stk.next r).2.gone = false ∧ 32 < (Stk.next r).1 then ([], [], [], 12)
  else if (Stk.next (Stk.takeN (Stk.next r).1 (Stk.next r).2 []).2).1 ≠ 0 ∨ (Stk.next (Stk.takeN (Stk.next r).1 (Stk.next r).2 []).2).2.gone = true then ([], [], [], 25)
  else if (Stk.upTo 32 (Stk.next (Stk.takeN (Stk.next r).1 (Stk.next r).2 []).2).2 []).1.2 ≠ 0 then ([], [], [], (Stk.upTo 32 (Stk.next (Stk.takeN (Stk.next r).1 (Stk.next r).2 []).2).2 []).1.2)
  else if (Stk.pairs 17 (Stk.upTo 32 (Stk.next (Stk.takeN (Stk.next r).1 (Stk.next r).2 []).2).2 []).2 []).2 ≠ 0 then ([], [], [], (Stk.pairs 17 (Stk.upTo 32 (Stk.next (Stk.takeN (Stk.next r).1 (Stk.next r).2 []).2).2 []).2 []).2)
  else ((Stk.takeN (Stk.next r).1 (Stk.next r).2 []).1, (Stk.upTo 32 (Stk.next (Stk.takeN (Stk.next r).1 (Stk.next r).2 []).2).2 []).1.1, (Stk.pairs 17 (Stk.upTo 32 (Stk.next (Stk.takeN (Stk.next r).1 (Stk.next r).2 []).2).2 []).2 []).1, 0)
theorem auxTy : SlTy Try.prog 23 43 2 16 := slTy_mk (z := .agg #[.int .u64 0, .int .u64 0]) Try.underlying23 (by kernel_rfl) rfl (by omega) (by omega)
def VecEnd (v : List Nat × List Nat × List (Nat × Nat) × Int) (g B : Nat) (w : World) (e : Ending) (w' : World) : Prop :=
  ∃ A1 c1 A2 c2 A3 c3, e = .returned (.tuple #[.slice A1 v.1.length c1, .slice A2 v.2.1.length c2, .slice A3 v.2.2.1.length c3, .int .i64 v.2.2.2]) ∧
    w'.ownsRow w.heap.size 30 1 (.slice A1 v.1.length c1) v.1.length (u64s v.1) ∧ w'.ownsRow w.heap.size 30 1 (.slice A2 v.2.1.length c2) v.2.1.length (u64s v.2.1) ∧ w'.ownsRow w.heap.size 43 2 (.slice A3 v.2.2.1.length c3) v.2.2.1.length (auxC v.2.2.1) ∧ Only w w' g g
theorem vecEnd_err {g B : Nat} {w w' : World} {x : Int} (hO : Only w w' g g) : VecEnd ([], [], [], x) g B w (.returned (.tuple #[.slice none 0 0, .slice none 0 0, .slice none 0 0, .int .i64 x])) w' :=
  ⟨none, 0, none, 0, none, 0, rfl, World.ownsRow_nil _ _ _ _, World.ownsRow_nil _ _ _ _, World.ownsRow_nil _ _ _ _, hO⟩

set_option maxRecDepth 100000 in
set_option maxHeartbeats 8000000 in
theorem vector_any (g B : Nat) (r : Stk.R) (w : World) (hr : SRd w g B r) (hg : B ≤ g) (hB : B ≤ w.heap.size) (h0 : r.gone = false) :
    Calls Try.prog 30 #[.pointer (some ⟨g, 0, none⟩)] w (VecEnd (Stk.vecR r) g B w) := by
  obtain ⟨res, hres⟩ : ∃ res, Stk.vecR r = res := ⟨_, rfl⟩
  rw [hres]
  unfold Stk.vecR at hres
  have hgl := hr.lt
  have K1 := hide (next_any g B r w hr hg)
  have hmany : (Stk.next r).2.gone = true → (Stk.next r).1 = 0 := by
    unfold Stk.next
    split
    · intro _; rfl
    · intro h; simp only at h; rw [h0] at h; cases h
  obtain ⟨many, hmn⟩ : ∃ many, (Stk.next r).1 = many := ⟨_, rfl⟩
  obtain ⟨r1, hr1⟩ : ∃ r1, (Stk.next r).2 = r1 := ⟨_, rfl⟩
  rw [hmn, hr1] at hres hmany
  have hm8 := Stk.next_lt r
  rw [hmn] at hm8
  have K1' := unhide K1
  rw [hmn, hr1] at K1'
  replace K1 := hide K1'
  have Hres := hide hres
  have Hmany := hide hmany
  clear K1' hres hmany hmn hr1 hr h0
  go_enter Try.func30, Try.ntmps30
  go_wp2_with fail
  refine (unhide K1).mono ?_
  rintro e w1 ⟨rfl, hrd1, hO1⟩
  have y1 := hrd1.gone
  have Hrd1 := hide hrd1
  have HO1 := hide hO1
  have hs1 := hO1.size
  clear hrd1 hO1 K1
  have hcase : (r1.gone = false ∧ 32 < many) ∨ many ≤ 32 := by
    cases hgo : r1.gone
    · rcases Nat.lt_or_ge 32 many with h | h
      · exact .inl ⟨rfl, h⟩
      · exact .inr h
    · have := (unhide Hmany) hgo
      exact .inr (by omega)
  rcases hcase with ⟨hgo, hbig⟩ | hsm
  · have hu := unhide Hres
    rw [if_pos ⟨hgo, hbig⟩] at hu
    subst hu
    rw [hgo] at y1
    have t1 : (32 : Int) < (many : Int) := by omega
    clear hgo Hres Hmany
    go_wp2_with fail
    (try simp only [Exit.inBlock, Exit.then])
    refine bodyPost_ret (results_tmp4 rfl _ _ _) rfl ?_
    exact vecEnd_err (unhide HO1)
  have hu := unhide Hres
  rw [if_neg (by omega)] at hu
  have Hu := hide hu
  have t1 : ¬ (32 : Int) < (many : Int) := by omega
  clear hu Hres Hmany
  obtain ⟨ta, hta⟩ : ∃ ta, Stk.takeN many r1 [] = ta := ⟨_, rfl⟩
  have hu := unhide Hu
  rw [hta] at hu
  replace Hu := hide hu
  have htl : ta.1.length = many := by rw [← hta, Stk.takeN_len]; simp
  have Htl := hide htl
  have Hta := hide hta
  obtain ⟨x2, hx2⟩ : ∃ x2, (Stk.next ta.2).1 = x2 := ⟨_, rfl⟩
  obtain ⟨r2, hr2⟩ : ∃ r2, (Stk.next ta.2).2 = r2 := ⟨_, rfl⟩
  have hx28 := Stk.next_lt ta.2
  have hu := unhide Hu
  rw [hx2, hr2] at hu
  rw [hx2] at hx28
  replace Hu := hide hu
  have Hx2 := hide hx2
  have Hr2 := hide hr2
  clear hu hta htl hx2 hr2
  obtain ⟨gn, hgn⟩ : ∃ gn, r1.gone = gn := ⟨_, rfl⟩
  rw [hgn] at y1
  clear hgn
  cases gn
  all_goals
    go_wp2_with fail
    go_loopg [2, 20] many (fun gk lv iv wr => ∃ (k : Nat) (r' : Stk.R) (l : List Nat) (A' : Option Addr) (c' : Nat), gk = many - k ∧ k ≤ many ∧ iv = .int .u64 k ∧ l.length = k ∧ lv = .slice A' l.length c' ∧ wr.ownsRow w.heap.size 30 1 (.slice A' l.length c') l.length (u64s l) ∧ SRd wr g B r' ∧ Only w wr g g ∧ Stk.takeN (many - k) r' l = ta)
    case atStart => exact ⟨0, r1, [], none, 0, by omega, by omega, rfl, rfl, rfl, World.ownsRow_nil _ _ _ _, unhide Hrd1, unhide HO1, unhide Hta⟩
    case round =>
      clear Hrd1 HO1 y1
      obtain ⟨k, r', la, Aa, ca, hgk, hk, rfl, hlk, rfl, hown, hrd, hO, htk⟩ := hrel
      have Hgk := hide hgk
      have Hlk := hide hlk
      have hll : la.length ≤ 32 := by omega
      have Hown := hide hown
      have Hrd := hide hrd
      have HO := hide hO
      have Htk := hide htk
      have hsz := hO.size
      clear hgk hlk hown hrd hO htk
      rcases Nat.lt_or_ge k many with hlt | hge
      case inl =>
        have K := hide (next_any g B r' wr (unhide Hrd) hg)
        have hx8 := Stk.next_lt r'
        have htk := unhide Htk
        rw [show many - k = (many - (k + 1)) + 1 from by omega] at htk
        simp only [Stk.takeN] at htk
        generalize (Stk.next r').1 = x at *
        generalize (Stk.next r').2 = r3 at *
        have Htk2 := hide htk
        clear htk Htk
        go_wp2_with fail
        refine (unhide K).mono ?_
        rintro e w2 ⟨rfl, hrd2, hO2⟩
        have hO2' := (unhide HO).trans hO2
        have hown2 := hO2.own (unhide Hown) (fun e => by have := ((unhide Hown).lt _ e).1; omega) (fun e => by have := ((unhide Hown).lt _ e).1; omega)
        have Hrd2 := hide hrd2
        have HO2 := hide hO2'
        have Hown2 := hide hown2
        have hs2 := hO2'.size
        clear hrd2 hO2 hO2' hown2 K
        go_wp2_with (at_builtin; (with_reducible refine (@id (wpList _ _ _ _ _ (World.alloc w2 _)) ?_)); refine wpList_app1g u64Ty rfl _ _ rfl w.heap.size (.slice Aa la.length ca) la.length (u64s la) rfl (unhide Hown2) _ w2.heap.size rfl rfl rfl (by simp [Value.oneCell']) (by omega) hs2 ?_; intro A3 c3 w3 ho3 hg3 hat3; have hO3 := (unhide HO2).grow hg3 (fun k hk => ((unhide Hown2).lt k hk).1); have hr3 := (unhide Hrd2).grow hg3 (fun k hk => ((unhide Hown2).lt k hk).1) hgl hB hs2; have HO3 := hide hO3; have Hr3 := hide hr3; have Ho3 := hide ho3; clear ho3 hg3 hat3 hO3 hr3)
        have ho3 := unhide Ho3
        have e1 : u64s la ++ [Value.int .u64 (x : Nat)] = u64s (la ++ [x]) := by rw [u64s_app]; rfl
        rw [e1] at ho3
        have Ho4 := hide ho3
        clear ho3 e1 Ho3
        go_roundg (many - (k + 1))
        case measure => have := unhide Hgk; omega
        case rel => exact ⟨k + 1, r3, la ++ [x], A3, c3, rfl, by omega, by go_num, by have := unhide Hlk; simp; omega, by simp, by rw [List.length_append]; exact unhide Ho4, unhide Hr3, unhide HO3, unhide Htk2⟩
      have d1 : decide (k < many) = false := by simp; omega
      have htk := unhide Htk
      rw [show many - k = 0 from by omega] at htk
      simp only [Stk.takeN] at htk
      have K2 := next_any g B r' wr (unhide Hrd) hg
      have e3 : r' = ta.2 := by rw [← htk]
      have e4 : la = ta.1 := by rw [← htk]
      rw [e3, unhide Hx2, unhide Hr2] at K2
      replace K2 := hide K2
      have He4 := hide e4
      clear htk e3 e4 Htk hge hk Hgk Hlk Hrd
      go_wp2_with fail
      refine (unhide K2).mono ?_
      rintro e w4 ⟨rfl, hrd4, hO4⟩
      have hO4' := (unhide HO).trans hO4
      have hown4 := hO4.own (unhide Hown) (fun e => by have := ((unhide Hown).lt _ e).1; omega) (fun e => by have := ((unhide Hown).lt _ e).1; omega)
      have y4 := hrd4.gone
      have hs4 := hO4'.size
      have K3 := upTo_any g B 32 r2 w4 hrd4 hg (by omega) (by omega)
      have HO4 := hide hO4'
      have Hown4 := hide hown4
      clear hrd4 hO4 hO4' hown4 K2 HO Hown
      by_cases hx20 : x2 = 0
      case neg =>
        have hu := unhide Hu
        rw [if_pos (.inl hx20)] at hu
        subst hu
        have t2 : (((x2 : Nat) : Int) != 0) = true := by simp; omega
        clear hx20 Hu K3
        go_wp2_with fail
        (try simp only [Exit.inBlock, Exit.then])
        refine bodyPost_ret (results_tmp4 rfl _ _ _) rfl ?_
        exact vecEnd_err (unhide HO4)
      have t2 : (((x2 : Nat) : Int) != 0) = false := by simp; omega
      obtain ⟨g2, hg2⟩ : ∃ g2, r2.gone = g2 := ⟨_, rfl⟩
      rw [hg2] at y4
      cases g2
      case true =>
        have hu := unhide Hu
        rw [if_pos (.inr hg2)] at hu
        subst hu
        clear hx20 Hu K3 hg2
        go_wp2_with fail
        (try simp only [Exit.inBlock, Exit.then])
        refine bodyPost_ret (results_tmp4 rfl _ _ _) rfl ?_
        exact vecEnd_err (unhide HO4)
      have hu := unhide Hu
      rw [if_neg (by rw [hx20, hg2]; simp)] at hu
      obtain ⟨ut, hut⟩ : ∃ ut, Stk.upTo 32 r2 [] = ut := ⟨_, rfl⟩
      rw [hut] at hu K3
      obtain ⟨⟨en, ee⟩, r4⟩ := ut
      simp only at hu K3
      replace Hu := hide hu
      replace K3 := hide K3
      clear hu hut hg2 hx20
      go_wp2_with fail
      refine (unhide K3).mono ?_
      rintro e w5 ⟨A5, c5, rfl, ho5, hrd5, hO5⟩
      have hO5' := (unhide HO4).trans hO5
      have hown5 := hO5.own (unhide Hown4) (fun e => by have := ((unhide Hown4).lt _ e).1; omega) (fun e => by have := ((unhide Hown4).lt _ e).1; omega)
      have hs5 := hO5'.size
      have HO5 := hide hO5'
      have Hown5 := hide hown5
      have Ho5 := hide (own_base ho5 hs4)
      have Hrd5 := hide hrd5
      clear hO5 hO5' hown5 ho5 hrd5 K3 HO4 Hown4
      by_cases hee : ee = 0
      case neg =>
        have hu := unhide Hu
        rw [if_pos hee] at hu
        subst hu
        have t3 : (ee != 0) = true := by simpa using hee
        clear hee Hu
        go_wp2_with fail
        (try simp only [Exit.inBlock, Exit.then])
        refine bodyPost_ret (results_tmp4 rfl _ _ _) rfl ?_
        exact vecEnd_err (unhide HO5)
      have hu := unhide Hu
      rw [if_neg (by simpa using hee)] at hu
      replace Hu := hide hu
      subst hee
      obtain ⟨pt, hpt⟩ : ∃ pt, Stk.pairs 17 r4 [] = pt := ⟨_, rfl⟩
      rw [hpt] at hu
      replace Hu := hide hu
      have Hpt := hide hpt
      clear hu hpt
      go_wp2_with fail
      go_loopg [2, 3, 4] 18 (fun gk av ev lv wr => ∃ (k : Nat) (r' : Stk.R) (l : List (Nat × Nat)) (A' : Option Addr) (c' : Nat), gk = k + 1 ∧ l.length + k = 17 ∧ av = .slice Aa la.length ca ∧ ev = .slice A5 en.length c5 ∧ lv = .slice A' l.length c' ∧ wr.ownsRow w.heap.size 43 2 (.slice A' l.length c') l.length (auxC l) ∧ wr.ownsRow w.heap.size 30 1 (.slice Aa la.length ca) la.length (u64s la) ∧ wr.ownsRow w.heap.size 30 1 (.slice A5 en.length c5) en.length (u64s en) ∧ SRd wr g B r' ∧ Only w wr g g ∧ ((∀ gg, (Value.slice Aa la.length ca).ownBlock = some gg → (Value.slice A' l.length c').ownBlock ≠ some gg) ∧ ∀ gg, (Value.slice A5 en.length c5).ownBlock = some gg → (Value.slice A' l.length c').ownBlock ≠ some gg) ∧ Stk.pairs k r' l = pt)
      case atStart => exact ⟨17, r4, [], none, 0, rfl, by simp, rfl, rfl, rfl, World.ownsRow_nil _ _ _ _, unhide Hown5, unhide Ho5, unhide Hrd5, unhide HO5, ⟨(fun gg _ e => by cases e), (fun gg _ e => by cases e)⟩, unhide Hpt⟩
      case round =>
        clear Hown5 Ho5 Hrd5 HO5 Hpt
        obtain ⟨k2, r', l, A', c', hgk, hlk, rfl, rfl, rfl, hown, howa, howe, hrd, hO, hap, hpt⟩ := hrel
        have Hap := hide hap
        have Hgk := hide hgk
        have Hlk := hide hlk
        have hll : l.length ≤ 17 := by omega
        have Hown := hide hown
        have Howa := hide howa
        have Howe := hide howe
        have HO := hide hO
        have hsz := hO.size
        have K := hide (next_any g B r' wr hrd hg)
        have hx8 := Stk.next_lt r'
        have hy8 := Stk.next_lt (Stk.next r').2
        obtain ⟨x, hx⟩ : ∃ x, (Stk.next r').1 = x := ⟨_, rfl⟩
        obtain ⟨ra, hra⟩ : ∃ ra, (Stk.next r').2 = ra := ⟨_, rfl⟩
        obtain ⟨y, hy⟩ : ∃ y, (Stk.next ra).1 = y := ⟨_, rfl⟩
        obtain ⟨rb, hrb⟩ : ∃ rb, (Stk.next ra).2 = rb := ⟨_, rfl⟩
        have hun : ∀ k l, Stk.pairs k r' l = if rb.gone then ([], 25) else if x = 0 then (l, 0) else (match k with | 0 => ([], 12) | k + 1 => Stk.pairs k rb (l ++ [(x, y)])) := by
          intro k l
          cases k <;> simp only [Stk.pairs, hx, hra, hy, hrb]
        rw [hun] at hpt
        have K' := unhide K
        rw [hx, hra] at K'
        replace K := hide K'
        rw [hx] at hx8
        rw [hra, hy] at hy8
        have Hpt := hide hpt
        have Hy := hide hy
        have Hrb := hide hrb
        clear K' hgk hlk hown howa howe hrd hO hap hx hra hy hrb hun hpt
        go_wp2_with fail
        refine (unhide K).mono ?_
        rintro e w6 ⟨rfl, hrd6, hO6⟩
        have K6 := next_any g B ra w6 hrd6 hg
        rw [unhide Hy, unhide Hrb] at K6
        replace K6 := hide K6
        have HO6 := hide hO6
        clear hrd6 hO6 K
        go_wp2_with fail
        refine (unhide K6).mono ?_
        rintro e w7 ⟨rfl, hrd7, hO7⟩
        have hO7' := (unhide HO6).trans hO7
        have hbx : Below w7.heap.size w7 (w7.alloc (.cells #[.int .u64 (x : Nat), .int .u64 (y : Nat)] 43)) := (Below.refl _ _).alloc (Nat.le_refl _) _
        have hO8 := ((unhide HO).trans hO7').trans (Only.of_below g g hbx)
        have hs7 := ((unhide HO).trans hO7').size
        have hne : ∀ {e : TypeId} {size n : Nat} {v : Value} {xs : List Value}, wr.ownsRow w.heap.size e size v n xs → (w7.alloc (.cells #[.int .u64 (x : Nat), .int .u64 (y : Nat)] 43)).ownsRow w.heap.size e size v n xs := fun h => own_below (hO7'.own h (fun e => by have := (h.lt _ e).1; omega) (fun e => by have := (h.lt _ e).1; omega)) hbx
        have Hown8 := hide (hne (unhide Hown))
        have Howa8 := hide (hne (unhide Howa))
        have Howe8 := hide (hne (unhide Howe))
        have y7 := hrd7.gone
        have hgl7 := hrd7.lt
        have Hrd8 := hide (hrd7.below hbx (by omega))
        have HO8 := hide hO8
        have hpt := unhide Hpt
        obtain ⟨gb, hgb⟩ : ∃ gb, rb.gone = gb := ⟨_, rfl⟩
        rw [hgb] at y7
        clear hrd7 hO7 hO7' hbx hO8 hne K6 HO6 HO Hown Howa Howe Hpt
        cases gb
        case true =>
          rw [if_pos hgb] at hpt
          subst hpt
          have hu := unhide Hu
          rw [if_pos (by decide)] at hu
          subst hu
          clear Hu hgb
          go_wp2_with fail
          (try simp only [Exit.inBlock, Exit.then])
          refine bodyPost_ret (results_tmp4 rfl _ _ _) rfl ?_
          exact vecEnd_err (unhide HO8)
        rw [if_neg (by rw [hgb]; simp)] at hpt
        by_cases hx0 : x = 0
        · rw [if_pos hx0] at hpt
          subst hpt
          have hu := unhide Hu
          rw [if_neg (by simp)] at hu
          subst hu
          have t5 : (((x : Nat) : Int) == 0) = true := by simp; omega
          clear Hu hgb hx0
          go_wp2_with fail
          (try simp only [Exit.inBlock, Exit.then])
          refine bodyPost_ret (results_tmp4 rfl _ _ _) rfl ?_
          have ha := unhide Howa8
          have e4 := unhide He4
          rw [e4] at ha
          exact ⟨Aa, ca, A5, c5, A', c', by rw [← e4]; rfl, ha, unhide Howe8, unhide Hown8, unhide HO8⟩
        rw [if_neg hx0] at hpt
        have t5 : (((x : Nat) : Int) == 0) = false := by simp; omega
        cases k2 with
        | zero =>
          simp only at hpt
          subst hpt
          have hu := unhide Hu
          rw [if_pos (by decide)] at hu
          subst hu
          have t6 : (16 : Int) < ((l.length : Nat) : Int) := by have := unhide Hlk; omega
          clear Hu hgb hx0
          go_wp2_with fail
          (try simp only [Exit.inBlock, Exit.then])
          refine bodyPost_ret (results_tmp4 rfl _ _ _) rfl ?_
          exact vecEnd_err (unhide HO8)
        | succ k2 =>
          simp only at hpt
          have Hpt := hide hpt
          have t6 : ¬ (16 : Int) < ((l.length : Nat) : Int) := by have := unhide Hlk; omega
          clear hpt hgb hx0
          have hs8 : w.heap.size ≤ (w7.alloc (.cells #[.int .u64 (x : Nat), .int .u64 (y : Nat)] 43)).heap.size := by simp; omega
          go_wp2_with (at_builtin; (with_reducible refine (@id (wpList _ _ _ _ _ (World.alloc (World.alloc w7 _) _)) ?_)); refine wpList_app1g auxTy rfl _ _ rfl w.heap.size (.slice A' l.length c') l.length (auxC l) rfl (unhide Hown8) _ (w7.heap.size + 1) rfl (by simp) rfl (by simp [Value.oneCell']) (by omega) hs8 ?_; intro A9 c9 w9 ho9 hg9 hat9; have hO9 := (unhide HO8).grow hg9 (fun k hk => ((unhide Hown8).lt k hk).1); have hr9 := (unhide Hrd8).grow hg9 (fun k hk => ((unhide Hown8).lt k hk).1) hgl hB hs8; have Hg9 := hide hg9; have Hat9 := hide hat9; have HO9 := hide hO9; have Hr9 := hide hr9; have Ho9 := hide ho9; clear ho9 hg9 hat9 hO9 hr9)
          have ho9 := unhide Ho9
          have e1 : auxC l ++ [Value.int .u64 (x : Nat), Value.int .u64 (y : Nat)] = auxC (l ++ [(x, y)]) := by rw [auxC_app]; rfl
          rw [e1] at ho9
          have Ho10 := hide ho9
          have Howa9 := hide (own_grown (unhide Howa8) (unhide Hg9) (fun gg h1 h2 => (unhide Hap).1 gg h1 h2))
          have Howe9 := hide (own_grown (unhide Howe8) (unhide Hg9) (fun gg h1 h2 => (unhide Hap).2 gg h1 h2))
          clear ho9 e1 Ho9
          go_roundg (k2 + 1)
          case measure => have := unhide Hgk; omega
          case rel => exact ⟨k2, rb, l ++ [(x, y)], A9, c9, rfl, by have := unhide Hlk; simp; omega, rfl, rfl, by simp, by rw [List.length_append]; exact unhide Ho10, unhide Howa9, unhide Howe9, unhide Hr9, unhide HO9, ⟨fun gg h1 h2 => by
            rcases (unhide Hat9) gg (by rw [List.length_append] at h2; exact h2) with h | h
            · exact (unhide Hap).1 gg h1 h
            · have := ((unhide Howa8).lt gg h1).2; omega, fun gg h1 h2 => by
            rcases (unhide Hat9) gg (by rw [List.length_append] at h2; exact h2) with h | h
            · exact (unhide Hap).2 gg h1 h
            · have := ((unhide Howe8).lt gg h1).2; omega⟩, unhide Hpt⟩
end Go.Proofs.Ytmoenjmhogmcoaa
namespace Go.Proofs.Ytmoenjmhogmcoaa
set_option linter.unusedVariables false
set_option linter.unusedSimpArgs false
open Go.RowKit

theorem bytesOf_ints (b : List UInt8) : Lib.bytesOf (b.map fun c => ((c.toNat : Nat) : Int)) = b := by
  unfold Lib.bytesOf
  rw [List.map_map]
  have : ((fun n : Int => UInt8.ofNat n.toNat) ∘ fun c : UInt8 => ((c.toNat : Nat) : Int)) = id := by
    funext c
    simp
  rw [this, List.map_id]
/-- bytes.Cut at the byte 0. -/
theorem cut0_any (b1 o1 n c d p2 B : Nat) (l : List UInt8) (w : World) (hr : Rd w B 1 (some ⟨b1, o1, none⟩) n (bys l)) (hz : w.cell? ⟨p2, 0, none⟩ = some (.int .u8 0)) (hnc : n ≤ c) (hn : n ≤ 4294967296) (hpos : 0 < n) :
    Calls Try.prog 40 #[.slice (some ⟨b1, o1, none⟩) n c, .slice (some ⟨p2, 0, none⟩) 1 d] w fun e w' => e = .returned (Lib.cutV (some ⟨b1, o1, none⟩) n c 1 (Lib.indexByte l 0)) ∧ ∃ q, w' = w.drewN q := by
  have hl : l.length = n := by simpa [bys] using hr.len1
  have hi := Try.bytes_Index_one b1 o1 n c p2 0 d (l.map fun c => ((c.toNat : Nat) : Int)) 0 w (by simpa using hl) (fun i hi => by
    obtain ⟨b, o, e, _, hc⟩ := hr.at_ (k := i) (u := .int .u8 ((l[i]'(by omega)).toNat : Nat)) (bys_at (List.getElem?_eq_getElem (by omega)))
    injection e with e
    injection e with e1 e2
    subst e1 e2
    rw [hc]
    simp [List.getD_eq_getElem?_getD, List.getElem?_eq_getElem (show i < l.length by omega)]) hz
  rw [bytesOf_ints] at hi
  have h0 : (0 : Int).toNat.toUInt8 = 0 := rfl
  rw [h0] at hi
  refine Try.bytes_Cut_of (some ⟨b1, o1, none⟩) (some ⟨p2, 0, none⟩) n c 1 d (Lib.indexByte l 0) w hnc (Lib.indexByte_ge l 0) (fun h => ?_) (by omega) (hi.mono fun e w' ⟨a, b⟩ => ⟨a, 0, by rw [b]; rfl⟩)
  obtain ⟨k, hk⟩ := Int.eq_ofNat_of_zero_le h
  have := (List.getElem?_eq_some_iff.1 (Lib.indexByte_some hk).1).1
  omega
/-- The text at an address: its bytes, or an error. -/
def Stk.text1 (b : List UInt8) (sp a : Nat) : List UInt8 × Int :=
  if a < sp ∨ b.length ≤ a - sp then ([], 25) else if Lib.indexByte (b.drop (a - sp)) 0 < 0 then ([], 25) else if 256 < Lib.indexByte (b.drop (a - sp)) 0 then ([], 12) else ((b.drop (a - sp)).take (Lib.indexByte (b.drop (a - sp)) 0).toNat, 0)
def Stk.textsR (b : List UInt8) (sp : Nat) : List Nat → List ByteArray → List ByteArray × Int
  | [], out => (out, 0)
  | a :: r, out => if (Stk.text1 b sp a).2 ≠ 0 then ([], (Stk.text1 b sp a).2) else Stk.textsR b sp r (out ++ [⟨(Stk.text1 b sp a).1.toArray⟩])

set_option maxRecDepth 100000 in
set_option maxHeartbeats 8000000 in
theorem texts_any (Ab : Option Addr) (m cb B sp : Nat) (b : List UInt8) (Aq : Option Addr) (n cq base : Nat) (l : List Nat) (w : World) (hb : Rd w B 1 Ab m (bys b)) (hB : B ≤ w.heap.size) (hm : m ≤ 4294967296) (hmc : m ≤ cb) (hsp : sp < 18446744073709551616) (ho : w.ownsRow base 30 1 (.slice Aq n cq) n (u64s l)) (hx : ∀ x ∈ l, x < 18446744073709551616) (hn : n ≤ 1000) :
    Calls Try.prog 31 #[.slice Ab m cb, .int .u64 sp, .slice Aq n cq] w fun e w' => ∃ A' c', e = .returned (.tuple #[.slice A' (Stk.textsR b sp l []).1.length c', .int .i64 (Stk.textsR b sp l []).2]) ∧ w'.ownsRow w.heap.size 9 1 (.slice A' (Stk.textsR b sp l []).1.length c') (Stk.textsR b sp l []).1.length ((Stk.textsR b sp l []).1.map Value.string) ∧ Below w.heap.size w w' := by
  have hln : l.length = n := by have := ho.1; rw [u64s_len] at this; omega
  have hbl : b.length = m := by simpa [bys] using hb.len1
  obtain ⟨res, hres⟩ : ∃ res, Stk.textsR b sp l [] = res := ⟨_, rfl⟩
  rw [hres]
  have Hres := hide hres
  have Hln := hide hln
  have Hbl := hide hbl
  have Hb := hide hb
  have Ho := hide ho
  have Hx := hide hx
  clear hres hln hbl hb ho hx
  go_enter Try.func31, Try.ntmps31
  go_wp2_with fail
  go_loopg [6, 15] n (fun gk ov iv wr => ∃ (k : Nat) (out : List ByteArray) (A' : Option Addr) (c' : Nat), gk = n - k ∧ k ≤ n ∧ iv = .int .i64 k ∧ out.length ≤ k ∧ ov = .slice A' out.length c' ∧ wr.ownsRow w.heap.size 9 1 (.slice A' out.length c') out.length (out.map Value.string) ∧ Below w.heap.size w wr ∧ Stk.textsR b sp (l.drop k) out = res)
  case atStart => exact ⟨0, [], none, 0, by omega, by omega, rfl, Nat.le_refl _, rfl, World.ownsRow_nil _ _ _ _, Below.refl _ _, by simpa using unhide Hres⟩
  case round =>
  clear Hres
  obtain ⟨k, out, A', c', hgk, hk, rfl, hol, rfl, hown, hbr, hst⟩ := hrel
  have Hgk := hide hgk
  have Hown := hide hown
  have Hbr := hide hbr
  have Hst := hide hst
  have hsz := hbr.size
  clear hgk hown hbr hst
  rcases Nat.lt_or_ge k n with hlt | hge
  case inr =>
    have hst := unhide Hst
    rw [List.drop_of_length_le (by rw [unhide Hln]; omega)] at hst
    simp only [Stk.textsR] at hst
    subst hst
    go_wp2_with fail
    go_ret2
    exact ⟨A', c', rfl, unhide Hown, unhide Hbr⟩
  obtain ⟨a, ha⟩ : ∃ a, l[k]? = some a := ⟨_, List.getElem?_eq_getElem (by rw [unhide Hln]; exact hlt)⟩
  have ha8 := (unhide Hx) a (List.mem_of_getElem? ha)
  obtain ⟨b1, o1, rfl, _, y1⟩ := (Rd.of_own (own_below (unhide Ho) (unhide Hbr))).at_ (u64s_at ha)
  have hst := unhide Hst
  rw [List.drop_eq_getElem_cons (List.getElem?_eq_some_iff.1 ha).1, (List.getElem?_eq_some_iff.1 ha).2] at hst
  simp only [Stk.textsR] at hst
  have Hst2 := hide hst
  clear hst Hst ha
  by_cases h1 : a < sp
  · have ht : Stk.text1 b sp a = ([], 25) := by unfold Stk.text1; rw [if_pos (.inl h1)]
    have hst := unhide Hst2
    rw [ht, if_pos (by simp)] at hst
    subst hst
    have h1' : (a : Int) < (sp : Int) := by omega
    clear Hst2 ht
    go_wp2_with fail
    go_ret2
    exact ⟨none, 0, rfl, World.ownsRow_nil _ _ _ _, unhide Hbr⟩
  have h1' : ¬ (a : Int) < (sp : Int) := by omega
  obtain ⟨o, rfl⟩ : ∃ o, a = sp + o := ⟨a - sp, by omega⟩
  have e1 : sp + o - sp = o := by omega
  by_cases h2 : m ≤ o
  · have ht : Stk.text1 b sp (sp + o) = ([], 25) := by unfold Stk.text1; rw [if_pos (.inr (by rw [unhide Hbl, e1]; exact h2))]
    have hst := unhide Hst2
    rw [ht, if_pos (by simp)] at hst
    subst hst
    have h2' : (m : Int) ≤ (o : Int) := by omega
    clear Hst2 ht e1
    go_wp2_with fail
    go_ret2
    exact ⟨none, 0, rfl, World.ownsRow_nil _ _ _ _, unhide Hbr⟩
  have h2' : ¬ (m : Int) ≤ (o : Int) := by omega
  obtain ⟨ix, hix⟩ : ∃ ix, Lib.indexByte (b.drop o) 0 = ix := ⟨_, rfl⟩
  have ht : Stk.text1 b sp (sp + o) = if ix < 0 then ([], 25) else if 256 < ix then ([], 12) else ((b.drop o).take ix.toNat, 0) := by
    unfold Stk.text1
    rw [if_neg (by rw [unhide Hbl, e1]; omega), e1, hix]
  have Ht := hide ht
  have hbn : bys b ≠ [] := by
    intro e
    have h := unhide Hbl
    have e' : b = [] := by simpa [bys] using e
    rw [e'] at h
    simp at h
    omega
  obtain ⟨ab, ao, hA, hab, _⟩ := (unhide Hb).open_ hbn
  subst hA
  have hbW : Below wr.heap.size wr (wr.alloc (.cells #[.int .u8 0] 5)) := (Below.refl _ _).alloc (Nat.le_refl _) _
  have hrdW := (((unhide Hb).below ((unhide Hbr).mono hB)).from (k := o) (by omega)).below (hbW.mono (by omega))
  have hzW : (wr.alloc (.cells #[.int .u8 0] 5)).cell? ⟨wr.heap.size, 0, none⟩ = some (.int .u8 0) := (Blk.new wr 5 [.int .u8 0]).cell (i := 0) rfl
  have K := cut0_any ab (ao + o) (m - o) (cb - o) 1 wr.heap.size B (b.drop o) _ hrdW hzW (by omega) (by omega) (by omega)
  rw [hix] at K
  have Hbw := hide ((unhide Hbr).trans (hbW.mono hsz))
  have Hown2 := hide (own_below (unhide Hown) hbW)
  have HrdW := hide hrdW
  have hixl : ∀ i : Nat, Lib.indexByte (b.drop o) 0 = i → (b.drop o)[i]? = some 0 := fun i h => (Lib.indexByte_some h).1
  rw [hix] at hixl
  have Hixl := hide hixl
  clear ht e1 hbn hrdW hzW hix hixl hbW Hown
  by_cases h3 : ix < 0
  · have hv : Lib.cutV (some ⟨ab, ao + o, none⟩) (m - o) (cb - o) 1 ix = .tuple #[.slice (some ⟨ab, ao + o, none⟩) (m - o) (cb - o), .slice none 0 0, .bool false] := by unfold Lib.cutV; rw [if_neg (by omega)]
    rw [hv] at K
    replace K := hide K
    have ht := unhide Ht
    rw [if_pos h3] at ht
    have hst := unhide Hst2
    rw [ht, if_pos (by simp)] at hst
    subst hst
    clear hv ht Ht Hst2 h3 Hixl
    go_wp2_with fail
    refine (unhide K).mono ?_
    rintro e w2 ⟨rfl, q, rfl⟩
    have Hbe := hide (below_drewN' (unhide Hbw) q)
    clear K
    go_wp2_with fail
    go_ret2
    exact ⟨none, 0, rfl, World.ownsRow_nil _ _ _ _, unhide Hbe⟩
  obtain ⟨i, rfl⟩ : ∃ i : Nat, ix = i := ⟨ix.toNat, by omega⟩
  have hv : Lib.cutV (some ⟨ab, ao + o, none⟩) (m - o) (cb - o) 1 (i : Int) = .tuple #[.slice (some ⟨ab, ao + o, none⟩) i (cb - o), Lib.fromV (some ⟨ab, ao + o, none⟩) (m - o) (cb - o) (i + 1), .bool true] := by unfold Lib.cutV; rw [if_pos (by omega)]; simp
  rw [hv] at K
  generalize Lib.fromV (some ⟨ab, ao + o, none⟩) (m - o) (cb - o) (i + 1) = fv at *
  replace K := hide K
  have ht := unhide Ht
  rw [if_neg h3] at ht
  have hil : i < m - o := by
    have h := (List.getElem?_eq_some_iff.1 ((unhide Hixl) i rfl)).1
    rw [List.length_drop, unhide Hbl] at h
    exact h
  clear hv Ht h3 Hixl
  go_wp2_with fail
  refine (unhide K).mono ?_
  rintro e w2 ⟨rfl, q, rfl⟩
  have Hbe := hide (below_drewN' (unhide Hbw) q)
  have Hown3 := hide (own_drewN (unhide Hown2) q)
  clear K Hbw Hown2
  by_cases h4 : 256 < i
  · rw [if_pos (by omega)] at ht
    have hst := unhide Hst2
    rw [ht, if_pos (by simp)] at hst
    subst hst
    have h4' : (256 : Int) < (i : Int) := by omega
    clear ht Hst2
    go_wp2_with fail
    go_ret2
    exact ⟨none, 0, rfl, World.ownsRow_nil _ _ _ _, unhide Hbe⟩
  rw [if_neg (by omega)] at ht
  have h4' : ¬ (256 : Int) < (i : Int) := by omega
  have hst := unhide Hst2
  rw [ht, if_neg (by simp)] at hst
  simp only [Int.toNat_natCast] at hst
  have hcut := (((unhide HrdW).cutN (k := i) (by omega))).drewN q
  rw [bys_take] at hcut
  have hcv := conv_any (P := Try.prog) (c := cb - o) hcut Try.underlying29 Try.underlying5 Try.underlying9
  generalize (⟨((b.drop o).take i).toArray⟩ : ByteArray) = s at *
  have Hst3 := hide hst
  generalize hW2 : (wr.alloc (.cells #[.int .u8 0] 5)).drewN q = w2 at *
  have hs2 := (unhide Hbe).size
  clear hst ht Hst2 hcut HrdW hW2
  go_wp2_with (at_builtin; (with_reducible refine (@id (wpList _ _ _ _ _ (World.alloc w2 _)) ?_)); refine wpList_app1g strTy rfl _ _ rfl w.heap.size (.slice A' out.length c') out.length (out.map Value.string) rfl (unhide Hown3) _ w2.heap.size rfl rfl rfl (by simp [Value.oneCell']) (by omega) hs2 ?_; intro A3 c3 w3 ho3 hg3 hat3; have hb3 := (unhide Hbe).grown hg3 hs2 (fun k hk => ((unhide Hown3).lt k hk).1); have Hb3 := hide hb3; have Ho3 := hide ho3; clear ho3 hg3 hat3 hb3)
  have ho3 := unhide Ho3
  have e1 : out.map Value.string ++ [Value.string s] = (out ++ [s]).map Value.string := by simp
  rw [e1] at ho3
  have Ho4 := hide ho3
  clear ho3 e1 Ho3
  go_roundg (n - (k + 1))
  case measure => have := unhide Hgk; omega
  case rel => exact ⟨k + 1, out ++ [s], A3, c3, rfl, by omega, by go_num, by simp; omega, by simp, by rw [List.length_append]; exact unhide Ho4, unhide Hb3, unhide Hst3⟩
end Go.Proofs.Ytmoenjmhogmcoaa
namespace Go.Proofs.Ytmoenjmhogmcoaa
set_option linter.unusedVariables false
set_option linter.unusedSimpArgs false
open Go.RowKit

/-- What a stack says. -/
def Stk.readR (b : List UInt8) (sp : Nat) : List ByteArray × List ByteArray × List (Nat × Nat) × Int :=
  if sp + b.length ≠ Stk.top ∨ sp % 16 ≠ 0 then ([], [], [], 25)
  else if (Stk.vecR ⟨b, false⟩).2.2.2 ≠ 0 then ([], [], [], (Stk.vecR ⟨b, false⟩).2.2.2)
  else if (Stk.textsR b sp (Stk.vecR ⟨b, false⟩).1 []).2 ≠ 0 then ([], [], [], (Stk.textsR b sp (Stk.vecR ⟨b, false⟩).1 []).2)
  else if (Stk.textsR b sp (Stk.vecR ⟨b, false⟩).2.1 []).2 ≠ 0 then ([], [], [], (Stk.textsR b sp (Stk.vecR ⟨b, false⟩).2.1 []).2)
  else ((Stk.textsR b sp (Stk.vecR ⟨b, false⟩).1 []).1, (Stk.textsR b sp (Stk.vecR ⟨b, false⟩).2.1 []).1, (Stk.vecR ⟨b, false⟩).2.2.1, 0)
theorem Stk.upTo_ok (k : Nat) (r : Stk.R) (l : List Nat) (hl : ∀ x ∈ l, x < 18446744073709551616) : (Stk.upTo k r l).1.1.length ≤ l.length + k ∧ ∀ x ∈ (Stk.upTo k r l).1.1, x < 18446744073709551616 := by
  induction k generalizing r l with
  | zero =>
    unfold Stk.upTo
    split
    · simp
    · split
      · exact ⟨by simp, hl⟩
      · simp
  | succ k ih =>
    unfold Stk.upTo
    split
    · simp
    · split
      · exact ⟨by simp, hl⟩
      · have h := ih (Stk.next r).2 (l ++ [(Stk.next r).1]) (fun x hx => by
          rcases List.mem_append.1 hx with h | h
          · exact hl x h
          · simp at h; subst h; exact Stk.next_lt r)
        simp at h ⊢
        exact ⟨by omega, h.2⟩
theorem Stk.takeN_ok (k : Nat) (r : Stk.R) (l : List Nat) (hl : ∀ x ∈ l, x < 18446744073709551616) : ∀ x ∈ (Stk.takeN k r l).1, x < 18446744073709551616 := by
  induction k generalizing r l with
  | zero => exact hl
  | succ k ih =>
    refine ih _ _ (fun x hx => ?_)
    rcases List.mem_append.1 hx with h | h
    · exact hl x h
    · simp at h; subst h; exact Stk.next_lt r
theorem Stk.vecR_ok (r : Stk.R) (h0 : r.gone = false) : (Stk.vecR r).1.length ≤ 32 ∧ (∀ x ∈ (Stk.vecR r).1, x < 18446744073709551616) ∧ (Stk.vecR r).2.1.length ≤ 32 ∧ ∀ x ∈ (Stk.vecR r).2.1, x < 18446744073709551616 := by
  have hmany : (Stk.next r).2.gone = true → (Stk.next r).1 = 0 := by
    unfold Stk.next
    split
    · intro _; rfl
    · intro h; simp only at h; rw [h0] at h; cases h
  unfold Stk.vecR
  split
  · simp
  · rename_i h1
    have hm : (Stk.next r).1 ≤ 32 := by
      cases hg : (Stk.next r).2.gone
      · rcases Nat.lt_or_ge 32 (Stk.next r).1 with h | h
        · exact absurd ⟨hg, h⟩ h1
        · exact h
      · rw [hmany hg]; omega
    split
    · simp
    · split
      · simp
      · split
        · simp
        · have hu := Stk.upTo_ok 32 (Stk.next (Stk.takeN (Stk.next r).1 (Stk.next r).2 []).2).2 [] (by simp)
          refine ⟨?_, Stk.takeN_ok _ _ _ (by simp), ?_, hu.2⟩
          · show (Stk.takeN (Stk.next r).1 (Stk.next r).2 []).1.length ≤ 32
            rw [Stk.takeN_len]
            simpa using hm
          · have := hu.1
            simpa using this
/-- What Read's answer is, in the world behind. -/
def ReadEnd (v : List ByteArray × List ByteArray × List (Nat × Nat) × Int) (w : World) (e : Ending) (w' : World) : Prop :=
  ∃ A1 c1 A2 c2 A3 c3, e = .returned (.tuple #[.slice A1 v.1.length c1, .slice A2 v.2.1.length c2, .slice A3 v.2.2.1.length c3, .int .i64 v.2.2.2]) ∧
    w'.ownsRow w.heap.size 9 1 (.slice A1 v.1.length c1) v.1.length (v.1.map Value.string) ∧ w'.ownsRow w.heap.size 9 1 (.slice A2 v.2.1.length c2) v.2.1.length (v.2.1.map Value.string) ∧ w'.ownsRow w.heap.size 43 2 (.slice A3 v.2.2.1.length c3) v.2.2.1.length (auxC v.2.2.1) ∧ Below w.heap.size w w'
theorem readEnd_err {w w' : World} {x : Int} (hb : Below w.heap.size w w') : ReadEnd ([], [], [], x) w (.returned (.tuple #[.slice none 0 0, .slice none 0 0, .slice none 0 0, .int .i64 x])) w' :=
  ⟨none, 0, none, 0, none, 0, rfl, World.ownsRow_nil _ _ _ _, World.ownsRow_nil _ _ _ _, World.ownsRow_nil _ _ _ _, hb⟩

set_option maxRecDepth 100000 in
set_option maxHeartbeats 8000000 in
theorem sread_any (A : Option Addr) (m c sp : Nat) (b : List UInt8) (w : World) (B : Nat) (hb : Rd w B 1 A m (bys b)) (hB : B ≤ w.heap.size) (hm : m ≤ 4294967296) (hmc : m ≤ c) (hsp : sp < 18446744073709551616) :
    Calls Try.prog 16 #[.slice A m c, .int .u64 sp] w (ReadEnd (Stk.readR b sp) w) := by
  have hbl : b.length = m := by simpa [bys] using hb.len1
  obtain ⟨res, hres⟩ : ∃ res, Stk.readR b sp = res := ⟨_, rfl⟩
  rw [hres]
  unfold Stk.readR at hres
  rw [hbl] at hres
  have Hres := hide hres
  have Hb := hide hb
  have Hbl := hide hbl
  clear hres hb hbl
  by_cases hov : sp + m ≤ 18446744073709551615
  case neg =>
    have hu := unhide Hres
    rw [if_pos (.inl (by unfold Stk.top; omega))] at hu
    subst hu
    have K := hide (add_no (sp : Int) (m : Int) w (by omega) (by omega) (by omega) (by omega))
    clear Hres
    go_enter Try.func16, Try.ntmps16
    go_wp2_with fail
    refine (unhide K).mono ?_
    rintro e w1 ⟨rfl, rfl⟩
    clear K
    go_wp2_with fail
    (try simp only [Exit.inBlock, Exit.then])
    refine bodyPost_ret (results_tmp4 rfl _ _ _) rfl ?_
    exact readEnd_err (Below.refl _ _)
  have K := hide (add_yes (sp : Int) (m : Int) w (by omega) (by omega) (by omega))
  by_cases ht : sp + m = 140737488351232
  case neg =>
    have hu := unhide Hres
    rw [if_pos (.inl (by unfold Stk.top; exact ht))] at hu
    subst hu
    have t1 : (((sp : Int) + (m : Int)) != 140737488351232) = true := by rw [bne_iff_ne]; omega
    clear Hres ht
    go_enter Try.func16, Try.ntmps16
    go_wp2_with fail
    refine (unhide K).mono ?_
    rintro e w1 ⟨rfl, rfl⟩
    clear K
    go_wp2_with fail
    (try simp only [Exit.inBlock, Exit.then])
    refine bodyPost_ret (results_tmp4 rfl _ _ _) rfl ?_
    exact readEnd_err (Below.refl _ _)
  have t1 : (((sp : Int) + (m : Int)) != 140737488351232) = false := by rw [bne_eq_false_iff_eq]; omega
  by_cases h16 : sp % 16 = 0
  case neg =>
    have hu := unhide Hres
    rw [if_pos (.inr h16)] at hu
    subst hu
    have t2 : ((sp : Int) % 16 != 0) = true := by rw [bne_iff_ne]; omega
    clear Hres ht h16
    go_enter Try.func16, Try.ntmps16
    go_wp2_with fail
    refine (unhide K).mono ?_
    rintro e w1 ⟨rfl, rfl⟩
    clear K
    go_wp2_with fail
    (try simp only [Exit.inBlock, Exit.then])
    refine bodyPost_ret (results_tmp4 rfl _ _ _) rfl ?_
    exact readEnd_err (Below.refl _ _)
  have t2 : ((sp : Int) % 16 != 0) = false := by rw [bne_eq_false_iff_eq]; omega
  have hu := unhide Hres
  rw [if_neg (by unfold Stk.top; omega)] at hu
  obtain ⟨v1, v2, v3, v4⟩ := Stk.vecR_ok ⟨b, false⟩ rfl
  obtain ⟨vr, hvr⟩ : ∃ vr, Stk.vecR ⟨b, false⟩ = vr := ⟨_, rfl⟩
  rw [hvr] at hu v1 v2 v3 v4
  have hblk := Blk.new w 64 [.slice A m c, .bool false]
  have hbw : Below w.heap.size w (w.alloc (.cells #[.slice A m c, .bool false] 64)) := (Below.refl _ _).alloc (Nat.le_refl _) _
  have hsr : SRd (w.alloc (.cells #[.slice A m c, .bool false] 64)) w.heap.size B ⟨b, false⟩ := ⟨A, m, c, hblk, (unhide Hb).below (hbw.mono hB), hmc, hm⟩
  have KV := vector_any w.heap.size B ⟨b, false⟩ _ hsr hB (by simp; omega) rfl
  rw [hvr] at KV
  replace KV := hide KV
  have Hu := hide hu
  have Hbw := hide hbw
  have Hv := hide (And.intro v1 (And.intro v2 (And.intro v3 v4)))
  clear Hres ht h16 hu hvr hblk hbw hsr v1 v2 v3 v4
  go_enter Try.func16, Try.ntmps16
  go_wp2_with fail
  refine (unhide K).mono ?_
  rintro e w1 ⟨rfl, rfl⟩
  clear K
  go_wp2_with fail
  refine (unhide KV).mono ?_
  intro e w2 hend
  obtain ⟨A1, c1, A2, c2, A3, c3, rfl, o1, o2, o3, hO⟩ := hend
  have hB2 : Below w.heap.size w w2 := hO.below (unhide Hbw) (Nat.le_refl _) (Nat.le_refl _) (Nat.le_refl _)
  have hs2 : w.heap.size ≤ w2.heap.size := hB2.size
  have hs1 : w.heap.size ≤ (w.alloc (.cells #[.slice A m c, .bool false] 64)).heap.size := (unhide Hbw).size
  have Ho3 := hide (own_base o3 hs1)
  have HB2 := hide hB2
  have Ho2 := hide o2
  have KA := hide (texts_any A m c B sp b A1 vr.1.length c1 _ vr.1 w2 ((unhide Hb).below (hB2.mono hB)) (by omega) hm hmc hsp o1 (unhide Hv).2.1 (by have := (unhide Hv).1; omega))
  clear KV o1 o2 o3 hO hB2 Hbw hs1
  have hu := unhide Hu
  by_cases hv0 : vr.2.2.2 = 0
  case neg =>
    have hv0' : (vr.2.2.2 != 0) = true := by rw [bne_iff_ne]; exact hv0
    rw [if_pos hv0] at hu
    subst hu
    clear Hu hv0 KA
    go_wp2_with fail
    (try simp only [Exit.inBlock, Exit.then])
    refine bodyPost_ret (results_tmp4 rfl _ _ _) rfl ?_
    exact readEnd_err (unhide HB2)
  have hv0' : (vr.2.2.2 != 0) = false := by rw [bne_eq_false_iff_eq]; exact hv0
  rw [if_neg (by omega)] at hu
  replace Hu := hide hu
  clear hu
  go_wp2_with fail
  refine (unhide KA).mono ?_
  rintro e w3 ⟨A4, c4, rfl, o4, hb3⟩
  clear KA
  have hB3 : Below w.heap.size w w3 := (unhide HB2).trans (hb3.mono hs2)
  have hs3 := hb3.size
  have Ho4 := hide (own_base o4 hs2)
  have Ho3 := hide (own_below (unhide Ho3) hb3)
  have KE := hide (texts_any A m c B sp b A2 vr.2.1.length c2 _ vr.2.1 w3 ((unhide Hb).below (hB3.mono hB)) (by omega) hm hmc hsp (own_below (unhide Ho2) hb3) (unhide Hv).2.2.2 (by have := (unhide Hv).2.2.1; omega))
  have HB3 := hide hB3
  clear o4 hb3 hB3 Ho2 HB2
  obtain ⟨ta, hta⟩ : ∃ ta, Stk.textsR b sp vr.1 [] = ta := ⟨_, rfl⟩
  rw [hta] at Ho4 ⊢
  have hu := unhide Hu
  rw [hta] at hu
  by_cases ha0 : ta.2 = 0
  case neg =>
    have ha0' : (ta.2 != 0) = true := by rw [bne_iff_ne]; exact ha0
    rw [if_pos ha0] at hu
    subst hu
    clear Hu ha0 KE hta
    go_wp2_with fail
    (try simp only [Exit.inBlock, Exit.then])
    refine bodyPost_ret (results_tmp4 rfl _ _ _) rfl ?_
    exact readEnd_err (unhide HB3)
  have ha0' : (ta.2 != 0) = false := by rw [bne_eq_false_iff_eq]; exact ha0
  rw [if_neg (by omega)] at hu
  replace Hu := hide hu
  clear hu hta
  go_wp2_with fail
  refine (unhide KE).mono ?_
  rintro e w4 ⟨A5, c5, rfl, o5, hb4⟩
  clear KE
  have hB4 : Below w.heap.size w w4 := (unhide HB3).trans (hb4.mono (by omega))
  have Ho5 := hide (own_base o5 (show w.heap.size ≤ w3.heap.size by omega))
  have Ho4 := hide (own_below (unhide Ho4) hb4)
  have Ho3 := hide (own_below (unhide Ho3) hb4)
  have HB4 := hide hB4
  clear o5 hb4 hB4 HB3
  obtain ⟨te, hte⟩ : ∃ te, Stk.textsR b sp vr.2.1 [] = te := ⟨_, rfl⟩
  rw [hte] at Ho5 ⊢
  have hu := unhide Hu
  rw [hte] at hu
  by_cases he0 : te.2 = 0
  case neg =>
    have he0' : (te.2 != 0) = true := by rw [bne_iff_ne]; exact he0
    rw [if_pos he0] at hu
    subst hu
    clear Hu he0 hte
    go_wp2_with fail
    (try simp only [Exit.inBlock, Exit.then])
    refine bodyPost_ret (results_tmp4 rfl _ _ _) rfl ?_
    exact readEnd_err (unhide HB4)
  have he0' : (te.2 != 0) = false := by rw [bne_eq_false_iff_eq]; exact he0
  rw [if_neg (by omega)] at hu
  clear Hu hte
  subst hu
  go_wp2_with fail
  (try simp only [Exit.inBlock, Exit.then])
  refine bodyPost_ret (results_tmp4 rfl _ _ _) rfl ?_
  exact ⟨A4, c4, A5, c5, A3, c3, rfl, unhide Ho4, unhide Ho5, unhide Ho3, unhide HB4⟩
end Go.Proofs.Ytmoenjmhogmcoaa
namespace Go.Proofs.Ytmoenjmhogmcoaa
set_option linter.unusedVariables false
set_option linter.unusedSimpArgs false
open Go.RowKit

def sumM : List ByteArray → Nat
  | [] => 0
  | s :: r => min s.size 131072 + sumM r
theorem sumM_app (a b : List ByteArray) : sumM (a ++ b) = sumM a + sumM b := by
  induction a with
  | nil => simp [sumM]
  | cons s r ih => simp only [List.cons_append, sumM, ih]; omega
theorem sumM_mem {l : List ByteArray} {x : ByteArray} (h : x ∈ l) : min x.size 131072 ≤ sumM l := by
  induction l with
  | nil => cases h
  | cons s r ih =>
    simp only [sumM]
    rcases List.mem_cons.1 h with rfl | h
    · omega
    · have := ih h; omega
theorem sumM_snoc {l : List ByteArray} {k : Nat} {x : ByteArray} (h : l[k]? = some x) : sumM (l.take (k + 1)) = sumM (l.take k) + min x.size 131072 := by
  rw [List.take_add_one, h, sumM_app]
  simp [sumM]

set_option maxRecDepth 100000 in
set_option maxHeartbeats 1000000 in
theorem large_any (A : Option Addr) (n c B : Nat) (l : List ByteArray) (w : World) (hl : Rd w B 1 A n (l.map Value.string)) (hs : ∀ x ∈ l, x.size ≤ maxLen) (hn : n ≤ maxLen) :
    Calls Try.prog 18 #[.slice A n c] w fun e w' => ∃ r, e = .returned (.bool r) ∧ w = w' ∧ (r = false → n ≤ 65536 ∧ ∀ x ∈ l, x.size ≤ 65536) := by
  have hln : l.length = n := by simpa using hl.len1
  unfold maxLen at hn
  have Hl := hide hl
  have Hln := hide hln
  have Hs := hide hs
  clear hl hln hs
  go_enter Try.func18, Try.ntmps18
  go_wp2_with fail
  go_loopg [3, 4] n (fun gk nv i wr => ∃ k m : Nat, gk = n - k ∧ k ≤ n ∧ i = .int .i64 k ∧ nv = .int .i64 m ∧ m = n + sumM (l.take k) ∧ (k = 0 ∨ m ≤ 196608) ∧ w = wr)
  case atStart => exact ⟨0, n, by omega, by omega, rfl, rfl, by simp [sumM], .inl rfl, rfl⟩
  case round =>
  obtain ⟨k, m, hgk, hk, rfl, rfl, hmn, hm0, rfl⟩ := hrel
  have Hgk := hide hgk
  have Hmn := hide hmn
  clear hgk hmn
  have hmb : m ≤ 9223372036854775807 := by
    rcases hm0 with rfl | h
    · have := unhide Hmn; simp [sumM] at this; omega
    · omega
  by_cases hlt : k < n
  case neg =>
    obtain rfl : k = n := by omega
    have htk : l.take k = l := List.take_of_length_le (by have := unhide Hln; omega)
    have hnn := unhide Hmn
    rw [htk] at hnn
    have Hnn := hide hnn
    clear htk hnn hm0
    go_wp2_with fail
    go_ret
    refine ⟨_, rfl, rfl, fun hr => ?_⟩
    have hm : m ≤ 65536 := by
      have h : (m : Int) ≤ 65536 := by simpa using hr
      omega
    have h1 := unhide Hnn
    refine ⟨by omega, fun x hx => ?_⟩
    have h2 := sumM_mem hx
    omega
  by_cases hbig : m ≤ 65536
  case neg =>
    have hb : ((m : Int) ≤ 65536) = False := by simp; omega
    clear hm0
    go_wp2_with fail
    go_ret
    exact ⟨_, rfl, rfl, fun hr => by simp at hr; omega⟩
  obtain ⟨x, hx⟩ : ∃ x, l[k]? = some x := ⟨_, List.getElem?_eq_getElem (by rw [unhide Hln]; exact hlt)⟩
  obtain ⟨b1, o1, rfl, _, c1⟩ := (unhide Hl).at_ (k := k) (u := .string x) (by simp [hx])
  have hxs := (unhide Hs) x (List.mem_of_getElem? hx)
  unfold maxLen at hxs
  have Hsn := hide (sumM_snoc hx)
  clear hx hm0
  by_cases hmin : x.size ≤ 131072
  · have hmin' : (x.size : Int) ≤ 131072 := by omega
    go_wp2_with fail
    go_roundg (n - (k + 1))
    case measure => have := unhide Hgk; omega
    case rel => exact ⟨k + 1, m + x.size, rfl, by omega, by go_num, by go_num, by rw [unhide Hsn, Nat.min_eq_left hmin]; have := unhide Hmn; omega, .inr (by omega), rfl⟩
  · have hmin' : (131072 : Int) < (x.size : Int) := by omega
    go_wp2_with fail
    go_roundg (n - (k + 1))
    case measure => have := unhide Hgk; omega
    case rel => exact ⟨k + 1, m + 131072, rfl, by omega, by go_num, by go_num, by rw [unhide Hsn, Nat.min_eq_right (by omega)]; have := unhide Hmn; omega, .inr (by omega), rfl⟩
end Go.Proofs.Ytmoenjmhogmcoaa
namespace Go.Proofs.Ytmoenjmhogmcoaa
set_option linter.unusedVariables false
set_option linter.unusedSimpArgs false
open Go.RowKit

set_option maxRecDepth 100000 in
set_option maxHeartbeats 1000000 in
theorem aeqq_any (A : Option Addr) (n c B : Nat) (la : List (Nat × Nat)) (A' : Option Addr) (n' c' B' : Nat) (lb : List (Nat × Nat)) (w : World) (ha : Rd w B 2 A n (auxC la)) (hb : Rd w B' 2 A' n' (auxC lb)) (hn : n ≤ 4294967296) (hn' : n' ≤ 4294967296) :
    Calls Try.prog 14 #[.slice A n c, .slice A' n' c'] w fun e w' => e = .returned (.bool (decide (la = lb))) ∧ ∃ q, w' = w.drewN q := by
  have hla := ha.aux_len
  have hlb := hb.aux_len
  have Ha := hide ha
  have Hb := hide hb
  have Hla := hide hla
  have Hlb := hide hlb
  clear ha hb hla hlb
  by_cases hnn : n = n'
  case neg =>
    have h1 : ((n : Int) != (n' : Int)) = true := by rw [bne_iff_ne]; omega
    have h2 : decide (la = lb) = false := by
      rw [decide_eq_false_iff_not]
      intro h
      have := congrArg List.length h
      rw [unhide Hla, unhide Hlb] at this
      exact hnn this
    go_enter Try.func14, Try.ntmps14
    go_wp2_with fail
    go_ret
    rw [h2]
    exact ⟨rfl, 0, rfl⟩
  subst hnn
  have h1 : ((n : Int) != (n : Int)) = false := by simp
  go_enter Try.func14, Try.ntmps14
  go_wp2_with fail
  go_loopg [5] n (fun gk iv wr => ∃ k : Nat, gk = n - k ∧ k ≤ n ∧ iv = .int .i64 k ∧ la.take k = lb.take k ∧ ∃ q, wr = w.drewN q)
  case atStart => exact ⟨0, by omega, by omega, rfl, by simp, 0, rfl⟩
  case round =>
  obtain ⟨k, hgk, hk, rfl, htk, q, hq⟩ := hrel
  have Ha2 : Hid (Rd wr B 2 A n (auxC la)) := hide (by rw [hq]; exact (unhide Ha).drewN q)
  have Hb2 : Hid (Rd wr B' 2 A' n (auxC lb)) := hide (by rw [hq]; exact (unhide Hb).drewN q)
  have hbd : ∃ q', wr.drew = w.drewN q' := ⟨q + 1, by rw [hq]; rfl⟩
  have Hbr : Hid (∃ q', wr = w.drewN q') := hide ⟨q, hq⟩
  have Hbd := hide hbd
  have Hgk := hide hgk
  have Htk := hide htk
  clear hgk htk hq hbd
  by_cases hlt : k < n
  case neg =>
    obtain rfl : k = n := by omega
    have htk := unhide Htk
    rw [List.take_of_length_le (by rw [unhide Hla]; omega), List.take_of_length_le (by rw [unhide Hlb]; omega)] at htk
    have h2 : decide (la = lb) = true := by simpa using htk
    clear htk
    go_wp2_with fail
    go_ret
    rw [h2]
    exact ⟨rfl, unhide Hbr⟩
  obtain ⟨x, hx⟩ : ∃ x, la[k]? = some x := ⟨_, List.getElem?_eq_getElem (by rw [unhide Hla]; exact hlt)⟩
  obtain ⟨y, hy⟩ : ∃ y, lb[k]? = some y := ⟨_, List.getElem?_eq_getElem (by rw [unhide Hlb]; exact hlt)⟩
  obtain ⟨b1, o1, rfl, _, x1, x2⟩ := (unhide Ha2).aux hx
  obtain ⟨b2, o2, rfl, _, y1, y2⟩ := (unhide Hb2).aux hy
  have hkn : (k : Int) < (n : Int) := by omega
  have hb1 : (0:Int) ≤ (k : Int) := by omega
  obtain ⟨x1', x2'⟩ := x
  obtain ⟨y1', y2'⟩ := y
  dsimp only at x1 x2 y1 y2
  have Hx := hide hx
  have Hy := hide hy
  clear hx hy
  have hno : ¬ (x1' = y1' ∧ x2' = y2') → decide (la = lb) = false := by
    intro h
    rw [decide_eq_false_iff_not]
    rintro rfl
    have e := (unhide Hx).symm.trans (unhide Hy)
    injection e with e
    injection e with e1 e2
    exact h ⟨e1, e2⟩
  have Hno := hide hno
  clear hno
  by_cases h2 : (x1' : Int) = (y1' : Int)
  case neg =>
    have e := (unhide Hno) (fun h => h2 (by rw [h.1]))
    go_wp2_with fail
    go_region
    go_wp2_with fail
    go_ret
    rw [e]
    exact ⟨rfl, unhide Hbd⟩
  by_cases h3 : (x2' : Int) = (y2' : Int)
  case neg =>
    have e := (unhide Hno) (fun h => h3 (by rw [h.2]))
    go_wp2_with fail
    go_region
    go_wp2_with fail
    go_ret
    rw [e]
    exact ⟨rfl, unhide Hbd⟩
  have htk2 : la.take (k + 1) = lb.take (k + 1) := by
    obtain rfl : x1' = y1' := by omega
    obtain rfl : x2' = y2' := by omega
    rw [List.take_add_one, List.take_add_one, unhide Htk, unhide Hx, unhide Hy]
  have Htk2 := hide htk2
  clear htk2 Hx Hy Hno
  go_wp2_with fail
  go_region
  go_wp2_with fail
  go_roundg (n - (k + 1))
  case measure => have := unhide Hgk; omega
  case rel => exact ⟨k + 1, rfl, by omega, by go_num, unhide Htk2, unhide Hbd⟩
theorem aeq_any (A : Option Addr) (n c B : Nat) (la : List (Nat × Nat)) (A' : Option Addr) (n' c' B' : Nat) (lb : List (Nat × Nat)) (w : World) (ha : Rd w B 2 A n (auxC la)) (hb : Rd w B' 2 A' n' (auxC lb)) (hn : n ≤ 4294967296) (hn' : n' ≤ 4294967296) (hB : B ≤ w.heap.size) (hB' : B' ≤ w.heap.size) :
    Calls Try.prog 14 #[.slice A n c, .slice A' n' c'] w fun e w' => e = .returned (.bool (decide (la = lb))) ∧ Below w.heap.size w w' :=
  (aeqq_any A n c B la A' n' c' B' lb w ha hb hn hn').mono fun e w' ⟨a, q, b⟩ => ⟨a, by rw [b]; exact below_drewN' (Below.refl _ _) q⟩
end Go.Proofs.Ytmoenjmhogmcoaa
namespace Go.Proofs.Ytmoenjmhogmcoaa
set_option linter.unusedVariables false
set_option linter.unusedSimpArgs false
open Go.RowKit

theorem auxC_one (l : List (Nat × Nat)) : ∀ u ∈ auxC l, u.oneCell' = true := by
  induction l with
  | nil => simp [auxC]
  | cons a r ih => simp [auxC, Value.oneCell']; exact ih

set_option maxRecDepth 100000 in
set_option maxHeartbeats 1000000 in
theorem copied_any (A : Option Addr) (n c B : Nat) (la : List (Nat × Nat)) (w : World) (ha : Rd w B 2 A n (auxC la)) (hn : n ≤ 4294967296) :
    Calls Try.prog 9 #[.slice A n c] w fun e w' => ∃ A' c', e = .returned (.slice A' n c') ∧ w'.ownsRow w.heap.size 43 2 (.slice A' n c') n (auxC la) ∧ Below w.heap.size w w' := by
  have Ha := hide ha
  clear ha
  go_enter Try.func9, Try.ntmps9
  go_wp2_with (at_builtin; refine wpList_app auxTy rfl _ _ rfl w.heap.size (.slice none 0 0) 0 [] rfl (World.ownsRow_nil _ _ _ _) B A n c (auxC la) rfl (unhide Ha) (auxC_one la) (by omega) (Nat.le_refl _) ?_; intro A3 c3 w3 ho3 hg3 hat3; have hb3 := (Below.refl w.heap.size w).grown hg3 (Nat.le_refl _) (fun k hk => by simp [Value.ownBlock] at hk); simp only [Nat.zero_add, List.nil_append] at ho3 ⊢; have Ho3 := hide ho3; have Hb3 := hide hb3; clear ho3 hb3 hg3 hat3)
  go_ret
  exact ⟨A3, c3, rfl, unhide Ho3, unhide Hb3⟩

theorem bys_take' (b : List UInt8) (k j : Nat) : ((bys b).drop k).take j = bys ((b.drop k).take j) := by simp [bys]
/-- A text stands in bytes, a byte 0 behind it. -/
def Stk.at0 (b : List UInt8) (s : ByteArray) (i : Nat) : Prop := i + s.size < b.length ∧ b[i + s.size]? = some 0 ∧ (⟨((b.drop i).take s.size).toArray⟩ : ByteArray) = s
def WithinEnd (b : List UInt8) (s : ByteArray) (w : World) (e : Ending) (w' : World) : Prop := ∃ r, e = .returned (.bool r) ∧ Below w.heap.size w w' ∧ ((∃ i, Stk.at0 b s i) → r = true)

set_option maxRecDepth 100000 in
set_option maxHeartbeats 1000000 in
theorem within_any (A : Option Addr) (m c B : Nat) (b : List UInt8) (s : ByteArray) (w : World) (hb : Rd w B 1 A m (bys b)) (hB : B ≤ w.heap.size) (hm : m ≤ 4294967296) (hmc : m ≤ c) (hs : s.size ≤ 4294967296) :
    Calls Try.prog 17 #[.slice A m c, .string s] w (WithinEnd b s w) := by
  have hbl : b.length = m := by simpa [bys] using hb.len1
  have Hb := hide hb
  have Hbl := hide hbl
  clear hb hbl
  go_enter Try.func17, Try.ntmps17
  go_wp2_with fail
  go_loopg [6] m (fun gk iv wr => ∃ k : Nat, gk = m - k ∧ k ≤ m ∧ iv = .int .i64 k ∧ (∀ i, i < k → ¬ Stk.at0 b s i) ∧ Below w.heap.size w wr)
  case atStart => exact ⟨0, by omega, by omega, rfl, by omega, Below.refl _ _⟩
  case round =>
  obtain ⟨k, hgk, hk, rfl, hno, hbr⟩ := hrel
  have Hgk := hide hgk
  have Hno := hide hno
  have Hbr := hide hbr
  clear hgk hno hbr
  by_cases hlt : k + s.size < m
  case neg =>
    have hlt' : ¬ (k : Int) + (s.size : Int) < (m : Int) := by omega
    go_wp2_with fail
    go_ret
    refine ⟨false, rfl, unhide Hbr, ?_⟩
    rintro ⟨i, h⟩
    have h1 := h.1
    rw [unhide Hbl] at h1
    exact absurd h ((unhide Hno) i (by omega))
  have hlt' : (k : Int) + (s.size : Int) < (m : Int) := by omega
  obtain ⟨y, hy⟩ : ∃ y, b[k + s.size]? = some y := ⟨_, List.getElem?_eq_getElem (by rw [unhide Hbl]; exact hlt)⟩
  have hrd := (unhide Hb).below ((unhide Hbr).mono hB)
  obtain ⟨b1, o1, rfl, hb1, y1⟩ := hrd.at_ (bys_at hy)
  have hcut := (hrd.from (k := k) (by omega)).cutN (k := s.size) (by omega)
  have Hy := hide hy
  by_cases h0 : y = 0
  case neg =>
    have h0' : ((y.toNat : Nat) : Int) ≠ 0 := fun h => h0 (UInt8.toNat_inj.1 (by simpa using h))
    have hno2 : ∀ i, i < k + 1 → ¬ Stk.at0 b s i := by
      intro i hi h
      rcases Nat.lt_or_ge i k with h1 | h1
      · exact (unhide Hno) i h1 h
      · obtain rfl : i = k := by omega
        have h2 := h.2.1
        rw [unhide Hy] at h2
        injection h2 with h2
        exact h0 h2
    have Hno2 := hide hno2
    clear hno2 hcut hrd hy Hy h0
    go_wp2_with fail
    go_roundg (m - (k + 1))
    case measure => have := unhide Hgk; omega
    case rel => exact ⟨k + 1, rfl, by omega, by go_num, unhide Hno2, unhide Hbr⟩
  subst h0
  rw [bys_take] at hcut
  have hcv := conv_any (P := Try.prog) (c := c - k) hcut Try.underlying29 Try.underlying5 Try.underlying9
  have h00 : ((0 : UInt8).toNat : Int) = 0 := rfl
  obtain ⟨t, ht⟩ : ∃ t : ByteArray, (⟨((b.drop k).take s.size).toArray⟩ : ByteArray) = t := ⟨_, rfl⟩
  rw [ht] at hcv
  have Ht := hide ht
  clear ht hcut hrd hy
  by_cases hts : t = s
  · subst hts
    clear Ht Hy
    go_wp2_with fail
    go_ret
    exact ⟨true, rfl, unhide Hbr, fun _ => rfl⟩
  · have hno2 : ∀ i, i < k + 1 → ¬ Stk.at0 b s i := by
      intro i hi h
      rcases Nat.lt_or_ge i k with h1 | h1
      · exact (unhide Hno) i h1 h
      · obtain rfl : i = k := by omega
        exact hts ((unhide Ht).symm.trans h.2.2)
    have Hno2 := hide hno2
    have hts' : (t.toList == s.toList) = false := by rw [beq_toList]; simpa using hts
    clear hno2 Ht Hy
    go_wp2_with fail
    go_roundg (m - (k + 1))
    case measure => have := unhide Hgk; omega
    case rel => exact ⟨k + 1, rfl, by omega, by go_num, unhide Hno2, unhide Hbr⟩
end Go.Proofs.Ytmoenjmhogmcoaa
namespace Go.Proofs.Ytmoenjmhogmcoaa
set_option linter.unusedVariables false
set_option linter.unusedSimpArgs false
open Go.RowKit

def Stk.err (x : Int) : Prop := x = 0 ∨ x = 12 ∨ x = 25
theorem Stk.upTo_err (k : Nat) (r : Stk.R) (l : List Nat) : Stk.err (Stk.upTo k r l).1.2 := by
  induction k generalizing r l with
  | zero =>
    simp only [Stk.upTo]
    split
    · exact .inr (.inr rfl)
    · split
      · exact .inl rfl
      · exact .inr (.inl rfl)
  | succ k ih =>
    simp only [Stk.upTo]
    split
    · exact .inr (.inr rfl)
    · split
      · exact .inl rfl
      · exact ih _ _
theorem Stk.pairs_err (k : Nat) (r : Stk.R) (l : List (Nat × Nat)) (h : ∀ a ∈ l, a.1 ≠ 0) : Stk.err (Stk.pairs k r l).2 ∧ (Stk.pairs k r l).1.length ≤ l.length + k ∧ ∀ a ∈ (Stk.pairs k r l).1, a.1 ≠ 0 := by
  induction k generalizing r l with
  | zero =>
    simp only [Stk.pairs]
    split
    · exact ⟨.inr (.inr rfl), by simp, by simp⟩
    · split
      · exact ⟨.inl rfl, by simp, h⟩
      · exact ⟨.inr (.inl rfl), by simp, by simp⟩
  | succ k ih =>
    simp only [Stk.pairs]
    split
    · exact ⟨.inr (.inr rfl), by simp, by simp⟩
    · split
      · exact ⟨.inl rfl, by simp, h⟩
      · rename_i h2
        obtain ⟨a, b, c⟩ := ih (Stk.next (Stk.next r).2).2 (l ++ [((Stk.next r).1, (Stk.next (Stk.next r).2).1)]) (by
          intro x hx
          rcases List.mem_append.1 hx with hx | hx
          · exact h x hx
          · rw [List.mem_singleton] at hx
            subst hx
            exact h2)
        refine ⟨a, ?_, c⟩
        simp only [List.length_append, List.length_cons, List.length_nil] at b
        omega
theorem Stk.vecR_err (r : Stk.R) : Stk.err (Stk.vecR r).2.2.2 ∧ (Stk.vecR r).2.2.1.length ≤ 17 ∧ ∀ a ∈ (Stk.vecR r).2.2.1, a.1 ≠ 0 := by
  have hU := Stk.upTo_err 32 (Stk.next (Stk.takeN (Stk.next r).1 (Stk.next r).2 []).2).2 []
  have hP := Stk.pairs_err 17 (Stk.upTo 32 (Stk.next (Stk.takeN (Stk.next r).1 (Stk.next r).2 []).2).2 []).2 [] (fun a ha => by cases ha)
  unfold Stk.vecR
  generalize Stk.pairs 17 (Stk.upTo 32 (Stk.next (Stk.takeN (Stk.next r).1 (Stk.next r).2 []).2).2 []).2 [] = P at *
  generalize Stk.upTo 32 (Stk.next (Stk.takeN (Stk.next r).1 (Stk.next r).2 []).2).2 [] = U at *
  generalize Stk.takeN (Stk.next r).1 (Stk.next r).2 [] = T at *
  rw [List.length_nil, Nat.zero_add] at hP
  obtain ⟨p1, p2, p3⟩ := hP
  split
  · exact ⟨.inr (.inl rfl), Nat.zero_le _, fun a ha => by cases ha⟩
  · split
    · exact ⟨.inr (.inr rfl), Nat.zero_le _, fun a ha => by cases ha⟩
    · split
      · exact ⟨hU, Nat.zero_le _, fun a ha => by cases ha⟩
      · split
        · exact ⟨p1, Nat.zero_le _, fun a ha => by cases ha⟩
        · exact ⟨.inl rfl, p2, p3⟩

def Stk.good (b : List UInt8) (s : ByteArray) : Prop := s.size ≤ 256 ∧ ∃ i, Stk.at0 b s i
theorem Stk.text1_err (b : List UInt8) (sp a : Nat) : Stk.err (Stk.text1 b sp a).2 ∧ ((Stk.text1 b sp a).2 = 0 → Stk.good b ⟨(Stk.text1 b sp a).1.toArray⟩) := by
  unfold Stk.text1
  split
  · exact ⟨.inr (.inr rfl), fun h => by cases h⟩
  · split
    · exact ⟨.inr (.inr rfl), fun h => by cases h⟩
    · split
      · exact ⟨.inr (.inl rfl), fun h => by cases h⟩
      · rename_i h1 h2 h3
        refine ⟨.inl rfl, fun _ => ?_⟩
        obtain ⟨o, ho⟩ : ∃ o : Nat, Lib.indexByte (b.drop (a - sp)) 0 = o := ⟨(Lib.indexByte (b.drop (a - sp)) 0).toNat, by omega⟩
        obtain ⟨h4, -⟩ := Lib.indexByte_some ho
        rw [ho] at h3 ⊢
        rw [Int.toNat_natCast]
        have hlt := (List.getElem?_eq_some_iff.1 h4).1
        rw [List.length_drop] at hlt
        have hsz : (⟨((b.drop (a - sp)).take o).toArray⟩ : ByteArray).size = o := by
          show ((b.drop (a - sp)).take o).toArray.size = o
          simp
          omega
        refine ⟨by rw [hsz]; omega, a - sp, by rw [hsz]; omega, ?_, by rw [hsz]⟩
        rw [hsz]
        rw [List.getElem?_drop] at h4
        exact h4
theorem Stk.textsR_err (b : List UInt8) (sp : Nat) (l : List Nat) (out : List ByteArray) (h : ∀ s ∈ out, Stk.good b s) : Stk.err (Stk.textsR b sp l out).2 ∧ (Stk.textsR b sp l out).1.length ≤ out.length + l.length ∧ ∀ s ∈ (Stk.textsR b sp l out).1, Stk.good b s := by
  induction l generalizing out with
  | nil => exact ⟨.inl rfl, by simp [Stk.textsR], h⟩
  | cons a r ih =>
    obtain ⟨h1, h2⟩ := Stk.text1_err b sp a
    simp only [Stk.textsR]
    split
    · exact ⟨h1, by simp, by simp⟩
    · rename_i h3
      obtain ⟨x, y, z⟩ := ih (out ++ [⟨(Stk.text1 b sp a).1.toArray⟩]) (by
        intro s hs
        rcases List.mem_append.1 hs with hs | hs
        · exact h s hs
        · rw [List.mem_singleton] at hs
          subst hs
          exact h2 (by omega))
      refine ⟨x, ?_, z⟩
      simp only [List.length_append, List.length_cons, List.length_nil] at y ⊢
      omega
/-- What is read: a refusal with nothing, or all within the limits. -/
structure Stk.Tells (b : List UInt8) (v : List ByteArray × List ByteArray × List (Nat × Nat) × Int) : Prop where
  l : v.1.length ≤ 32
  m : v.2.1.length ≤ 32
  x : v.2.2.1.length ≤ 17
  gl : ∀ s ∈ v.1, Stk.good b s
  gm : ∀ s ∈ v.2.1, Stk.good b s
  k : ∀ a ∈ v.2.2.1, a.1 ≠ 0
theorem Stk.tells (b : List UInt8) (sp : Nat) : (∃ x, (x = 12 ∨ x = 25) ∧ Stk.readR b sp = ([], [], [], x)) ∨ ((Stk.readR b sp).2.2.2 = 0 ∧ Stk.Tells b (Stk.readR b sp)) := by
  obtain ⟨v1, v2, v3⟩ := Stk.vecR_err ⟨b, false⟩
  obtain ⟨o1, o2, o3, o4⟩ := Stk.vecR_ok ⟨b, false⟩ rfl
  obtain ⟨a1, a2, a3⟩ := Stk.textsR_err b sp (Stk.vecR ⟨b, false⟩).1 [] (by simp)
  obtain ⟨e1, e2, e3⟩ := Stk.textsR_err b sp (Stk.vecR ⟨b, false⟩).2.1 [] (by simp)
  have hne : ∀ {x : Int}, Stk.err x → x ≠ 0 → x = 12 ∨ x = 25 := fun h1 h2 => by rcases h1 with h | h | h; exact absurd h h2; exact .inl h; exact .inr h
  unfold Stk.readR
  split
  · exact .inl ⟨25, .inr rfl, rfl⟩
  · split
    · exact .inl ⟨_, hne v1 (by assumption), rfl⟩
    · split
      · exact .inl ⟨_, hne a1 (by assumption), rfl⟩
      · split
        · exact .inl ⟨_, hne e1 (by assumption), rfl⟩
        · refine .inr ⟨rfl, ⟨?_, ?_, v2, a3, e3, v3⟩⟩
          · simp only [List.length_nil, Nat.zero_add] at a2; simp only; omega
          · simp only [List.length_nil, Nat.zero_add] at e2; simp only; omega
end Go.Proofs.Ytmoenjmhogmcoaa
namespace Go.Proofs.Ytmoenjmhogmcoaa
set_option linter.unusedVariables false
set_option linter.unusedSimpArgs false
open Go.RowKit

theorem Stk.next_app {x : Nat} (r : List Nat) (t : List UInt8) (g : Bool) (h : x < 18446744073709551616) : Stk.next ⟨Stk.nums (x :: r) ++ t, g⟩ = (x, ⟨Stk.nums r ++ t, g⟩) := by
  have hl : (Cl.lb x 8).length = 8 := Cl.lb_len 8 x
  unfold Stk.next
  simp only [Stk.nums, List.append_assoc]
  rw [if_neg (by simp [hl]), List.take_left' hl, List.drop_left' hl, Cl.le_lb 8 x (by omega)]
theorem Stk.takeN_app (l r : List Nat) (t : List UInt8) (acc : List Nat) (h : ∀ x ∈ l, x < 18446744073709551616) : Stk.takeN l.length ⟨Stk.nums (l ++ r) ++ t, false⟩ acc = (acc ++ l, ⟨Stk.nums r ++ t, false⟩) := by
  induction l generalizing acc with
  | nil => simp [Stk.takeN]
  | cons x l ih =>
    simp only [List.length_cons, Stk.takeN, List.cons_append]
    rw [Stk.next_app _ _ _ (h x (.head _))]
    simp only
    rw [ih _ (fun y hy => h y (.tail _ hy))]
    simp
theorem Stk.upTo_app (l r : List Nat) (t : List UInt8) (acc : List Nat) (k : Nat) (hk : l.length ≤ k) (h : ∀ x ∈ l, x < 18446744073709551616 ∧ x ≠ 0) : Stk.upTo k ⟨Stk.nums (l ++ 0 :: r) ++ t, false⟩ acc = ((acc ++ l, 0), ⟨Stk.nums r ++ t, false⟩) := by
  induction l generalizing acc k with
  | nil =>
    simp only [List.nil_append, List.append_nil]
    cases k <;> (simp only [Stk.upTo]; rw [Stk.next_app _ _ _ (by omega)]; simp)
  | cons x l ih =>
    cases k with
    | zero => simp at hk
    | succ k =>
      simp only [List.cons_append, Stk.upTo]
      rw [Stk.next_app _ _ _ (h x (.head _)).1]
      simp only [Bool.false_eq_true, if_false]
      rw [if_neg (h x (.head _)).2, ih _ _ (by simpa using hk) (fun y hy => h y (.tail _ hy))]
      simp
theorem Stk.pairs_app (l : List (Nat × Nat)) (r : List Nat) (t : List UInt8) (acc : List (Nat × Nat)) (k : Nat) (hk : l.length ≤ k) (h : ∀ a ∈ l, a.1 < 18446744073709551616 ∧ a.1 ≠ 0 ∧ a.2 < 18446744073709551616) : Stk.pairs k ⟨Stk.nums (Stk.auxN l ++ 0 :: 0 :: r) ++ t, false⟩ acc = (acc ++ l, 0) := by
  induction l generalizing acc k with
  | nil =>
    simp only [Stk.auxN, List.nil_append, List.append_nil]
    cases k <;> (simp only [Stk.pairs]; rw [Stk.next_app _ _ _ (by omega)]; simp only []; rw [Stk.next_app _ _ _ (by omega)]; simp)
  | cons a l ih =>
    cases k with
    | zero => simp at hk
    | succ k =>
      obtain ⟨h1, h2, h3⟩ := h a (.head _)
      have e : Stk.auxN (a :: l) ++ 0 :: 0 :: r = a.1 :: a.2 :: (Stk.auxN l ++ 0 :: 0 :: r) := rfl
      rw [e]
      simp only [Stk.pairs, Stk.next_app _ _ _ h1, Stk.next_app _ _ _ h3, Bool.false_eq_true, if_false]
      rw [if_neg h2, ih _ _ (by simpa using hk) (fun y hy => h y (.tail _ hy))]
      simp
theorem Stk.vecR_app (A E : List Nat) (X : List (Nat × Nat)) (t : List UInt8) (hA : A.length ≤ 32) (hE : E.length ≤ 32) (hX : X.length ≤ 17) (h1 : ∀ x ∈ A, x < 18446744073709551616) (h2 : ∀ x ∈ E, x < 18446744073709551616 ∧ x ≠ 0) (h3 : ∀ a ∈ X, a.1 < 18446744073709551616 ∧ a.1 ≠ 0 ∧ a.2 < 18446744073709551616) :
    Stk.vecR ⟨Stk.nums (A.length :: (A ++ 0 :: (E ++ 0 :: (Stk.auxN X ++ [0, 0])))) ++ t, false⟩ = (A, E, X, 0) := by
  have e1 := Stk.next_app (x := A.length) (A ++ 0 :: (E ++ 0 :: (Stk.auxN X ++ [0, 0]))) t false (by omega)
  have e2 := Stk.takeN_app A (0 :: (E ++ 0 :: (Stk.auxN X ++ [0, 0]))) t [] h1
  have e3 := Stk.next_app (x := 0) (E ++ 0 :: (Stk.auxN X ++ [0, 0])) t false (by omega)
  have e4 := Stk.upTo_app E (Stk.auxN X ++ [0, 0]) t [] 32 hE h2
  have e5 := Stk.pairs_app X [] t [] 17 hX h3
  simp only [List.nil_append] at e2 e4 e5
  unfold Stk.vecR
  rw [e1]
  simp only []
  rw [e2]
  simp only []
  rw [e3]
  simp only []
  rw [e4]
  simp only []
  rw [e5]
  rw [if_neg (by simp; omega), if_neg (by simp), if_neg (by simp), if_neg (by simp)]

theorem Lib_ib_app (l t : List UInt8) (h : l.contains 0 = false) : Lib.indexByte (l ++ 0 :: t) 0 = l.length := by
  have hat : (l ++ 0 :: t)[l.length]? = some 0 := by simp
  have hge := Lib.indexByte_ge (l ++ 0 :: t) 0
  have hcase : Lib.indexByte (l ++ 0 :: t) 0 = -1 ∨ ∃ o : Nat, Lib.indexByte (l ++ 0 :: t) 0 = o := by
    by_cases hh : Lib.indexByte (l ++ 0 :: t) 0 = -1
    · exact .inl hh
    · exact .inr ⟨(Lib.indexByte (l ++ 0 :: t) 0).toNat, by omega⟩
  rcases hcase with h1 | ⟨o, h1⟩
  · exact absurd hat (Lib.indexByte_none h1 _)
  · obtain ⟨h2, h3⟩ := Lib.indexByte_some h1
    rw [h1]
    rcases Nat.lt_trichotomy o l.length with h4 | h4 | h4
    · rw [List.getElem?_append_left h4] at h2
      have hm := List.mem_of_getElem? h2
      simp at h
      exact absurd hm h
    · rw [h4]
    · exact absurd hat (h3 _ h4)
theorem Stk.text1_app (pre t : List UInt8) (s : ByteArray) (sp : Nat) (hz : Cl.zeroT s = false) (hs : s.size ≤ 256) : Stk.text1 (pre ++ (Stk.tx s ++ t)) sp (sp + pre.length) = (s.data.toList, 0) := by
  have hd : (pre ++ (Stk.tx s ++ t)).drop (sp + pre.length - sp) = s.data.toList ++ 0 :: t := by
    rw [show sp + pre.length - sp = pre.length from by omega, List.drop_left]
    simp [Stk.tx]
  have hi := Lib_ib_app s.data.toList t hz
  have hsz : s.data.toList.length = s.size := by simp
  unfold Stk.text1
  rw [hd, hi, hsz]
  rw [if_neg (by rw [List.length_append, List.length_append, Stk.tx_len]; omega), if_neg (by omega), if_neg (by omega)]
  rw [Int.toNat_natCast, ← hsz, List.take_left]
theorem Stk.textsR_app (l : List ByteArray) (pre post : List UInt8) (sp u : Nat) (out : List ByteArray) (hu : post.length = u) (hsp : sp + (pre ++ (Stk.txs l ++ post)).length = Stk.top) (h : ∀ s ∈ l, Cl.zeroT s = false ∧ s.size ≤ 256) :
    Stk.textsR (pre ++ (Stk.txs l ++ post)) sp (Stk.adr u l) out = (out ++ l, 0) := by
  induction l generalizing pre out with
  | nil => simp [Stk.adr, Stk.textsR]
  | cons s r ih =>
    obtain ⟨h1, h2⟩ := h s (.head _)
    have ea : Stk.top - ((Stk.txs (s :: r)).length + u) = sp + pre.length := by
      rw [← hsp, List.length_append, List.length_append, hu]
      omega
    have eb : pre ++ (Stk.txs (s :: r) ++ post) = pre ++ (Stk.tx s ++ (Stk.txs r ++ post)) := by simp [Stk.txs]
    have ec : pre ++ (Stk.tx s ++ (Stk.txs r ++ post)) = (pre ++ Stk.tx s) ++ (Stk.txs r ++ post) := by simp
    simp only [Stk.adr, Stk.textsR]
    rw [ea, eb, Stk.text1_app _ _ _ _ h1 h2]
    simp only [ne_eq, not_true, if_false]
    rw [ec, ih (pre ++ Stk.tx s) (out ++ [(⟨s.data.toList.toArray⟩ : ByteArray)]) (by rw [← ec, ← eb]; exact hsp) (fun x hx => h x (.tail _ hx))]
    simp

theorem envCk_zero {l : List ByteArray} (h : Cl.envCk l = 0) : ∀ s ∈ l, Cl.zeroT s = false ∧ s.size ≤ 256 := by
  obtain ⟨_, h2⟩ := Cl.envCk_small h
  refine fun s hs => ⟨?_, h2 s hs⟩
  unfold Cl.envCk at h
  split at h
  · cases h
  · split at h
    · cases h
    · split at h
      · cases h
      · rename_i h3
        rw [Bool.not_eq_true, List.any_eq_false] at h3
        simpa using h3 s hs
theorem Stk.whole_len (argv env : List ByteArray) (aux : List (Nat × Nat)) (path : ByteArray) : (Stk.whole argv env aux path).length % 16 = 0 := by
  unfold Stk.whole
  rw [List.length_append, List.length_append, List.length_replicate]
  unfold Stk.pad
  omega
/-- What was laid is read again. -/
theorem Stk.read_lay {argv env : List ByteArray} {aux : List (Nat × Nat)} {path : ByteArray} (h : Stk.Ok argv env aux path) (hx : ∀ a ∈ aux, a.1 < 18446744073709551616 ∧ a.2 < 18446744073709551616) (hl : (Stk.whole argv env aux path).length ≤ 16384) :
    Stk.readR (Stk.whole argv env aux path) (Stk.top - (Stk.whole argv env aux path).length) = (argv, env, aux ++ [(31, Stk.top - Stk.ue path)], 0) := by
  obtain ⟨hs1, hs2, hs3, hs4⟩ := h.small
  have hmod := Stk.whole_len argv env aux path
  have hT : Stk.top = 140737488351232 := rfl
  obtain ⟨N, hN⟩ : ∃ N, (Stk.whole argv env aux path).length = N := ⟨_, rfl⟩
  have hsp : Stk.top - N + (Stk.whole argv env aux path).length = Stk.top := by omega
  obtain ⟨sp, hspe⟩ : ∃ sp, Stk.top - N = sp := ⟨_, rfl⟩
  rw [hN, hspe]
  rw [hspe] at hsp
  obtain ⟨P, hP⟩ : ∃ P, List.replicate (Stk.pad ((Stk.nums (Stk.vec argv env aux path)).length + (Stk.txt argv env path).length)) (0 : UInt8) = P := ⟨_, rfl⟩
  have hw : Stk.whole argv env aux path = Stk.nums (Stk.vec argv env aux path) ++ (P ++ Stk.txt argv env path) := by unfold Stk.whole; rw [hP, List.append_assoc]
  have hvec : Stk.vec argv env aux path = (Stk.adr (Stk.ua env path) argv).length :: (Stk.adr (Stk.ua env path) argv ++ 0 :: (Stk.adr (Stk.ue path) env ++ 0 :: (Stk.auxN (aux ++ [(31, Stk.top - Stk.ue path)]) ++ [0, 0]))) := by
    unfold Stk.vec
    rw [Stk.auxN_app, Stk.adr_len]
    simp [Stk.auxN]
  have hue : Stk.ue path ≤ 300 := by unfold Stk.ue; have := h.p; omega
  have hE0 : ∀ x ∈ Stk.adr (Stk.ue path) env, x < 18446744073709551616 ∧ x ≠ 0 := by
    intro x hx
    refine ⟨Stk.adr_lt _ _ x hx, ?_⟩
    have : ∀ (l : List ByteArray) (u : Nat), (Stk.txs l).length + u < Stk.top → ∀ x ∈ Stk.adr u l, x ≠ 0 := by
      intro l
      induction l with
      | nil => intro u _ x hx; cases hx
      | cons s r ih =>
        intro u hu x hx
        simp only [Stk.adr, List.mem_cons] at hx
        rcases hx with rfl | hx
        · omega
        · refine ih u ?_ x hx
          simp only [Stk.txs, List.length_append] at hu
          omega
    exact this env _ (by omega) x hx
  have hX3 : ∀ a ∈ aux ++ [(31, Stk.top - Stk.ue path)], a.1 < 18446744073709551616 ∧ a.1 ≠ 0 ∧ a.2 < 18446744073709551616 := by
    intro a ha
    rcases List.mem_append.1 ha with ha | ha
    · refine ⟨(hx a ha).1, ?_, (hx a ha).2⟩
      have := (List.any_eq_false.1 h.b) a ha
      simp [Stk.bad] at this
      exact this.1
    · rw [List.mem_singleton] at ha
      subst ha
      exact ⟨by simp, by simp, by simp only; omega⟩
  have hv := Stk.vecR_app (Stk.adr (Stk.ua env path) argv) (Stk.adr (Stk.ue path) env) (aux ++ [(31, Stk.top - Stk.ue path)]) (P ++ Stk.txt argv env path) (by rw [Stk.adr_len]; exact hs1) (by rw [Stk.adr_len]; exact hs2) (by have := h.x; simp; omega) (Stk.adr_lt _ _) hE0 hX3
  rw [← hvec, ← hw] at hv
  have t1 := Stk.textsR_app argv (Stk.nums (Stk.vec argv env aux path) ++ P) (Stk.txs env ++ Stk.tail path) sp (Stk.ua env path) [] (by rw [List.length_append, Stk.tail_len]; rfl)
  have t2 := Stk.textsR_app env (Stk.nums (Stk.vec argv env aux path) ++ P ++ Stk.txs argv) (Stk.tail path) sp (Stk.ue path) [] (by rw [Stk.tail_len])
  have e1 : (Stk.nums (Stk.vec argv env aux path) ++ P) ++ (Stk.txs argv ++ (Stk.txs env ++ Stk.tail path)) = Stk.whole argv env aux path := by rw [hw]; unfold Stk.txt; simp
  have e2 : (Stk.nums (Stk.vec argv env aux path) ++ P ++ Stk.txs argv) ++ (Stk.txs env ++ Stk.tail path) = Stk.whole argv env aux path := by rw [hw]; unfold Stk.txt; simp
  rw [e1] at t1
  rw [e2] at t2
  replace t1 := t1 hsp (envCk_zero h.a)
  replace t2 := t2 hsp (envCk_zero h.e)
  rw [List.nil_append] at t1 t2
  unfold Stk.readR
  rw [if_neg (by omega), hv]
  simp only []
  rw [t1, t2]
  simp

/-- The path stands in what was laid. -/
theorem Stk.path_at (argv env : List ByteArray) (aux : List (Nat × Nat)) (path : ByteArray) :
    ∃ pre, Stk.whole argv env aux path = pre ++ (path.data.toList ++ List.replicate 9 0) ∧ pre.length + Stk.ue path = (Stk.whole argv env aux path).length := by
  obtain ⟨P, hP⟩ : ∃ P, List.replicate (Stk.pad ((Stk.nums (Stk.vec argv env aux path)).length + (Stk.txt argv env path).length)) (0 : UInt8) = P := ⟨_, rfl⟩
  have hw : Stk.whole argv env aux path = (Stk.nums (Stk.vec argv env aux path) ++ P ++ Stk.txs argv ++ Stk.txs env) ++ Stk.tail path := by unfold Stk.whole; rw [hP]; unfold Stk.txt; simp
  refine ⟨Stk.nums (Stk.vec argv env aux path) ++ P ++ Stk.txs argv ++ Stk.txs env, ?_, ?_⟩
  · rw [hw]
    congr 1
    unfold Stk.tail Stk.tx
    rw [List.append_assoc]
    rfl
  · rw [hw]
    simp only [List.length_append, Stk.tail_len]
end Go.Proofs.Ytmoenjmhogmcoaa
namespace Go.Proofs.Ytmoenjmhogmcoaa
set_option linter.unusedVariables false
set_option linter.unusedSimpArgs false
open Go.RowKit

/-- What is not large. -/
structure NotBig (argv env : List ByteArray) (n3 : Nat) (path : ByteArray) : Prop where
  a1 : argv.length ≤ 65536
  a2 : ∀ x ∈ argv, x.size ≤ 65536
  e1 : env.length ≤ 65536
  e2 : ∀ x ∈ env, x.size ≤ 65536
  x : n3 ≤ 1024
  p : path.size ≤ 65536
/-- A slice's header. -/
structure Stk.Sl where
  A : Option Addr
  n : Nat
  c : Nat
def begunV (x y z : Stk.Sl) (path : ByteArray) : Array Value := #[.slice x.A x.n x.c, .slice y.A y.n y.c, .slice z.A z.n z.c, .string path]

set_option maxRecDepth 100000 in
set_option maxHeartbeats 1000000 in
theorem blarge_any (x y z : Stk.Sl) (argv env : List ByteArray) (path : ByteArray) (B : Nat) (w : World) (h1 : Rd w B 1 x.A x.n (argv.map Value.string)) (h2 : Rd w B 1 y.A y.n (env.map Value.string)) (hB : B ≤ w.heap.size) (hs1 : ∀ s ∈ argv, s.size ≤ maxLen) (hs2 : ∀ s ∈ env, s.size ≤ maxLen) (hl1 : x.n ≤ maxLen) (hl2 : y.n ≤ maxLen) (hl3 : z.n ≤ maxLen) (hp : path.size ≤ maxLen) :
    Calls Try.prog 6 #[.agg (begunV x y z path)] w fun e w' => ∃ r, e = .returned (.bool r) ∧ Below w.heap.size w w' ∧ (r = false → NotBig argv env z.n path) := by
  have hn1 : argv.length = x.n := by simpa using h1.len1
  have hn2 : env.length = y.n := by simpa using h2.len1
  have hbW : Below w.heap.size w (w.alloc (.cells (begunV x y z path) 25)) := (Below.refl _ _).alloc (Nat.le_refl _) _
  have K1 := hide (large_any x.A x.n x.c B argv _ (h1.below (hbW.mono hB)) hs1 hl1)
  have K2 := hide (large_any y.A y.n y.c B env _ (h2.below (hbW.mono hB)) hs2 hl2)
  have hblk := Blk.new w 25 [.slice x.A x.n x.c, .slice y.A y.n y.c, .slice z.A z.n z.c, .string path]
  have v0 := hblk.cell (i := 0) rfl
  have v1 := hblk.cell (i := 1) rfl
  have v2 := hblk.cell (i := 2) rfl
  have v3 := hblk.cell (i := 3) rfl
  have Hb := hide hbW
  have Hn := hide (And.intro hn1 hn2)
  clear hbW hn1 hn2 hblk h1 h2
  unfold maxLen at hl3 hp
  unfold begunV at *
  go_enter Try.func6, Try.ntmps6
  go_wp2_with fail
  refine (unhide K1).mono ?_
  rintro e w1 ⟨r1, rfl, rfl, h1⟩
  have H1 := hide h1
  clear h1 K1
  cases r1
  case true =>
    clear K2
    go_wp2_with fail
    go_ret
    exact ⟨true, rfl, unhide Hb, fun h => by cases h⟩
  go_wp2_with fail
  refine (unhide K2).mono ?_
  rintro e w1 ⟨r2, rfl, rfl, h2⟩
  have H2 := hide h2
  clear h2 K2
  cases r2
  case true =>
    go_wp2_with fail
    go_ret
    exact ⟨true, rfl, unhide Hb, fun h => by cases h⟩
  by_cases hbb : z.n ≤ 1024
  case neg =>
    have h4 : (1024 : Int) < (z.n : Int) := by omega
    go_wp2_with fail
    go_ret
    exact ⟨_, rfl, unhide Hb, fun h => by first | (simp at h; done) | (simp at h; omega)⟩
  have h4 : ¬ (1024 : Int) < (z.n : Int) := by omega
  by_cases hpp : path.size ≤ 65536
  case neg =>
    have h3 : (65536 : Int) < (path.size : Int) := by omega
    go_wp2_with fail
    go_ret
    exact ⟨_, rfl, unhide Hb, fun h => by first | (simp at h; done) | (simp at h; omega)⟩
  have h3 : ¬ (65536 : Int) < (path.size : Int) := by omega
  go_wp2_with fail
  go_ret
  refine ⟨_, rfl, unhide Hb, fun _ => ?_⟩
  obtain ⟨n1, n2⟩ := unhide Hn
  have g1 := unhide H1 (by first | trivial | rfl)
  have g2 := unhide H2 (by first | trivial | rfl)
  exact ⟨by have := g1.1; omega, g1.2, by have := g2.1; omega, g2.2, hbb, hpp⟩
end Go.Proofs.Ytmoenjmhogmcoaa
namespace Go.Proofs.Ytmoenjmhogmcoaa
theorem own_cap {w : World} {base : Nat} {e : TypeId} {size n c : Nat} {A : Option Addr} {xs : List Value} (h : w.ownsRow base e size (.slice A n c) n xs) : n ≤ c := by
  rcases h.2 with ⟨h0, h1⟩ | ⟨g, cap, cur, hv, hb, hg, hnc, _⟩
  · omega
  · injection hv with _ _ h3
    omega
end Go.Proofs.Ytmoenjmhogmcoaa
namespace Go.Proofs.Ytmoenjmhogmcoaa
set_option linter.unusedVariables false
set_option linter.unusedSimpArgs false
open Go.RowKit

theorem anchor_may : Stk.mayE [⟨#[97]⟩] [] [(6, 4096)] ⟨#[47, 97]⟩ = 0 := by decide +kernel
theorem anchor_wlen : (Stk.whole [⟨#[97]⟩] [] [(6, 4096)] ⟨#[47, 97]⟩).length = 96 := by decide +kernel
theorem anchor_lay : Stk.lay [⟨#[97]⟩] [] [(6, 4096)] ⟨#[47, 97]⟩ = (Stk.whole [⟨#[97]⟩] [] [(6, 4096)] ⟨#[47, 97]⟩, 140737488351136, 0) := by
  unfold Stk.lay
  rw [anchor_may, if_neg (by simp), anchor_wlen, if_neg (by omega)]
  rfl
theorem anchor_back : Stk.readR (Stk.whole [⟨#[97]⟩] [] [(6, 4096)] ⟨#[47, 97]⟩) 140737488351136 = ([⟨#[97]⟩], [], [(6, 4096), (31, Stk.top - Stk.ue ⟨#[47, 97]⟩)], 0) := by
  have h := Stk.read_lay (Stk.may_ok anchor_may) (by intro a ha; rw [List.mem_singleton] at ha; subst ha; exact ⟨by simp, by simp⟩) (by rw [anchor_wlen]; omega)
  rw [anchor_wlen] at h
  exact h

set_option maxRecDepth 100000 in
set_option maxHeartbeats 2000000 in
theorem works_any (w : World) : Calls Try.prog 7 #[] w fun e w' => e = .returned (.bool true) ∧ Below w.heap.size w w' := by
  obtain ⟨W, hW⟩ : ∃ W, W = (w.alloc (.cells #[.string ⟨#[97]⟩] 9)).alloc (.cells #[.int .u64 6, .int .u64 4096] 43) := ⟨_, rfl⟩
  have hbW : Below w.heap.size w W := by rw [hW]; exact ((Below.refl _ _).alloc (Nat.le_refl _) _).alloc (by simp) _
  have hszW : W.heap.size = w.heap.size + 2 := by rw [hW]; simp
  have hin : StkIn W W.heap.size (some ⟨w.heap.size, 0, none⟩) 1 [⟨#[97]⟩] none 0 [] (some ⟨w.heap.size + 1, 0, none⟩) 1 [(6, 4096)] := by
    refine ⟨?_, Rd.none_ _ _ _ _, ?_⟩
    · have h1 : Rd (w.alloc (.cells #[.string ⟨#[97]⟩] 9)) (w.heap.size + 1) 1 (some ⟨w.heap.size, 0, none⟩) 1 #[.string ⟨#[97]⟩].toList := Rd.row rfl
      have h2 := h1.alloc (by simp) (.cells #[.int .u64 6, .int .u64 4096] 43)
      rw [← hW] at h2
      exact h2.more (by omega)
    · have h1 : Rd ((w.alloc (.cells #[.string ⟨#[97]⟩] 9)).alloc (.cells #[.int .u64 6, .int .u64 4096] 43)) ((w.alloc (.cells #[.string ⟨#[97]⟩] 9)).heap.size + 1) 2 (some ⟨(w.alloc (.cells #[.string ⟨#[97]⟩] 9)).heap.size, 0, none⟩) 1 #[.int .u64 6, .int .u64 4096].toList := Rd.row rfl
      rw [← hW] at h1
      have e : (w.alloc (.cells #[.string ⟨#[97]⟩] 9)).heap.size = w.heap.size + 1 := by simp
      rw [e] at h1
      exact h1.more (by omega)
  have K1 := slay_any (some ⟨w.heap.size, 0, none⟩) none (some ⟨w.heap.size + 1, 0, none⟩) 1 1 0 0 1 1 W.heap.size [⟨#[97]⟩] [] [(6, 4096)] ⟨#[47, 97]⟩ W hin (Nat.le_refl _) ⟨by simp, by simp; decide, by simp, by simp, by simp, by simp, by decide⟩
  rw [anchor_lay] at K1
  unfold LayEnd at K1
  simp only [anchor_wlen] at K1
  replace K1 := hide K1
  have HbW := hide hbW
  have hAl := hide anchor_back
  generalize Stk.whole [⟨#[97]⟩] [] [(6, 4096)] ⟨#[47, 97]⟩ = Wh at *
  clear hin hbW hszW
  have HW := hide hW
  subst hW
  clear HW
  go_enter Try.func7, Try.ntmps7
  go_wp2_with fail
  refine (unhide K1).mono ?_
  rintro e w1 ⟨A1, c1, rfl, ho1, hb1⟩
  have hc1 := own_cap ho1
  have K2 := sread_any A1 96 c1 140737488351136 Wh w1 w1.heap.size (Rd.of_own ho1) (Nat.le_refl _) (by omega) hc1 (by omega)
  rw [unhide hAl] at K2
  replace K2 := hide K2
  have hbw1 := (unhide HbW).trans (hb1.mono (unhide HbW).size)
  have Hb1 := hide hbw1
  clear ho1 hb1 K1 HbW hbw1
  go_wp2_with fail
  refine (unhide K2).mono ?_
  rintro e w2 ⟨A2, c2, A3, c3, A4, c4, rfl, ho2, ho3, ho4, hb2⟩
  simp only at ho2 ho3 ho4 ⊢
  obtain ⟨g2, o2, rfl, _, x1⟩ := (Rd.of_own ho2).at_ (k := 0) (u := .string ⟨#[97]⟩) rfl
  obtain ⟨g4, o4, rfl, _, y1, y2⟩ := (Rd.of_own ho4).aux (k := 0) (a := (6, 4096)) rfl
  have hq97 : ((⟨#[97]⟩ : ByteArray).toList == (⟨#[97]⟩ : ByteArray).toList) = true := beq_self_eq_true _
  have Hb2 := hide ((unhide Hb1).trans (hb2.mono (unhide Hb1).size))
  clear ho2 ho3 ho4 hb2 K2 Hb1 hAl
  rw [Nat.add_zero] at x1
  rw [Nat.zero_mul, Nat.add_zero] at y1 y2
  go_wp2_with fail
  go_ret
  exact ⟨rfl, unhide Hb2⟩
end Go.Proofs.Ytmoenjmhogmcoaa
namespace Go.Proofs.Ytmoenjmhogmcoaa
set_option linter.unusedVariables false
set_option linter.unusedSimpArgs false
open Go.RowKit

theorem within_yes (A : Option Addr) (m c B : Nat) (b : List UInt8) (s : ByteArray) (w : World) (hb : Rd w B 1 A m (bys b)) (hB : B ≤ w.heap.size) (hm : m ≤ 4294967296) (hmc : m ≤ c) (hs : Stk.good b s) :
    Calls Try.prog 17 #[.slice A m c, .string s] w fun e w' => e = .returned (.bool true) ∧ Below w.heap.size w w' := by
  refine (within_any A m c B b s w hb hB hm hmc (by have := hs.1; omega)).mono ?_
  rintro e w' ⟨r, rfl, hb, h⟩
  rw [h hs.2]
  exact ⟨rfl, hb⟩
theorem strs_one (l : List ByteArray) : ∀ u ∈ l.map Value.string, u.oneCell' = true := by
  intro u hu
  obtain ⟨s, _, rfl⟩ := List.mem_map.1 hu
  rfl

set_option maxRecDepth 100000 in
set_option maxHeartbeats 4000000 in
theorem stackTells_walk (A : Option Addr) (m c : Nat) (b : List UInt8) (sp : Nat) (w : World) (hb : Rd w w.heap.size 1 A m (bys b)) (hmc : m ≤ c) (hm : m ≤ maxLen) (hsp : sp < 18446744073709551616) :
    Calls Try.prog 5 #[.slice A m c, .int .u64 sp] w fun e w' => e = .returned (.bool true) ∧ Below w.heap.size w w' := by
  have KW := hide works_any
  unfold maxLen at hm
  by_cases hbig : 65536 < m
  · have hbig' : (65536 : Int) < (m : Int) := by omega
    clear hb
    go_enter Try.func5, Try.ntmps5
    go_wp2_with (go_at_call 7; refine ((unhide KW) _).mono ?_; rintro e w6 ⟨rfl, hb6⟩)
    go_ret
    exact ⟨rfl, hb6⟩
  have hbig' : ¬ (65536 : Int) < (m : Int) := by omega
  have K1 := sread_any A m c sp b w w.heap.size hb (Nat.le_refl _) (by omega) hmc hsp
  have Hb := hide hb
  rcases Stk.tells b sp with ⟨x, hx, hv⟩ | ⟨h0, ht⟩
  · rw [hv] at K1
    replace K1 := hide K1
    clear hv hb
    rcases hx with rfl | rfl
    all_goals
      go_enter Try.func5, Try.ntmps5
      go_wp2_with fail
      refine (unhide K1).mono ?_
      rintro e w1 ⟨A1, c1, A2, c2, A3, c3, rfl, -, -, -, hb1⟩
      simp only [List.length_nil]
      have Hb1 := hide hb1
      clear hb1 K1
      go_wp2_with fail
      refine ((unhide KW) _).mono ?_
      rintro e w2 ⟨rfl, hb2⟩
      have Hb2 := hide ((unhide Hb1).trans (hb2.mono (unhide Hb1).size))
      clear hb2
      go_wp2_with fail
      go_ret
      exact ⟨rfl, unhide Hb2⟩
  · generalize Stk.readR b sp = v at *
    obtain ⟨l, mm, x, ev⟩ := v
    simp only at h0
    subst h0
    obtain ⟨t1, t2, t3, g1, g2, g3⟩ := ht
    simp only at t1 t2 t3 g1 g2 g3
    obtain ⟨n1, hn1⟩ : ∃ n1, l.length = n1 := ⟨_, rfl⟩
    obtain ⟨n2, hn2⟩ : ∃ n2, mm.length = n2 := ⟨_, rfl⟩
    obtain ⟨n3, hn3⟩ : ∃ n3, x.length = n3 := ⟨_, rfl⟩
    unfold ReadEnd at K1
    simp only [hn1, hn2, hn3] at K1
    replace K1 := hide K1
    rw [hn1] at t1
    rw [hn2] at t2
    rw [hn3] at t3
    have t1' : ¬ (32 : Int) < (n1 : Int) := by omega
    have t2' : ¬ (32 : Int) < (n2 : Int) := by omega
    have t3' : ¬ (17 : Int) < (n3 : Int) := by omega
    have Hn := hide (And.intro hn1 (And.intro hn2 hn3))
    have Hall : Hid (∀ s ∈ l ++ mm, Stk.good b s) := hide (fun s hs => (List.mem_append.1 hs).elim (g1 s) (g2 s))
    have Hk := hide g3
    clear hb hn1 hn2 hn3 g1 g2 g3
    go_enter Try.func5, Try.ntmps5
    go_wp2_with fail
    refine (unhide K1).mono ?_
    rintro e w1 ⟨A1, c1, A2, c2, A3, c3, rfl, ho1, ho2, ho3, hb1⟩
    have Ho1 := hide ho1
    have Ho2 := hide ho2
    have Ho3 := hide ho3
    have Hb1 := hide hb1
    clear ho1 ho2 ho3 hb1 K1
    go_wp2_with (first
      | (at_builtin; refine wpList_app strTy rfl _ _ rfl w1.heap.size (.slice none 0 0) 0 [] rfl (World.ownsRow_nil _ _ _ _) w1.heap.size A1 n1 c1 (l.map Value.string) rfl (Rd.of_own (unhide Ho1)) (strs_one l) (by omega) (Nat.le_refl _) ?_; intro A5 c5 w5 ho5 hg5 hat5; have hb5 := (Below.refl w1.heap.size w1).grown hg5 (Nat.le_refl _) (fun k hk => by simp [Value.ownBlock] at hk); simp only [Nat.zero_add, List.nil_append] at ho5 ⊢; have Ho5 := hide ho5; have Hb5 := hide hb5; clear ho5 hb5 hg5 hat5)
      | (at_builtin; refine wpList_app strTy rfl _ _ rfl w1.heap.size (.slice A5 n1 c5) n1 (l.map Value.string) rfl (unhide Ho5) w1.heap.size A2 n2 c2 (mm.map Value.string) rfl (((Rd.of_own (unhide Ho2)).below (unhide Hb5))) (strs_one mm) (by omega) (unhide Hb5).size ?_; intro A6 c6 w6 ho6 hg6 hat6; have hb6 := (unhide Hb5).grown hg6 (unhide Hb5).size (fun k hk => ((unhide Ho5).lt k hk).1); rw [← List.map_append] at ho6; have Ho6 := hide ho6; have Hb6 := hide hb6; clear ho6 hb6 hg6 hat6))
    obtain ⟨N, hN⟩ : ∃ N, n1 + n2 = N := ⟨_, rfl⟩
    rw [hN]
    have Hrd : Hid (Rd w6 w6.heap.size 1 A6 N ((l ++ mm).map Value.string)) := hide (by have h := Rd.of_own (unhide Ho6); rw [hN] at h; exact h)
    have hlen : (l ++ mm).length = N := by rw [List.length_append, (unhide Hn).1, (unhide Hn).2.1]; exact hN
    have Hx : Hid (Rd w6 w1.heap.size 2 A3 n3 (auxC x)) := hide ((Rd.of_own (unhide Ho3)).below (unhide Hb6))
    have Hb6' := hide ((unhide Hb1).trans ((unhide Hb6).mono (unhide Hb1).size))
    have hsz6 := (unhide Hb6).size
    have hNb : N ≤ 64 := by omega
    have Hlen := hide hlen
    clear hlen hN Ho1 Ho2 Ho3 Ho5 Ho6 Hb5 Hb6
    generalize l ++ mm = L at *
    go_loopg [10] N (fun gk iv wr => ∃ k : Nat, gk = N - k ∧ k ≤ N ∧ iv = .int .i64 k ∧ Below w6.heap.size w6 wr)
    case atStart => exact ⟨0, by omega, by omega, rfl, Below.refl _ _⟩
    case round =>
    obtain ⟨k, hgk, hk, rfl, hbr⟩ := hrel
    have Hgk := hide hgk
    have Hbr := hide hbr
    clear hgk hbr
    by_cases hlt : k < N
    · obtain ⟨s, hs⟩ : ∃ s, L[k]? = some s := ⟨_, List.getElem?_eq_getElem (by rw [unhide Hlen]; exact hlt)⟩
      obtain ⟨b1, o1, rfl, _, c1⟩ := ((unhide Hrd).below (unhide Hbr)).at_ (k := k) (u := .string s) (by simp [hs])
      have hg := (unhide Hall) s (List.mem_of_getElem? hs)
      have hs256 : ¬ (256 : Int) < (s.size : Int) := by have := hg.1; omega
      have hbW := (unhide Hb6').trans ((unhide Hbr).mono (unhide Hb6').size)
      have KI := hide (within_yes A m c w.heap.size b s wr ((unhide Hb).below hbW) hbW.size (by omega) hmc hg)
      clear hs hg hbW
      go_wp2_with fail
      refine (unhide KI).mono ?_
      rintro e w7 ⟨rfl, hb7⟩
      have Hb7 := hide ((unhide Hbr).trans (hb7.mono (unhide Hbr).size))
      clear hb7 KI
      go_wp2_with fail
      go_roundg (N - (k + 1))
      case measure => have := unhide Hgk; omega
      case rel => exact ⟨k + 1, rfl, by omega, by go_num, unhide Hb7⟩
    obtain rfl : k = N := by omega
    have Hx2 : Hid (Rd wr w1.heap.size 2 A3 n3 (auxC x)) := hide ((unhide Hx).below ((unhide Hbr).mono hsz6))
    have Hbr2 := hide ((unhide Hb6').trans ((unhide Hbr).mono (unhide Hb6').size))
    obtain ⟨wo, rfl⟩ : ∃ wo : World, wo = wr := ⟨_, rfl⟩
    clear Hbr Hx Hb6' Hrd Hall Hgk
    go_wp2_with fail
    go_loopg [11] n3 (fun gk iv wr => ∃ j : Nat, gk = n3 - j ∧ j ≤ n3 ∧ iv = .int .i64 j ∧ wo = wr)
    case atStart => exact ⟨0, by omega, by omega, rfl, rfl⟩
    case round =>
    obtain ⟨j, hgj, hj, rfl, rfl⟩ := hrel
    have Hgj := hide hgj
    clear hgj
    by_cases hlt2 : j < n3
    · obtain ⟨a, ha⟩ : ∃ a, x[j]? = some a := ⟨_, List.getElem?_eq_getElem (by rw [(unhide Hn).2.2]; exact hlt2)⟩
      obtain ⟨b1, o1, rfl, _, y1, y2⟩ := (unhide Hx2).aux ha
      have h0 := (unhide Hk) a (List.mem_of_getElem? ha)
      have h0' : ((a.1 : Nat) : Int) ≠ 0 := by omega
      clear ha h0
      go_wp2_with fail
      go_roundg (n3 - (j + 1))
      case measure => have := unhide Hgj; omega
      case rel => exact ⟨j + 1, rfl, by omega, by go_num, rfl⟩
    obtain rfl : j = n3 := by omega
    go_wp2_with fail
    refine ((unhide KW) _).mono ?_
    rintro e w8 ⟨rfl, hb8⟩
    have Hb8 := hide ((unhide Hbr2).trans (hb8.mono (unhide Hbr2).size))
    clear hb8
    go_wp2_with fail
    go_ret
    exact ⟨rfl, unhide Hb8⟩
end Go.Proofs.Ytmoenjmhogmcoaa
namespace Go.Proofs.Ytmoenjmhogmcoaa
set_option linter.unusedVariables false
set_option linter.unusedSimpArgs false
open Go.RowKit Go.ChangeShapes Go.WideShapes

theorem cell_lt {w : World} {a : Addr} {v : Value} (h : w.cell? a = some v) : a.block < w.heap.size := by
  unfold World.cell? at h
  split at h
  · rename_i hb
    exact (Array.getElem?_eq_some_iff.1 hb).1
  · cases h

section
variable {H : Type} {enc : TypeId × Value → H} {P : Program} {w : World} {base : Nat} {held : Bool} {t e : TypeId} {A : Option Addr} {n c : Nat} {d : DataW H} {p : List MemPlace}

theorem open_nums_rd {k : IntKind} (ht : P.underlying t = some (.slice e)) (he : P.underlying e = some (.int k)) (hc : P.cellsOf e = 1)
    (h : DataW.Trod enc P w base (fun _ => true) held t (.slice A n c) d p) :
    ∃ zs : List Int, Rd w w.heap.size 1 A n (zs.map (Value.int k)) ∧ n ≤ c ∧ c ≤ maxLen ∧ ∀ z ∈ zs, (Lit.int k z).wf = true := by
  obtain ⟨fuel, hf⟩ := h
  rcases open_ints ht he hc hf with ⟨h1, h2⟩ | ⟨a, len, cap, zs, h1, hb, hl, hm, hz, hx, hcell, hwz⟩
  · simp [Value.cells] at h1
    obtain ⟨rfl, rfl, rfl⟩ := h1
    exact ⟨[], Rd.none_ _ _ _ _, Nat.le_refl _, by unfold maxLen; omega, by simp⟩
  · simp [Value.cells] at h1
    obtain ⟨rfl, rfl, rfl⟩ := h1
    simp only [if_true] at hz
    refine ⟨zs.take n, ⟨by simp [hz]; omega, ?_⟩, hl, hm, fun z hz => hwz z (List.mem_of_mem_take hz)⟩
    by_cases h0 : n = 0
    · subst h0; exact .inl rfl
    · obtain ⟨b, off, rfl, hc2⟩ := ints_at hcell (by omega)
      have hblk := cell_lt (hc2 0 (by omega))
      refine .inr ⟨b, off, rfl, hblk, fun j u hu => ?_⟩
      simp only [List.getElem?_map, Option.map_eq_some_iff] at hu
      obtain ⟨z, hz1, rfl⟩ := hu
      have hj : j < n := by
        have := (List.getElem?_eq_some_iff.1 hz1).1
        simp at this
        omega
      rw [List.getElem?_take_of_lt hj] at hz1
      rw [hc2 j (by omega), List.getD_eq_getElem?_getD, hz1]
      rfl

theorem u8_of {z : Int} (h : (Lit.int .u8 z).wf = true) : ((UInt8.ofNat z.toNat).toNat : Int) = z := by
  have hb : 0 ≤ z ∧ z ≤ 255 := by
    simpa [Lit.wf, IntKind.min, IntKind.max, IntKind.signed, IntKind.bits] using h
  simp
  omega

theorem open_bytes_rd (ht : P.underlying t = some (.slice e)) (he : P.underlying e = some (.int .u8)) (hc : P.cellsOf e = 1)
    (h : DataW.Trod enc P w base (fun _ => true) held t (.slice A n c) d p) :
    ∃ b : List UInt8, Rd w w.heap.size 1 A n (b.map fun c => .int .u8 c.toNat) ∧ n ≤ c ∧ c ≤ maxLen := by
  obtain ⟨zs, h1, h2, h3, h4⟩ := open_nums_rd ht he hc h
  refine ⟨zs.map fun z => UInt8.ofNat z.toNat, ?_, h2, h3⟩
  have e1 : (zs.map fun z => UInt8.ofNat z.toNat).map (fun c : UInt8 => Value.int .u8 c.toNat) = zs.map (Value.int .u8) := by
    rw [List.map_map]
    refine List.map_congr_left fun z hz => ?_
    show Value.int .u8 ((UInt8.ofNat z.toNat).toNat : Int) = _
    rw [u8_of (h4 z hz)]
  rw [e1]
  exact h1

theorem open_ints_rd (ht : P.underlying t = some (.slice e)) (he : P.underlying e = some (.int .i64)) (hc : P.cellsOf e = 1)
    (h : DataW.Trod enc P w base (fun _ => true) held t (.slice A n c) d p) :
    ∃ zs : List Int, Rd w w.heap.size 1 A n (zs.map (Value.int .i64)) ∧ n ≤ c ∧ c ≤ maxLen ∧ ∀ z ∈ zs, -9223372036854775808 ≤ z ∧ z ≤ 9223372036854775807 := by
  obtain ⟨zs, h1, h2, h3, h4⟩ := open_nums_rd ht he hc h
  refine ⟨zs, h1, h2, h3, fun z hz => ?_⟩
  have := h4 z hz
  simpa [Lit.wf, IntKind.min, IntKind.max, IntKind.signed, IntKind.bits] using this

theorem open_strs_rd (ht : P.underlying t = some (.slice e)) (he : P.underlying e = some .string) (hc : P.cellsOf e = 1)
    (h : DataW.Trod enc P w base (fun _ => true) held t (.slice A n c) d p) :
    ∃ ss : List ByteArray, Rd w w.heap.size 1 A n (ss.map Value.string) ∧ n ≤ c ∧ c ≤ maxLen ∧ ∀ s ∈ ss, s.size ≤ maxLen := by
  obtain ⟨fuel, hf⟩ := h
  rcases open_strings ht he hc hf with ⟨h1, h2⟩ | ⟨a, len, cap, zs, h1, hb, hl, hm, hz, hx, hcell, hwz⟩
  · simp [Value.cells] at h1
    obtain ⟨rfl, rfl, rfl⟩ := h1
    exact ⟨[], Rd.none_ _ _ _ _, Nat.le_refl _, by unfold maxLen; omega, by simp⟩
  · simp [Value.cells] at h1
    obtain ⟨rfl, rfl, rfl⟩ := h1
    simp only [if_true] at hz
    refine ⟨zs.take n, ⟨by simp [hz]; omega, ?_⟩, hl, hm, fun z hz => hwz z (List.mem_of_mem_take hz)⟩
    by_cases h0 : n = 0
    · subst h0; exact .inl rfl
    · obtain ⟨b, off, spot⟩ := a
      have hs : spot = none := by simpa [Addr.add] using World.cell?_spot (hcell 0 (by omega))
      subst hs
      have hc2 : ∀ i, i < zs.length → w.cell? ⟨b, off + i, none⟩ = some (.string (zs.getD i ByteArray.empty)) := fun j hj => by
        rw [← Go.WideShapes.add_plain]; exact hcell j hj
      have hblk := cell_lt (hc2 0 (by omega))
      refine .inr ⟨b, off, rfl, hblk, fun j u hu => ?_⟩
      simp only [List.getElem?_map, Option.map_eq_some_iff] at hu
      obtain ⟨z, hz1, rfl⟩ := hu
      have hj : j < n := by
        have := (List.getElem?_eq_some_iff.1 hz1).1
        simp at this
        omega
      rw [List.getElem?_take_of_lt hj] at hz1
      rw [hc2 j (by omega), List.getD_eq_getElem?_getD, hz1]
      rfl
end
end Go.Proofs.Ytmoenjmhogmcoaa
namespace Go.Proofs.Ytmoenjmhogmcoaa.stackTells
open Go.ChangeShapes Go.WideShapes Go.ChangeAt Go.RowKit
open Go.ChangeMaps (open_string shut_string)
set_option linter.unusedVariables false

theorem own : ownKnob Try.prog.godebug = none := by kernel_rfl
theorem laidOut : laidOutB Try.prog = true := by kernel_rfl
theorem wfi {z : Int} (h : (Lit.int .i64 z).wf = true) : -9223372036854775808 ≤ z ∧ z ≤ 9223372036854775807 := by simpa [Lit.wf, IntKind.min, IntKind.max, IntKind.signed, IntKind.bits] using h

set_option maxRecDepth 100000 in
theorem lifted (os : Os) (started : os.Started) (H : Type) (enc : TypeId × Value → H) :
    ReturnsInHanded {} Try.checked os 5 .any (Rows.stackTellsSpec.pre6 enc Try.prog Try.f5 Rows.stackTellsRow.domain false) (Rows.stackTellsSpec.post enc Try.prog Try.f5 false true false false) := by
  refine returnsInHanded_of_change (C := Try.checked) own started (by kernel_rfl) Try.func5
    (ChangeSpec.witness6 (enc := enc) (C := Try.checked) false ⟨#[], #[.slice none 0 0, .int .u64 0], []⟩ 8 (by kernel_rfl) (by kernel_rfl) (by kernel_rfl) (by kernel_rfl)) ?_
  intro W base args ds gs before hval0 hW hcnd _
  have hval : ∀ (j : Nat) t v, Try.f5.params[j]? = some t → args[j]? = some v → Value.okWide Try.prog W .any base t v := hval0
  have hW' := hW
  obtain ⟨p, q, hA0, hV, rfl, hfz, hnd⟩ := hW
  have hA : DataW.TrodAll enc Try.prog W 0 (fun _ => true) true Try.f5.params.toList args.toList ds p := hA0
  rw [Try.params5] at hA hval
  obtain ⟨v0, vs0, d0, ds0, p0, q0, hargs, rfl, rfl, h0, r0⟩ := trodAll_cons hA
  obtain ⟨v1, vs1, d1, ds1, p1, q1, rfl, rfl, rfl, h1, r1⟩ := trodAll_cons r0
  obtain ⟨rfl, rfl, rfl⟩ := trodAll_nil r1
  obtain rfl : args = #[v0, v1] := by cases args; simp_all
  obtain ⟨rfl, rfl⟩ := trodVars_none hV
  obtain ⟨A0, n0, c0, rfl⟩ := okWide_slice Try.underlying29 (hval 0 29 v0 rfl rfl)
  have k0 := h0
  have lt0 : ∀ x ∈ p0, x.block < W.heap.size := by obtain ⟨m, hm⟩ := k0; exact DataW.trod_lt m _ _ _ hm
  obtain ⟨x0, w0, wc0, wm0⟩ := open_bytes_rd Try.underlying29 Try.underlying5 (by kernel_rfl) h0
  obtain ⟨a1, rfl, rfl, rfl, w1⟩ := open_int Try.underlying30 (hval 1 30 v1 rfl rfl) h1
  have b1 : 0 ≤ a1 ∧ a1 ≤ 18446744073709551615 := by simpa [Lit.wf, IntKind.min, IntKind.max, IntKind.signed, IntKind.bits] using w1
  obtain ⟨m1, rfl⟩ := Int.eq_ofNat_of_zero_le b1.1
  clear hA0 hval0
  refine (stackTells_walk A0 n0 c0 x0 m1 W w0 wc0 (Nat.le_trans wc0 wm0) (by omega)).mono fun e W' ⟨he, bel⟩ => ?_
  subst he
  exact ⟨_, rfl, _, _, _, [], _, [], hW', trodAll_mk1 (shut_bool Try.underlying4 _), (trodAll_cons_mk (Below.trod laidOut (by kernel_rfl) (of_decide_eq_true (by kernel_rfl)) k0 bel lt0) (trodAll_cons_mk (shut_int Try.underlying30 w1) trodAll_mk0)), rfl, bel.frame _, fun h => by cases h⟩

theorem over : Rows.stackTellsRow.holds Try.pinned (OpenSpec.ofChange Rows.stackTellsSpec) :=
  OpenClaim.holds_of_wide 5 Try.f5 rfl rfl rfl rfl rfl rfl rfl ⟨rfl, rfl, rfl, rfl, rfl⟩ rfl rfl rfl rfl rfl (by kernel_rfl) Try.func5 (by kernel_rfl)
    (of_decide_eq_true (by kernel_rfl)) (by unfold Func.isWrapper; first | (rw [if_pos (by decide +kernel)]; kernel_rfl) | (rw [if_neg (by decide +kernel)]; exact ⟨rfl, rfl⟩))
    (fun os started H enc _ => lifted os started H enc)

theorem proved : Rows.StackTellsSaid := over
#print axioms proved
end Go.Proofs.Ytmoenjmhogmcoaa.stackTells
