/- Texts of the claim LawMakerParsed (MkL5, MkD1, MkD2, MkD3, MkD4, MkD5, MkL6a, MkD6, Dy13, Dy5, Dy6, Dy11, DyPure3): what the functions that the statement reaches compute, and plain laws of it. Conditions: those that each theorem states. -/
import Derived.Test.YtnbecdahfgkffaaGreatMpK5
import Derived.Test.YtnbecdahfgkffaaGreatMpK8
import Derived.Laws.EntriesVeiled
import Derived.Deep.DeepCutAuto
import Derived.Deep.CutBlock
import Derived.Test.YtnbecdahfgkffaaGreatMpK2
import Derived.Deep.RegionHeld3
import Derived.Test.YtnbecdahfgkffaaGreatMpK1
import Derived.Laws.CopyOwn
set_option linter.unusedVariables false
set_option linter.unusedSimpArgs false
namespace Go.Proofs.YtnbecdahfgkffaaGreat
open Go.RowKit
theorem XqM.more {w : World} {B B' : Nat} {s : Xq} (h : XqM w B s) (hB : B <= B') : XqM w B' s := ⟨h.text.more hB, h.data.more hB, h.dyn.more hB⟩
theorem Mk.make_len (x : Mk.Spec) : (Mk.make x).1.length <= 65536 := by
 unfold Mk.make
 split
 ·exact Nat.zero_le _
 ·split
  ·exact Nat.zero_le _
  ·rename_i h
   show (Mk.file x).length <= _
   rw [Mk.file_len]
   omega
structure XqIn (s : Xq) : Prop where
 max : XqMax s
 type : s.x.type < 65536
 entry : s.x.entry < 18446744073709551616
 more : s.x.more < 18446744073709551616
 tc : s.x.text.length <= s.ct
 dc : s.x.data.length <= s.cd
 c1 : s.x.dyn.needed.length <= s.c1
 c2 : s.x.dyn.syms.length <= s.c2
 c3 : s.x.dyn.relas.length <= s.c3
 sy : ∀ y ∈ s.x.dyn.syms, y.value < 18446744073709551616 /\ y.size < 18446744073709551616
 re : ∀ r ∈ s.x.dyn.relas, MrOk r
 ad : ∀ r ∈ s.x.dyn.relas, -9223372036854775808 <= r.add /\ r.add <= 9223372036854775807
theorem sumN_mem {l : List ByteArray} {x : ByteArray} (h : x ∈ l) : x.size <= sumN l := by
 induction l with
 | nil => cases h
 | cons a r ih =>
  have e : sumN (a :: r) = a.size + sumN r := rfl
  rcases List.mem_cons.1 h with rfl | h
  ·omega
  ·have := ih h; omega
theorem put_up (t : List UInt8) (s : ByteArray) : (Mk.put t s).length <= t.length + s.size + 1 := by unfold Mk.put; split <;> simp_all <;> omega
theorem puts_up (t : List UInt8) (l : List ByteArray) : (Mk.puts t l).length <= t.length + sumN l + l.length := by
 induction l generalizing t with
 | nil => exact Nat.le_add_right _ _
 | cons a r ih =>
  have e : sumN (a :: r) = a.size + sumN r := rfl
  have h1 := ih (Mk.put t a)
  have h2 := put_up t a
  have e2 : Mk.puts t (a :: r) = Mk.puts (Mk.put t a) r := rfl
  rw [e2, e, List.length_cons]
  omega
theorem XqIn.fit {s : Xq} (h : XqIn s) (hl : LgOk s.x) : MkFit s := by
 unfold LgOk large0 at hl
 have hnl : (Mk.names s.x.dyn.syms).length = s.x.dyn.syms.length := by unfold Mk.names; rw [List.length_map]
 refine ⟨⟨h.type, h.entry, h.more, by omega, by omega, by omega, h.tc, h.dc, ⟨by show s.x.dyn.needed.length <= _; omega, by show s.x.dyn.syms.length <= _; omega, by show s.x.dyn.relas.length <= _; omega, fun y hy => ?_, fun y hy => ?_, by show s.x.dyn.soname.size <= _; omega, by show s.x.dyn.run.size <= _; omega, h.c1, h.c2, h.c3⟩⟩, by omega, by omega, ?_, h.sy, h.re⟩
 ·have := sumN_mem (show y ∈ s.x.dyn.needed from hy); omega
 ·have := sumN_mem (show y.name ∈ Mk.names s.x.dyn.syms from List.mem_map.2 ⟨y, hy, rfl⟩); omega
 ·have h1 : (Mk.texts0 s.x.dyn).length <= 1 + sumN s.x.dyn.needed + s.x.dyn.needed.length := puts_up [0] _
  have h2 : (Mk.texts1 s.x.dyn).length <= (Mk.texts0 s.x.dyn).length + s.x.dyn.soname.size + 1 := put_up _ _
  have h3 : (Mk.texts2 s.x.dyn).length <= (Mk.texts1 s.x.dyn).length + s.x.dyn.run.size + 1 := put_up _ _
  have h4 : (Mk.texts3 s.x.dyn).length <= (Mk.texts2 s.x.dyn).length + sumN (Mk.names s.x.dyn.syms) + (Mk.names s.x.dyn.syms).length := puts_up _ _
  omega
end Go.Proofs.YtnbecdahfgkffaaGreat
namespace Go.Proofs.YtnbecdahfgkffaaGreat.Mk
open Cl (lb lb_len uJ6)
def At (b : List UInt8) (o : Nat) (l : List UInt8) : Prop := o + l.length <= b.length /\ ∀ i, i < l.length -> b[o + i]? = l[i]?
section
variable {b c l l' : List UInt8} {o p : Nat}
theorem At.split (h : At b o l) : b = b.take o ++ (l ++ b.drop (o + l.length)) /\ (b.take o).length = o := by
 obtain ⟨h1, h2⟩ := h
 have hl : (b.take o).length = o := by rw [List.length_take]; omega
 refine ⟨?_, hl⟩
 refine List.ext_getElem? fun j => ?_
 by_cases g : j < o
 ·rw [List.getElem?_append_left (by omega), List.getElem?_take_of_lt g]
 ·rw [List.getElem?_append_right (by omega), hl]
  by_cases g2 : j - o < l.length
  ·rw [List.getElem?_append_left g2, <- h2 _ g2]
   congr 1
   omega
  ·rw [List.getElem?_append_right (by omega), List.getElem?_drop]
   congr 1
   omega
theorem At.of {P S : List UInt8} (h : b = P ++ (l ++ S)) (hp : P.length = o) : At b o l := by
 subst h hp
 refine ⟨by simp, fun i hi => ?_⟩
 rw [List.getElem?_append_right (by omega), Nat.add_sub_cancel_left, List.getElem?_append_left hi]
theorem At.left (h : At b o (l ++ l')) : At b o l := by
 obtain ⟨h1, h2⟩ := h
 rw [List.length_append] at h1 h2
 refine ⟨by omega, fun i hi => ?_⟩
 rw [h2 i (by omega), List.getElem?_append_left hi]
theorem At.right {p : Nat} (h : At b o (l ++ l')) (hp : o + l.length = p) : At b p l' := by
 subst hp
 obtain ⟨h1, h2⟩ := h
 rw [List.length_append] at h1 h2
 refine ⟨by omega, fun i hi => ?_⟩
 rw [Nat.add_assoc, h2 (l.length + i) (by omega), List.getElem?_append_right (by omega), Nat.add_sub_cancel_left]
theorem At.app (h : At b o l) (s : List UInt8) : At (b ++ s) o l := by
 obtain ⟨h1, h2⟩ := h
 refine ⟨by rw [List.length_append]; omega, fun i hi => ?_⟩
 rw [List.getElem?_append_left (by omega), h2 i hi]
theorem At.end_ (hp : b.length = o) : At (b ++ l) o l := At.of (P := b) (S := []) (by simp) hp
theorem over_get (f : List UInt8) (p : Nat) (c : List UInt8) (h : p + c.length <= f.length) (j : Nat) : (over f p c)[j]? = if j < p then f[j]? else if j < p + c.length then c[j - p]? else f[j]? := by
 unfold over
 have hl : (f.take p).length = p := by rw [List.length_take]; omega
 by_cases g : j < p
 ·rw [if_pos g, List.append_assoc, List.getElem?_append_left (by omega), List.getElem?_take_of_lt g]
 ·rw [if_neg g, List.append_assoc, List.getElem?_append_right (by omega), hl]
  by_cases g2 : j < p + c.length
  ·rw [if_pos g2, List.getElem?_append_left (by omega)]
  ·rw [if_neg g2, List.getElem?_append_right (by omega), List.getElem?_drop]
   congr 1
   omega
theorem At.over (h : At b o l) (hc : p + c.length <= b.length) (hd : p + c.length <= o \/ o + l.length <= p) : At (over b p c) o l := by
 obtain ⟨h1, h2⟩ := h
 refine ⟨by rw [vJ9 _ _ _ hc]; exact h1, fun i hi => ?_⟩
 rw [over_get _ _ _ hc, <- h2 i hi]
 rcases hd with hd | hd
 ·rw [if_neg (by omega), if_neg (by omega)]
 ·rw [if_pos (by omega)]
theorem At.over_self (hc : p + c.length <= b.length) : At (Mk.over b p c) p c := by
 refine ⟨by rw [vJ9 _ _ _ hc]; exact hc, fun i hi => ?_⟩
 rw [over_get _ _ _ hc, if_neg (by omega), if_pos (by omega)]
 congr 1
 omega
theorem At.num {v n : Nat} (h : At b o (lb v n)) (hv : v < 256 ^ n) : Wd.num b o n = v := yJl h.split.1 h.split.2 hv
theorem At.cut (h : At b o l) : Dy.cut b o l.length = l := by
 obtain ⟨h1, h2⟩ := h.split
 unfold Dy.cut
 conv => lhs; rw [h1]
 rw [List.drop_left' h2, List.take_left' rfl]
end
theorem wJo (base : Nat) (q : List UInt8 × List (Nat × Nat)) (p : Nat × List UInt8) :
  ∃ o, q.1.length <= o /\ o + p.2.length = (stepPart base q p).1.length /\ (stepPart base q p).2 = q.2 ++ tell p.1 (base + o) p.2.length /\ At (stepPart base q p).1 o p.2 /\ ∀ a l, At q.1 a l -> At (stepPart base q p).1 a l := by
 refine ⟨(pad 8 q.1).length, by rw [yJb]; omega, ?_, rfl, At.end_ rfl, fun a l h => ?_⟩
 ·unfold stepPart
  rw [List.length_append]
 ·unfold stepPart pad
  rw [List.append_assoc]
  exact h.app _
structure SecAt (x : Spec) (b : List UInt8) (E : List (Nat × Nat)) (lo hi oh os o1 o2 ot : Nat) : Prop where
 ents : E = heads2 x.dyn ++ ((if x.dyn.syms.length = 0 then [] else [(4, base x + oh), (6, base x + os), (11, 24)]) ++ ((if last x = 0 then [] else [(7, base x + o1), (8, (relsB (x.dyn.relas.take (last x))).length), (9, 24)]) ++ ((if x.apart.toNat = 0 then [] else [(23, base x + o2), (2, (relsB (x.dyn.relas.drop (last x))).length), (20, 7)]) ++ [(5, base x + ot), (10, (texts3 x.dyn).length), (0, 0)])))
 hash : x.dyn.syms.length ≠ 0 -> At b oh (hashB x.dyn.syms) /\ lo <= oh /\ oh + (hashB x.dyn.syms).length <= hi
 syms : x.dyn.syms.length ≠ 0 -> At b os (symsB (texts2 x.dyn) x.dyn.syms) /\ lo <= os /\ os + (symsB (texts2 x.dyn) x.dyn.syms).length <= hi
 one : last x ≠ 0 -> At b o1 (relsB (x.dyn.relas.take (last x))) /\ lo <= o1 /\ o1 + (relsB (x.dyn.relas.take (last x))).length <= hi
 two : x.apart.toNat ≠ 0 -> At b o2 (relsB (x.dyn.relas.drop (last x))) /\ lo <= o2 /\ o2 + (relsB (x.dyn.relas.drop (last x))).length <= hi
 texts : At b ot (texts3 x.dyn) /\ lo <= ot /\ ot + (texts3 x.dyn).length <= hi
theorem laid_at (x : Spec) (f : List UInt8) : ∃ oh os o1 o2 ot, SecAt x (laidParts x f).1 (laidParts x f).2 ((pad 8 f).length + room x) (laidParts x f).1.length oh os o1 o2 ot := by
 rw [laid_st]
 have l0 : (st0 x f).1.length = (pad 8 f).length + room x := by unfold st0; rw [List.length_append, yJj]
 -- the symbols
 have s1 : ∃ oh os, (st1 x f).2 = heads2 x.dyn ++ (if x.dyn.syms.length = 0 then [] else [(4, base x + oh), (6, base x + os), (11, 24)]) /\ (st0 x f).1.length <= (st1 x f).1.length /\
   (x.dyn.syms.length ≠ 0 -> At (st1 x f).1 oh (hashB x.dyn.syms) /\ (st0 x f).1.length <= oh /\ oh + (hashB x.dyn.syms).length <= (st1 x f).1.length) /\ (x.dyn.syms.length ≠ 0 -> At (st1 x f).1 os (symsB (texts2 x.dyn) x.dyn.syms) /\ (st0 x f).1.length <= os /\ os + (symsB (texts2 x.dyn) x.dyn.syms).length <= (st1 x f).1.length) := by
  by_cases hn : x.dyn.syms.length = 0
  ·refine ⟨0, 0, ?_, ?_, fun h => absurd hn h, fun h => absurd hn h⟩
   ·unfold st1 partSyms
    rw [if_pos hn, if_pos hn, List.append_nil]
    rfl
   ·unfold st1 partSyms
    rw [if_pos hn]
    exact Nat.le_refl _
  ·obtain ⟨oh, a1, a2, a3, a4, a5⟩ := wJo (base x) (st0 x f) (0, hashB x.dyn.syms)
   obtain ⟨os, b1, b2, b3, b4, b5⟩ := wJo (base x) (stepPart (base x) (st0 x f) (0, hashB x.dyn.syms)) (1, symsB (texts2 x.dyn) x.dyn.syms)
   have e : st1 x f = stepPart (base x) (stepPart (base x) (st0 x f) (0, hashB x.dyn.syms)) (1, symsB (texts2 x.dyn) x.dyn.syms) := by
    unfold st1 partSyms
    rw [if_neg hn]
    rfl
   rw [e]
   refine ⟨oh, os, ?_, by omega, fun _ => ⟨b5 _ _ a4, a1, ?_⟩, fun _ => ⟨b4, by omega, Nat.le_of_eq b2⟩⟩
   ·rw [b3, a3, if_neg hn]
    simp [tell, st0]
   ·show oh + (0, hashB x.dyn.syms).2.length <= _
    omega
 obtain ⟨oh, os, q1, q2, q3, q4⟩ := s1
 have s2 : ∃ o1, (st2 x f).2 = (st1 x f).2 ++ (if last x = 0 then [] else [(7, base x + o1), (8, (relsB (x.dyn.relas.take (last x))).length), (9, 24)]) /\ (st1 x f).1.length <= (st2 x f).1.length /\ (∀ a l, At (st1 x f).1 a l -> At (st2 x f).1 a l) /\
   (last x ≠ 0 -> At (st2 x f).1 o1 (relsB (x.dyn.relas.take (last x))) /\ (st1 x f).1.length <= o1 /\ o1 + (relsB (x.dyn.relas.take (last x))).length <= (st2 x f).1.length) := by
  by_cases hn : last x = 0
  ·have e : st2 x f = st1 x f := by
    unfold st2 partOne
    rw [if_pos hn]
    rfl
   rw [e]
   exact ⟨0, by rw [if_pos hn, List.append_nil], Nat.le_refl _, fun _ _ h => h, fun h => absurd hn h⟩
  ·obtain ⟨o1, a1, a2, a3, a4, a5⟩ := wJo (base x) (st1 x f) (2, relsB (x.dyn.relas.take (last x)))
   have e : st2 x f = stepPart (base x) (st1 x f) (2, relsB (x.dyn.relas.take (last x))) := by
    unfold st2 partOne
    rw [if_neg hn]
    rfl
   rw [e]
   refine ⟨o1, ?_, by omega, a5, fun _ => ⟨a4, a1, ?_⟩⟩
   ·rw [a3, if_neg hn]
    rfl
   ·show o1 + (2, relsB (x.dyn.relas.take (last x))).2.length <= _
    omega
 obtain ⟨o1, r1, r2, r3, r4⟩ := s2
 have s3 : ∃ o2, (st3 x f).2 = (st2 x f).2 ++ (if x.apart.toNat = 0 then [] else [(23, base x + o2), (2, (relsB (x.dyn.relas.drop (last x))).length), (20, 7)]) /\ (st2 x f).1.length <= (st3 x f).1.length /\ (∀ a l, At (st2 x f).1 a l -> At (st3 x f).1 a l) /\
   (x.apart.toNat ≠ 0 -> At (st3 x f).1 o2 (relsB (x.dyn.relas.drop (last x))) /\ (st2 x f).1.length <= o2 /\ o2 + (relsB (x.dyn.relas.drop (last x))).length <= (st3 x f).1.length) := by
  by_cases hn : x.apart.toNat = 0
  ·have e : st3 x f = st2 x f := by
    unfold st3 partTwo
    rw [if_pos hn]
    rfl
   rw [e]
   exact ⟨0, by rw [if_pos hn, List.append_nil], Nat.le_refl _, fun _ _ h => h, fun h => absurd hn h⟩
  ·obtain ⟨o2, a1, a2, a3, a4, a5⟩ := wJo (base x) (st2 x f) (3, relsB (x.dyn.relas.drop (last x)))
   have e : st3 x f = stepPart (base x) (st2 x f) (3, relsB (x.dyn.relas.drop (last x))) := by
    unfold st3 partTwo
    rw [if_neg hn]
    rfl
   rw [e]
   refine ⟨o2, ?_, by omega, a5, fun _ => ⟨a4, a1, ?_⟩⟩
   ·rw [a3, if_neg hn]
    rfl
   ·show o2 + (3, relsB (x.dyn.relas.drop (last x))).2.length <= _
    omega
 obtain ⟨o2, t1, t2, t3, t4⟩ := s3
 obtain ⟨ot, u1, u2, u3, u4, u5⟩ := wJo (base x) (st3 x f) (4, texts3 x.dyn)
 have u2' : ot + (texts3 x.dyn).length = (stepPart (base x) (st3 x f) (4, texts3 x.dyn)).1.length := u2
 refine ⟨oh, os, o1, o2, ot, ⟨?_, fun h => ?_, fun h => ?_, fun h => ?_, fun h => ?_, ⟨u4, by omega, by omega⟩⟩⟩
 ·rw [u3, t1, r1, q1]
  simp [tell]
 ·obtain ⟨z1, z2, z3⟩ := q3 h
  exact ⟨u5 _ _ (t3 _ _ (r3 _ _ z1)), by omega, by omega⟩
 ·obtain ⟨z1, z2, z3⟩ := q4 h
  exact ⟨u5 _ _ (t3 _ _ (r3 _ _ z1)), by omega, by omega⟩
 ·obtain ⟨z1, z2, z3⟩ := r4 h
  exact ⟨u5 _ _ (t3 _ _ z1), by omega, by omega⟩
 ·obtain ⟨z1, z2, z3⟩ := t4 h
  exact ⟨u5 _ _ z1, by omega, by omega⟩
theorem wJu {x : Spec} {o : Nat} {l : List UInt8} (h : At (front2 x) o l) (ho : 64 + 56 * many x <= o) : At (file x) o l := by
 have h1 : At (out2 x) o l := by
  have a : At (out1 x) o l := by
   unfold out1
   split
   ·unfold pad
    rw [List.append_assoc]
    exact h.app _
   ·exact h
  unfold out2
  split
  ·unfold pad
   rw [List.append_assoc]
   exact a.app _
  ·exact a
 have hl : (head x (rows x)).length = 64 + 56 * many x := by rw [wJf, yJd]
 unfold file
 refine h1.over ?_ (.inl (by rw [hl]; omega))
 have := lens x
 rw [hl]
 omega
theorem file_sec {x : Spec} (hd : x.dynamic = true) : ∃ E oh os o1 o2 ot, At (file x) (pad 8 (front1 x)).length (entsB E) /\ (entsB E).length = room x /\ SecAt x (file x) E ((pad 8 (front1 x)).length + room x) (front2 x).length oh os o1 o2 ot := by
 obtain ⟨oh, os, o1, o2, ot, h⟩ := laid_at x (front1 x)
 have hl : (entsB (laidParts x (front1 x)).2).length = room x := xJb x (front1 x)
 have hlen : (front2 x).length = (laidParts x (front1 x)).1.length := by unfold front2; rw [if_pos hd, xJ7]
 have hroom := uJt hd
 have hp : 64 + 56 * many x <= (pad 8 (front1 x)).length := by
  have := lens x
  rw [yJb]
  omega
 have hf : front2 x = over (laidParts x (front1 x)).1 (pad 8 (front1 x)).length (entsB (laidParts x (front1 x)).2) := by
  unfold front2 section_
  rw [if_pos hd]
 have up : ∀ o l, At (laidParts x (front1 x)).1 o l -> (pad 8 (front1 x)).length + room x <= o -> At (file x) o l := by
  intro o l ha ho
  refine wJu ?_ (by omega)
  rw [hf]
  exact ha.over (by omega) (.inl (by omega))
 refine ⟨_, oh, os, o1, o2, ot, ?_, hl, ⟨h.ents, fun g => ?_, fun g => ?_, fun g => ?_, fun g => ?_, ?_⟩⟩
 ·refine wJu ?_ hp
  rw [hf]
  exact At.over_self (by omega)
 ·obtain ⟨z1, z2, z3⟩ := h.hash g
  exact ⟨up _ _ z1 z2, z2, by omega⟩
 ·obtain ⟨z1, z2, z3⟩ := h.syms g
  exact ⟨up _ _ z1 z2, z2, by omega⟩
 ·obtain ⟨z1, z2, z3⟩ := h.one g
  exact ⟨up _ _ z1 z2, z2, by omega⟩
 ·obtain ⟨z1, z2, z3⟩ := h.two g
  exact ⟨up _ _ z1 z2, z2, by omega⟩
 ·obtain ⟨z1, z2, z3⟩ := h.texts
  exact ⟨up _ _ z1 z2, z2, by omega⟩
end Go.Proofs.YtnbecdahfgkffaaGreat.Mk
namespace Go.Proofs.YtnbecdahfgkffaaGreat.Mk
open Cl (lb lb_len uJ6)
theorem ents_read {b : List UInt8} : ∀ (L : List (Nat × Nat)) (k p : Nat), (∀ e ∈ L, e.1 ≠ 0 /\ e.1 < 18446744073709551616 /\ e.2 < 18446744073709551616) -> At b p (entsB (L ++ [(0, 0)])) -> L.length < k -> Dy.ents b k p = some L := by
 intro L
 induction L with
 | nil =>
  intro k p _ h hk
  obtain ⟨k, rfl⟩ : ∃ j, k = j + 1 := ⟨k - 1, by simp at hk; omega⟩
  have h1 : At b p (lb 0 8 ++ lb 0 8) := by simpa [entsB, pairB] using h
  have e : Wd.num b p 8 = 0 := h1.left.num (by omega)
  rw [Dy.ents, if_pos e]
 | cons e r ih =>
  intro k p hall h hk
  obtain ⟨k, rfl⟩ : ∃ j, k = j + 1 := ⟨k - 1, by simp at hk; omega⟩
  obtain ⟨g1, g2, g3⟩ := hall e (List.mem_cons_self ..)
  have h1 : At b p ((lb e.1 8 ++ lb e.2 8) ++ entsB (r ++ [(0, 0)])) := by simpa [entsB, pairB] using h
  have e1 : Wd.num b p 8 = e.1 := h1.left.left.num (by omega)
  have e2 : Wd.num b (p + 8) 8 = e.2 := (h1.left.right (by simp [lb_len])).num (by omega)
  have h2 := ih k (p + 16) (fun q hq => hall q (List.mem_cons_of_mem _ hq)) (h1.right (by simp [lb_len])) (by simp at hk; omega)
  rw [Dy.ents, if_neg (by rw [e1]; exact g1), h2, e1, e2]
  rfl
theorem yJ0 (L : List (Nat × Nat)) : (entsB L).length = 16 * L.length := by
 induction L with
 | nil => rfl
 | cons e r ih =>
  have : entsB (e :: r) = pairB e ++ entsB r := by unfold entsB; rw [List.flatMap_cons]
  rw [this, List.length_append, ih]
  simp [pairB, lb_len]
  omega
def tells (x : Spec) (oh os o1 o2 ot : Nat) : List (Nat × Nat) := (if x.dyn.syms.length = 0 then [] else [(4, base x + oh), (6, base x + os), (11, 24)]) ++ ((if last x = 0 then [] else [(7, base x + o1), (8, (relsB (x.dyn.relas.take (last x))).length), (9, 24)]) ++ ((if x.apart.toNat = 0 then [] else [(23, base x + o2), (2, (relsB (x.dyn.relas.drop (last x))).length), (20, 7)]) ++ [(5, base x + ot), (10, (texts3 x.dyn).length)]))
def ent (x : Spec) (oh os o1 o2 ot : Nat) : List (Nat × Nat) := heads2 x.dyn ++ tells x oh os o1 o2 ot
section
variable {x : Spec} {oh os o1 o2 ot : Nat}
theorem vJk {b : List UInt8} {E : List (Nat × Nat)} {lo hi : Nat} (h : SecAt x b E lo hi oh os o1 o2 ot) : E = ent x oh os o1 o2 ot ++ [(0, 0)] := by
 rw [h.ents]
 unfold ent tells
 simp only [List.append_assoc]
 rfl
theorem val_ones (l : List Nat) {t : Nat} (h : t ≠ 1) : Dy.val (l.map fun p => (1, p)) t = none := by
 induction l with
 | nil => rfl
 | cons a r ih =>
  rw [List.map_cons, Dy.val_cons, if_neg (fun e => h e.symm), ih]
theorem val_heads (d : Dyn) {t : Nat} (h1 : t ≠ 1) (h14 : t ≠ 14) (h29 : t ≠ 29) : Dy.val (heads2 d) t = none := by
 have e0 : Dy.val (heads0 d) t = none := val_ones _ h1
 have e1 : Dy.val (heads1 d) t = none := by
  unfold heads1
  split
  ·exact e0
  ·rw [Dy.val_app, e0, Dy.val_cons, if_neg (fun e => h14 e.symm)]
   rfl
 unfold heads2
 split
 ·exact e1
 ·rw [Dy.val_app, e1, Dy.val_cons, if_neg (fun e => h29 e.symm)]
  rfl
theorem yJk {t : Nat} (h1 : t ≠ 1) (h14 : t ≠ 14) (h29 : t ≠ 29) : Dy.val (ent x oh os o1 o2 ot) t = Dy.val (tells x oh os o1 o2 ot) t := by
 unfold ent
 rw [Dy.val_app, val_heads _ h1 h14 h29]
 rfl
theorem vals : Dy.val (ent x oh os o1 o2 ot) 5 = some (base x + ot) /\ Dy.val (ent x oh os o1 o2 ot) 10 = some (texts3 x.dyn).length
  /\ Dy.val (ent x oh os o1 o2 ot) 4 = (if x.dyn.syms.length = 0 then none else some (base x + oh)) /\ Dy.val (ent x oh os o1 o2 ot) 6 = (if x.dyn.syms.length = 0 then none else some (base x + os)) /\ Dy.val (ent x oh os o1 o2 ot) 11 = (if x.dyn.syms.length = 0 then none else some 24)
  /\ Dy.val (ent x oh os o1 o2 ot) 7 = (if last x = 0 then none else some (base x + o1)) /\ Dy.val (ent x oh os o1 o2 ot) 8 = (if last x = 0 then none else some (relsB (x.dyn.relas.take (last x))).length) /\ Dy.val (ent x oh os o1 o2 ot) 9 = (if last x = 0 then none else some 24)
  /\ Dy.val (ent x oh os o1 o2 ot) 23 = (if x.apart.toNat = 0 then none else some (base x + o2)) /\ Dy.val (ent x oh os o1 o2 ot) 2 = (if x.apart.toNat = 0 then none else some (relsB (x.dyn.relas.drop (last x))).length) /\ Dy.val (ent x oh os o1 o2 ot) 20 = (if x.apart.toNat = 0 then none else some 7) := by
 simp only [yJk (x := x) (oh := oh) (os := os) (o1 := o1) (o2 := o2) (ot := ot) (t := 5) (by decide) (by decide) (by decide), yJk (x := x) (oh := oh) (os := os) (o1 := o1) (o2 := o2) (ot := ot) (t := 10) (by decide) (by decide) (by decide), yJk (x := x) (oh := oh) (os := os) (o1 := o1) (o2 := o2) (ot := ot) (t := 4) (by decide) (by decide) (by decide), yJk (x := x) (oh := oh) (os := os) (o1 := o1) (o2 := o2) (ot := ot) (t := 6) (by decide) (by decide) (by decide), yJk (x := x) (oh := oh) (os := os) (o1 := o1) (o2 := o2) (ot := ot) (t := 11) (by decide) (by decide) (by decide), yJk (x := x) (oh := oh) (os := os) (o1 := o1) (o2 := o2) (ot := ot) (t := 7) (by decide) (by decide) (by decide), yJk (x := x) (oh := oh) (os := os) (o1 := o1) (o2 := o2) (ot := ot) (t := 8) (by decide) (by decide) (by decide), yJk (x := x) (oh := oh) (os := os) (o1 := o1) (o2 := o2) (ot := ot) (t := 9) (by decide) (by decide) (by decide), yJk (x := x) (oh := oh) (os := os) (o1 := o1) (o2 := o2) (ot := ot) (t := 23) (by decide) (by decide) (by decide), yJk (x := x) (oh := oh) (os := os) (o1 := o1) (o2 := o2) (ot := ot) (t := 2) (by decide) (by decide) (by decide), yJk (x := x) (oh := oh) (os := os) (o1 := o1) (o2 := o2) (ot := ot) (t := 20) (by decide) (by decide) (by decide)]
 unfold tells
 by_cases a : x.dyn.syms.length = 0 <;> by_cases b : last x = 0 <;> by_cases c : x.apart.toNat = 0 <;> simp [a, b, c, Dy.val]
theorem vJd {a b : List (Nat × Nat)} (h1 : Dy.twice a = false) (h2 : Dy.twice b = false) (h : ∀ e ∈ a, Dy.once e.1 = true -> Dy.val b e.1 = none) : Dy.twice (a ++ b) = false := by
 induction a with
 | nil => exact h2
 | cons e r ih =>
  rw [Dy.twice, Bool.or_eq_false_iff] at h1
  rw [List.cons_append, Dy.twice, Bool.or_eq_false_iff]
  refine ⟨?_, ih h1.2 (fun q hq => h q (List.mem_cons_of_mem _ hq))⟩
  cases ho : Dy.once e.1 with
  | false => rfl
  | true =>
   have h3 := h1.1
   rw [ho, Bool.true_and] at h3
   have h4 : Dy.val r e.1 = none := by
    cases hv : Dy.val r e.1 with
    | none => rfl
    | some v => rw [hv] at h3; cases h3
   rw [Dy.val_app, h4, h e (List.mem_cons_self ..) ho]
   rfl
theorem twice_ones (l : List Nat) : Dy.twice (l.map fun p => (1, p)) = false := by
 induction l with
 | nil => rfl
 | cons a r ih =>
  rw [List.map_cons, Dy.twice, ih, Bool.or_false]
  rfl
theorem uJj (d : Dyn) : ∀ e ∈ heads2 d, e.1 = 1 \/ e.1 = 14 \/ e.1 = 29 := by
 have e0 : ∀ e ∈ heads0 d, e.1 = 1 \/ e.1 = 14 \/ e.1 = 29 := by
  intro e he
  obtain ⟨p, _, rfl⟩ := List.mem_map.1 he
  exact .inl rfl
 have e1 : ∀ e ∈ heads1 d, e.1 = 1 \/ e.1 = 14 \/ e.1 = 29 := by
  unfold heads1
  split
  ·exact e0
  ·intro e he
   rcases List.mem_append.1 he with he | he
   ·exact e0 e he
   ·rw [List.mem_singleton.1 he]
    exact .inr (.inl rfl)
 unfold heads2
 split
 ·exact e1
 ·intro e he
  rcases List.mem_append.1 he with he | he
  ·exact e1 e he
  ·rw [List.mem_singleton.1 he]
   exact .inr (.inr rfl)
theorem twice_heads (d : Dyn) : Dy.twice (heads2 d) = false := by
 have e0 : Dy.twice (heads0 d) = false := twice_ones _
 have v0 : ∀ t, t ≠ 1 -> Dy.val (heads0 d) t = none := fun t h => val_ones _ h
 have e1 : Dy.twice (heads1 d) = false := by
  unfold heads1
  split
  ·exact e0
  ·refine vJd e0 rfl fun e he ho => ?_
   obtain ⟨p, _, rfl⟩ := List.mem_map.1 he
   cases ho
 unfold heads2
 split
 ·exact e1
 ·refine vJd e1 rfl fun e he ho => ?_
  have : e.1 = 1 \/ e.1 = 14 := by
   unfold heads1 at he
   split at he
   ·obtain ⟨p, _, rfl⟩ := List.mem_map.1 he
    exact .inl rfl
   ·rcases List.mem_append.1 he with he | he
    ·obtain ⟨p, _, rfl⟩ := List.mem_map.1 he
     exact .inl rfl
    ·rw [List.mem_singleton.1 he]
     exact .inr rfl
  rw [Dy.val_cons, if_neg (by show ¬ 29 = e.1; omega)]
  rfl
theorem twice_tells : Dy.twice (tells x oh os o1 o2 ot) = false := by
 unfold tells
 by_cases a : x.dyn.syms.length = 0 <;> by_cases b : last x = 0 <;> by_cases c : x.apart.toNat = 0 <;> simp [a, b, c, Dy.val, Dy.twice, Dy.once]
theorem tells_val {t : Nat} (h : t = 1 \/ t = 14 \/ t = 29 \/ t = 15) : Dy.val (tells x oh os o1 o2 ot) t = none := by
 unfold tells
 rcases h with rfl | rfl | rfl | rfl <;> by_cases a : x.dyn.syms.length = 0 <;> by_cases b : last x = 0 <;> by_cases c : x.apart.toNat = 0 <;> simp [a, b, c, Dy.val]
theorem tJ2 (a b : List (Nat × Nat)) : Dy.many (a ++ b) = Dy.many a + Dy.many b := by unfold Dy.many; rw [List.filter_append, List.length_append]
theorem many_ent : Dy.many (ent x oh os o1 o2 ot) = x.dyn.needed.length := by
 unfold ent
 rw [tJ2]
 have h0 : Dy.many (tells x oh os o1 o2 ot) = 0 := by
  unfold tells
  by_cases a : x.dyn.syms.length = 0 <;> by_cases b : last x = 0 <;> by_cases c : x.apart.toNat = 0 <;> simp [a, b, c, Dy.many]
 have e0 : Dy.many (heads0 x.dyn) = x.dyn.needed.length := by
  unfold heads0 Dy.many
  rw [List.filter_eq_self.2 (by intro e he; obtain ⟨p, _, rfl⟩ := List.mem_map.1 he; rfl), List.length_map, yJf]
 have e1 : Dy.many (heads1 x.dyn) = x.dyn.needed.length := by
  unfold heads1
  split
  ·exact e0
  ·rw [tJ2, e0]; rfl
 have e2 : Dy.many (heads2 x.dyn) = x.dyn.needed.length := by
  unfold heads2
  split
  ·exact e1
  ·rw [tJ2, e1]; rfl
 rw [e2, h0]
 rfl
theorem may_ent (h : MayOk x) : Dy.may (ent x oh os o1 o2 ot) = 0 := by
 have ht : Dy.twice (ent x oh os o1 o2 ot) = false := by
  unfold ent
  refine vJd (twice_heads _) twice_tells fun e he ho => ?_
  have := uJj _ e he
  exact tells_val (by omega)
 obtain ⟨v5, v10, v4, v6, v11, v7, v8, v9, v23, v2, v20⟩ := vals (x := x) (oh := oh) (os := os) (o1 := o1) (o2 := o2) (ot := ot)
 have hf : Dy.fits (ent x oh os o1 o2 ot) = true := by
  unfold Dy.fits Dy.pair
  rw [ht, v5, v10, v4, v6, v11, v7, v8, v9, v23, v2, v20]
  by_cases a : x.dyn.syms.length = 0 <;> by_cases b : last x = 0 <;> by_cases c : x.apart.toNat = 0 <;> simp [a, b, c, Dy.isV]
 have hm := many_ent (x := x) (oh := oh) (os := os) (o1 := o1) (o2 := o2) (ot := ot)
 have h1 := h.n1
 unfold Dy.may
 rw [hf, if_neg (by decide), if_neg (by omega)]
end
end Go.Proofs.YtnbecdahfgkffaaGreat.Mk
namespace Go.Proofs.YtnbecdahfgkffaaGreat.Mk
open Cl (lb lb_len uJ6)
theorem wJs (t : List UInt8) (s : ByteArray) : t <+: put t s := by
 unfold put
 split
 ·exact List.prefix_refl _
 ·rw [List.append_assoc]
  exact List.prefix_append _ _
theorem wJ6 (l : List ByteArray) : ∀ t : List UInt8, t <+: puts t l := by
 induction l with
 | nil => exact fun t => List.prefix_refl _
 | cons s r ih => exact fun t => (wJs t s).trans (ih (put t s))
theorem vJe (d : Dyn) : [0] <+: texts0 d /\ texts0 d <+: texts1 d /\ texts1 d <+: texts2 d /\ texts2 d <+: texts3 d := ⟨wJ6 _ _, wJs _ _, wJs _ _, wJ6 _ _⟩
theorem yJr (t : List UInt8) (s : ByteArray) : place t s <= t.length := by unfold place; split <;> omega
theorem places_le (l : List ByteArray) : ∀ (t : List UInt8), ∀ p ∈ places t l, p <= (puts t l).length := by
 induction l with
 | nil => intro t p hp; cases hp
 | cons s r ih =>
  intro t p hp
  have h1 : t.length <= (puts t (s :: r)).length := (wJ6 (s :: r) t).length_le
  rcases List.mem_cons.1 hp with rfl | hp
  ·exact Nat.le_trans (yJr t s) h1
  ·exact ih (put t s) p hp
theorem heads_val (d : Dyn) : ∀ e ∈ heads2 d, e.2 <= (texts3 d).length := by
 obtain ⟨_, l1, l2, l3⟩ := vJe d
 have m1 := l1.length_le
 have m2 := l2.length_le
 have m3 := l3.length_le
 have e0 : ∀ e ∈ heads0 d, e.2 <= (texts3 d).length := by
  intro e he
  obtain ⟨p, hp, rfl⟩ := List.mem_map.1 he
  have : p <= (texts0 d).length := places_le _ _ p hp
  show p <= _
  omega
 have e1 : ∀ e ∈ heads1 d, e.2 <= (texts3 d).length := by
  unfold heads1
  split
  ·exact e0
  ·intro e he
   rcases List.mem_append.1 he with he | he
   ·exact e0 e he
   ·rw [List.mem_singleton.1 he]
    have := yJr (texts0 d) d.soname
    show place _ _ <= _
    omega
 unfold heads2
 split
 ·exact e1
 ·intro e he
  rcases List.mem_append.1 he with he | he
  ·exact e1 e he
  ·rw [List.mem_singleton.1 he]
   have := yJr (texts1 d) d.run
   show place _ _ <= _
   omega
section
variable {x : Spec} {oh os o1 o2 ot : Nat}
theorem vJz {l : List Row} {q : Nat} (h : ∀ r ∈ l, r.kind ≠ q) : (l.map sg).find? (fun s => s.kind == q) = none := by
 refine List.find?_eq_none.2 fun s hs => ?_
 obtain ⟨r, hr, rfl⟩ := List.mem_map.1 hs
 have := h r hr
 show ¬ (r.kind == q) = true
 rw [beq_iff_eq]
 exact this
theorem kinds (x : Spec) : (∀ r ∈ rowPhdr x, r.kind = 6) /\ (∀ r ∈ rowInterp x, r.kind = 3) /\ (∀ r ∈ rowFirst x, r.kind = 1) /\ (∀ r ∈ rowText x, r.kind = 1) /\ (∀ r ∈ rowData x, r.kind = 1) /\ (∀ r ∈ rowDyn x, r.kind = 2) := by
 refine ⟨fun r hr => ?_, fun r hr => ?_, fun r hr => ?_, fun r hr => ?_, fun r hr => ?_, fun r hr => ?_⟩
 ·rw [List.mem_singleton.1 hr]; rfl
 ·unfold rowInterp at hr
  split at hr
  ·rw [List.mem_singleton.1 hr]; rfl
  ·cases hr
 ·rw [List.mem_singleton.1 hr]; rfl
 ·unfold rowText at hr
  split at hr
  ·rw [List.mem_singleton.1 hr]
  ·cases hr
 ·unfold rowData at hr
  split at hr
  ·rw [List.mem_singleton.1 hr]
  ·cases hr
 ·unfold rowDyn at hr
  split at hr
  ·rw [List.mem_singleton.1 hr]; rfl
  ·cases hr
theorem tJ9 (x : Spec) : ((rows x).map sg).find? (fun s => s.kind == 2) = if x.dynamic = true then some (sg (inRow x 2 (pad 8 (front1 x)).length (room x) 8)) else none := by
 obtain ⟨k1, k2, k3, k4, k5, k6⟩ := kinds x
 have e : ((rows x).map sg) = (rowPhdr x ++ rowInterp x ++ rowFirst x ++ rowText x ++ rowData x).map sg ++ (rowDyn x).map sg := by unfold rows; rw [List.map_append]
 rw [e, List.find?_append, vJz (q := 2) (by
  intro r hr
  simp only [List.mem_append] at hr
  rcases hr with (((hr | hr) | hr) | hr) | hr
  ·rw [k1 r hr]; decide
  ·rw [k2 r hr]; decide
  ·rw [k3 r hr]; decide
  ·rw [k4 r hr]; decide
  ·rw [k5 r hr]; decide)]
 unfold rowDyn
 split
 ·rfl
 ·rfl
theorem ent_val {b : List UInt8} {E : List (Nat × Nat)} {lo : Nat} (hs : SecAt x b E lo (front2 x).length oh os o1 o2 ot) (h2 : (front2 x).length <= 65536) : ∀ e ∈ ent x oh os o1 o2 ot, e.1 ≠ 0 /\ e.1 < 18446744073709551616 /\ e.2 < 18446744073709551616 := by
 have hb := yJa x
 obtain ⟨-, t1, t2⟩ := hs.texts
 intro e he
 unfold ent at he
 rcases List.mem_append.1 he with he | he
 ·have g1 := uJj _ e he
  have g2 := heads_val _ e he
  omega
 ·unfold tells at he
  simp only [List.mem_append] at he
  rcases he with he | he | he | he
  ·split at he
   ·cases he
   ·rename_i hn
    obtain ⟨-, a1, a2⟩ := hs.hash hn
    obtain ⟨-, b1, b2⟩ := hs.syms hn
    simp only [List.mem_cons, List.not_mem_nil, or_false] at he
    rcases he with rfl | rfl | rfl
    ·exact ⟨by simp, by simp, by show base x + oh < _; omega⟩
    ·exact ⟨by simp, by simp, by show base x + os < _; omega⟩
    ·decide
  ·split at he
   ·cases he
   ·rename_i hn
    obtain ⟨-, a1, a2⟩ := hs.one hn
    simp only [List.mem_cons, List.not_mem_nil, or_false] at he
    rcases he with rfl | rfl | rfl
    ·exact ⟨by simp, by simp, by show base x + o1 < _; omega⟩
    ·exact ⟨by simp, by simp, by show (relsB _).length < _; omega⟩
    ·decide
  ·split at he
   ·cases he
   ·rename_i hn
    obtain ⟨-, a1, a2⟩ := hs.two hn
    simp only [List.mem_cons, List.not_mem_nil, or_false] at he
    rcases he with rfl | rfl | rfl
    ·exact ⟨by simp, by simp, by show base x + o2 < _; omega⟩
    ·exact ⟨by simp, by simp, by show (relsB _).length < _; omega⟩
    ·decide
  ·simp only [List.mem_cons, List.not_mem_nil, or_false] at he
   rcases he with rfl | rfl
   ·exact ⟨by simp, by simp, by show base x + ot < _; omega⟩
   ·exact ⟨by simp, by simp, by show (texts3 x.dyn).length < _; omega⟩
theorem open_file (h : Made x) (hd : x.dynamic = true) {E : List (Nat × Nat)} (hE : At (file x) (pad 8 (front1 x)).length (entsB E)) (hl : (entsB E).length = room x) {lo : Nat} (hs : SecAt x (file x) E lo (front2 x).length oh os o1 o2 ot) :
  Dy.open_ (file x) ((rows x).map sg) = (0, some (ent x oh os o1 o2 ot)) := by
 have e := vJk hs
 have hlen : room x = 16 * ((ent x oh os o1 o2 ot).length + 1) := by rw [<- hl, yJ0, e, List.length_append]; rfl
 have hin := hE.1
 rw [hl] at hin
 have hr := ents_read (b := file x) (ent x oh os o1 o2 ot) (room x / 16) (pad 8 (front1 x)).length (ent_val hs h.f2) (by rw [<- e]; exact hE) (by omega)
 unfold Dy.open_
 rw [tJ9, if_pos hd]
 show (if room x % 16 ≠ 0 \/ (file x).length < (pad 8 (front1 x)).length + room x then _ else _) = _
 rw [if_neg (by omega)]
 show (match Dy.ents (file x) (room x / 16) (pad 8 (front1 x)).length with
  | none => (25, none)
  | some L => if Dy.may L = 0 then (0, some L) else (Dy.may L, none)) = _
 rw [hr]
 show (if Dy.may _ = 0 then _ else _) = _
 rw [if_pos (may_ent h.ok)]
theorem yJg {o size : Nat} (h : o + size <= (front2 x).length) (h2 : (front2 x).length <= 65536) : Dy.laid (file x).length (El.loads ((rows x).map sg)) (base x + o) size = some o := by
 have hb := yJa x
 have e : El.loads ((rows x).map sg) = sg (inRow x 1 0 (front2 x).length 4096) :: (rowText x ++ rowData x).map sg := by rw [xJ3]; unfold rowFirst; rfl
 unfold Dy.laid
 rw [e, List.find?_cons_of_pos (by
  show (decide (base x + 0 <= base x + o) && decide (base x + o - (base x + 0) + size <= (front2 x).length)) = true
  rw [Bool.and_eq_true, decide_eq_true_eq, decide_eq_true_eq]
  omega)]
 have hl := file_len x
 have := lens x
 show (if 0 + (base x + o - (base x + 0)) < 18446744073709551616 /\ 0 + (base x + o - (base x + 0)) + size <= (file x).length then some (0 + (base x + o - (base x + 0))) else none) = some o
 rw [if_pos (by omega)]
 congr 1
 omega
theorem text_at {T : List UInt8} {p : Nat} {s : ByteArray} (h : At T p (s.data.toList ++ [0])) (hs : has s = false) : Dy.text T p = some s := by
 obtain ⟨h1, h2⟩ := h.split
 have hd : T.drop p = s.data.toList ++ (([0] : List UInt8) ++ T.drop (p + (s.data.toList ++ [0]).length)) := by
  conv => lhs; rw [h1]
  rw [List.drop_left' h2, List.append_assoc]
 have hlt := h.1
 rw [List.length_append] at hlt
 have hn : ∀ c ∈ s.data.toList, (c != 0) = true := by
  intro c hc
  unfold has at hs
  rw [bne_iff_ne]
  intro e
  subst e
  have : s.data.toList.contains 0 = true := List.contains_iff_mem.2 hc
  rw [this] at hs
  cases hs
 unfold Dy.text
 rw [if_neg (by simp at hlt; omega), hd, if_pos (by simp)]
 have e : (s.data.toList ++ (([0] : List UInt8) ++ T.drop (p + (s.data.toList ++ [0]).length))).takeWhile (fun c => c != 0) = s.data.toList := by
  rw [List.takeWhile_append_of_pos hn]
  simp
 rw [e]
theorem At.pre {T U l : List UInt8} {p : Nat} (h : At T p l) (hp : T <+: U) : At U p l := by
 obtain ⟨s, rfl⟩ := hp
 exact h.app s
theorem put_at {t : List UInt8} (s : ByteArray) (h0 : [0] <+: t) : At (put t s) (place t s) (s.data.toList ++ [0]) := by
 unfold put place
 by_cases e : s.size = 0
 ·rw [if_pos e, if_pos e]
  have : s.data.toList = [] := List.eq_nil_of_length_eq_zero (by rw [Array.length_toList]; exact e)
  rw [this]
  have h1 : At [0] 0 ([] ++ [0]) := At.of (P := []) (S := []) rfl rfl
  exact h1.pre h0
 ·rw [if_neg e, if_neg e, List.append_assoc]
  exact At.end_ rfl
theorem vJ7 {t T : List UInt8} {s : ByteArray} (h0 : [0] <+: t) (hT : put t s <+: T) (hs : has s = false) : Dy.text T (place t s) = some s := text_at ((put_at s h0).pre hT) hs
theorem texts_needed {T : List UInt8} {run : Bool} : ∀ (l : List ByteArray) (t : List UInt8) (R : List (Nat × Nat)) (d : Dy.Dyn), [0] <+: t -> puts t l <+: T -> (∀ s ∈ l, has s = false) ->
  Dy.texts T run (((places t l).map fun p => (1, p)) ++ R) d = Dy.texts T run R { d with needed := d.needed ++ l } := by
 intro l
 induction l with
 | nil =>
  intro t R d _ _ _
  show Dy.texts T run R d = _
  rw [List.append_nil]
 | cons s r ih =>
  intro t R d h0 hT hs
  have h1 : put t s <+: T := (wJ6 r (put t s)).trans hT
  have e : Dy.text T (place t s) = some s := vJ7 h0 h1 (hs s (List.mem_cons_self ..))
  show Dy.texts T run ((1, place t s) :: (((places (put t s) r).map fun p => (1, p)) ++ R)) d = _
  rw [Dy.texts, if_pos (.inl rfl), e]
  show Dy.texts T run _ (if (1 : Nat) = 1 then { d with needed := d.needed ++ [s] } else _) = _
  rw [if_pos rfl, ih (put t s) R _ (h0.trans (wJs t s)) hT (fun q hq => hs q (List.mem_cons_of_mem _ hq))]
  show Dy.texts T run R { d with needed := (d.needed ++ [s]) ++ r } = _
  rw [List.append_assoc]
  rfl
theorem texts_29 {T : List UInt8} {run : Bool} {p : Nat} {s : ByteArray} {R : List (Nat × Nat)} {d : Dy.Dyn} (h : Dy.text T p = some s) : Dy.texts T run ((29, p) :: R) d = Dy.texts T run R { d with run := s } := by
 rw [Dy.texts, if_pos (.inr (.inr (.inr rfl))), h]
 show Dy.texts T run R (if (29 : Nat) = 1 then _ else if (29 : Nat) = 14 then _ else if (29 : Nat) = 29 \/ run = false then _ else _) = _
 rw [if_neg (by decide), if_neg (by decide), if_pos (.inl rfl)]
theorem texts_14 {T : List UInt8} {run : Bool} {p : Nat} {s : ByteArray} {R : List (Nat × Nat)} {d : Dy.Dyn} (h : Dy.text T p = some s) : Dy.texts T run ((14, p) :: R) d = Dy.texts T run R { d with soname := s } := by
 rw [Dy.texts, if_pos (.inr (.inl rfl)), h]
 show Dy.texts T run R (if (14 : Nat) = 1 then _ else if (14 : Nat) = 14 then _ else _) = _
 rw [if_neg (by decide), if_pos rfl]
theorem texts_skip {T : List UInt8} {run : Bool} : ∀ (R : List (Nat × Nat)) (d : Dy.Dyn), (∀ e ∈ R, e.1 ≠ 1 /\ e.1 ≠ 14 /\ e.1 ≠ 15 /\ e.1 ≠ 29) -> Dy.texts T run R d = some d := by
 intro R
 induction R with
 | nil => intro d _; rfl
 | cons e r ih =>
  intro d h
  obtain ⟨a, b, c, f⟩ := h e (List.mem_cons_self ..)
  rw [Dy.texts, if_neg (by omega)]
  exact ih d fun q hq => h q (List.mem_cons_of_mem _ hq)
theorem tells_tags : ∀ e ∈ tells x oh os o1 o2 ot, e.1 ≠ 1 /\ e.1 ≠ 14 /\ e.1 ≠ 15 /\ e.1 ≠ 29 := by
 intro e he
 unfold tells at he
 by_cases a : x.dyn.syms.length = 0 <;> by_cases b : last x = 0 <;> by_cases c : x.apart.toNat = 0 <;> simp [a, b, c] at he <;> rcases he with rfl | rfl | rfl | rfl | rfl | rfl | rfl | rfl | rfl | rfl | rfl | rfl <;> simp
theorem wJ4 {s : ByteArray} (h : s.size = 0) : s = ⟨#[]⟩ := by
 obtain ⟨a⟩ := s
 have : a = #[] := Array.eq_empty_of_size_eq_zero h
 rw [this]
theorem texts_ent (h : MayOk x) (run : Bool) : Dy.texts (texts3 x.dyn) run (ent x oh os o1 o2 ot) Dy.zero = some ⟨x.dyn.needed, x.dyn.soname, x.dyn.run, [], []⟩ := by
 obtain ⟨p0, p1, p2, p3⟩ := vJe x.dyn
 have hsk : ∀ d, Dy.texts (texts3 x.dyn) run (tells x oh os o1 o2 ot) d = some d := fun d => texts_skip _ d tells_tags
 have hrun : ∀ so ne, Dy.texts (texts3 x.dyn) run ((if x.dyn.run.size = 0 then [] else [(29, place (texts1 x.dyn) x.dyn.run)]) ++ tells x oh os o1 o2 ot) ⟨ne, so, ⟨#[]⟩, [], []⟩ = some ⟨ne, so, x.dyn.run, [], []⟩ := by
  intro so ne
  by_cases e : x.dyn.run.size = 0
  ·rw [if_pos e, List.nil_append, hsk, wJ4 e]
  ·rw [if_neg e]
   have e2 : Dy.text (texts3 x.dyn) (place (texts1 x.dyn) x.dyn.run) = some x.dyn.run := vJ7 (p0.trans p1) p3 h.s4
   exact (texts_29 (R := tells x oh os o1 o2 ot) e2).trans (hsk _)
 have hso : ∀ ne, Dy.texts (texts3 x.dyn) run ((if x.dyn.soname.size = 0 then [] else [(14, place (texts0 x.dyn) x.dyn.soname)]) ++ ((if x.dyn.run.size = 0 then [] else [(29, place (texts1 x.dyn) x.dyn.run)]) ++ tells x oh os o1 o2 ot)) ⟨ne, ⟨#[]⟩, ⟨#[]⟩, [], []⟩ = some ⟨ne, x.dyn.soname, x.dyn.run, [], []⟩ := by
  intro ne
  by_cases e : x.dyn.soname.size = 0
  ·rw [if_pos e, List.nil_append, hrun, wJ4 e]
  ·rw [if_neg e]
   have e2 : Dy.text (texts3 x.dyn) (place (texts0 x.dyn) x.dyn.soname) = some x.dyn.soname := vJ7 p0 (p2.trans p3) h.s3
   exact (texts_14 (R := (if x.dyn.run.size = 0 then [] else [(29, place (texts1 x.dyn) x.dyn.run)]) ++ tells x oh os o1 o2 ot) e2).trans (hrun _ _)
 have e : ent x oh os o1 o2 ot = ((places [0] x.dyn.needed).map fun p => (1, p)) ++ ((if x.dyn.soname.size = 0 then [] else [(14, place (texts0 x.dyn) x.dyn.soname)]) ++ ((if x.dyn.run.size = 0 then [] else [(29, place (texts1 x.dyn) x.dyn.run)]) ++ tells x oh os o1 o2 ot)) := by
  unfold ent heads2 heads1 heads0
  by_cases a : x.dyn.soname.size = 0 <;> by_cases b : x.dyn.run.size = 0 <;> simp [a, b]
 rw [e, texts_needed _ _ _ _ (List.prefix_refl _) (p1.trans (p2.trans p3)) h.s1]
 exact hso _
end
end Go.Proofs.YtnbecdahfgkffaaGreat.Mk
namespace Go.Proofs.YtnbecdahfgkffaaGreat.Mk
open Cl (lb lb_len uJ6)
def toRel (r : Rel) : Dy.Rel := ⟨r.off, r.type, r.sym.toNat, word r.add⟩
def toDyn (d : Dyn) : Dy.Dyn := ⟨d.needed, d.soname, d.run, d.syms, d.relas.map toRel⟩
structure NumOk (x : Spec) : Prop where
 sy : ∀ y ∈ x.dyn.syms, y.value < 18446744073709551616 /\ y.size < 18446744073709551616
 re : ∀ r ∈ x.dyn.relas, r.off < 18446744073709551616 /\ r.type < 4294967296
theorem word_lt (x : Int) : word x < 18446744073709551616 := by unfold word; omega
theorem word_nat {x : Int} (h0 : 0 <= x) (h : x < 18446744073709551616) : word x = x.toNat := by unfold word; omega
theorem relsB_cons (r : Rel) (l : List Rel) : relsB (r :: l) = relB r ++ relsB l := by unfold relsB; rw [List.flatMap_cons]
theorem relsB_app (a b : List Rel) : relsB (a ++ b) = relsB a ++ relsB b := by unfold relsB; rw [List.flatMap_append]
theorem rel_at {b : List UInt8} {p m : Nat} {r : Rel} (h : At b p (relB r)) (h1 : r.off < 18446744073709551616) (h2 : r.type < 4294967296) (h3 : 0 <= r.sym) (h4 : r.sym <= (m : Nat)) (hm : m <= 64) :
  Dy.relAt b p = toRel r /\ ¬ m < Wd.num b (p + 12) 4 := by
 have h' : At b p (((lb r.off 8 ++ lb r.type 4) ++ lb (word r.sym) 4) ++ lb (word r.add) 8) := h
 have hw : word r.sym = r.sym.toNat := word_nat h3 (by omega)
 have e1 := h'.left.left.left.num (by omega)
 have e2 := (h'.left.left.right (p := p + 8) (by simp [lb_len])).num (by omega)
 have e3 := (h'.left.right (p := p + 12) (by simp [lb_len])).num (by rw [hw]; omega)
 have e4 := (h'.right (p := p + 16) (by simp [lb_len])).num (by have := word_lt r.add; omega)
 refine ⟨?_, by rw [e3, hw]; omega⟩
 unfold Dy.relAt toRel
 rw [e1, e2, e3, e4, hw]
theorem rels_at {b : List UInt8} {m : Nat} (hm : m <= 64) : ∀ (l : List Rel) (p : Nat), At b p (relsB l) -> (∀ r ∈ l, r.off < 18446744073709551616 /\ r.type < 4294967296 /\ 0 <= r.sym /\ r.sym <= (m : Nat)) -> Dy.relsFrom m b l.length p = some (l.map toRel) := by
 intro l
 induction l with
 | nil => intro p _ _; rfl
 | cons r t ih =>
  intro p h hall
  rw [relsB_cons] at h
  obtain ⟨g1, g2, g3, g4⟩ := hall r (List.mem_cons_self ..)
  obtain ⟨e1, e2⟩ := rel_at h.left g1 g2 g3 g4 hm
  have h2 := ih (p + 24) (h.right (by simp [relB, lb_len])) (fun q hq => hall q (List.mem_cons_of_mem _ hq))
  rw [List.length_cons, Dy.relsFrom, if_neg e2, h2, e1]
  rfl
theorem sym_read {T b : List UInt8} {p q : Nat} {s : Dy.Sym} (h : At b p (symB q s)) (ht : Dy.text T q = some s.name) (hq : q < 4294967296) (h1 : s.bind <= 2) (h2 : s.value < 18446744073709551616) (h3 : s.size < 18446744073709551616) : Dy.symAt T b p = some s := by
 have h' : At b p ((((lb q 4 ++ (lb (s.bind * 16) 1 ++ lb 0 1)) ++ lb (if s.isdef = true then 1 else 0) 2) ++ lb s.value 8) ++ lb s.size 8) := h
 have e1 := h'.left.left.left.left.num (by omega)
 have e2 := (h'.left.left.left.right (p := p + 4) (by simp [lb_len])).left.num (by omega)
 have e3 := (h'.left.left.right (p := p + 6) (by simp [lb_len])).num (by split <;> omega)
 have e4 := (h'.left.right (p := p + 8) (by simp [lb_len])).num (by omega)
 have e5 := (h'.right (p := p + 16) (by simp [lb_len])).num (by omega)
 unfold Dy.symAt
 rw [e1, ht]
 show (if 2 < Wd.num b (p + 4) 1 / 16 then none else some (⟨s.name, Wd.num b (p + 8) 8, Wd.num b (p + 16) 8, Wd.num b (p + 4) 1 / 16, decide (Wd.num b (p + 6) 2 ≠ 0)⟩ : Dy.Sym)) = some s
 rw [e2, e3, e4, e5, if_neg (by omega), Nat.mul_div_cancel _ (by decide)]
 obtain ⟨n, v, z, bi, d⟩ := s
 cases d <;> rfl
theorem syms_read {T b : List UInt8} (hT : T.length <= 65536) : ∀ (l : List Dy.Sym) (t : List UInt8) (p : Nat), At b p (symRows t l) -> [0] <+: t -> puts t (names l) <+: T -> (∀ s ∈ l, has s.name = false /\ s.bind <= 2 /\ s.value < 18446744073709551616 /\ s.size < 18446744073709551616) -> Dy.symsFrom T b l.length p = some l := by
 intro l
 induction l with
 | nil => intro t p _ _ _ _; rfl
 | cons s r ih =>
  intro t p h h0 hp hall
  obtain ⟨g1, g2, g3, g4⟩ := hall s (List.mem_cons_self ..)
  have h' : At b p (symB (place t s.name) s ++ symRows (put t s.name) r) := h
  have hp' : puts (put t s.name) (names r) <+: T := hp
  have hpr : put t s.name <+: T := (wJ6 _ _).trans hp'
  have ht : Dy.text T (place t s.name) = some s.name := vJ7 h0 hpr g1
  have hq := yJr t s.name
  have hq2 := ((wJs t s.name).trans hpr).length_le
  have e := sym_read h'.left ht (by omega) g2 g3 g4
  have h2 := ih (put t s.name) (p + 24) (h'.right (by simp [symB, lb_len])) (h0.trans (wJs _ _)) hp' (fun q hq => hall q (List.mem_cons_of_mem _ hq))
  rw [List.length_cons, Dy.symsFrom, e]
  show (Dy.symsFrom T b r.length (p + 24)).map (s :: ·) = some (s :: r)
  rw [h2]
  rfl
section
variable {x : Spec} {oh os o1 o2 ot lo : Nat}
def segs (x : Spec) : List El.Sg := (rows x).map sg
def nameN (x : Spec) (oh os : Nat) : Dy.Names := if x.dyn.syms.length = 0 then ⟨0, 0, 0, 0⟩ else ⟨buckets x.dyn.syms, x.dyn.syms.length + 1, oh, os⟩
theorem uJg (h : Made x) (hs : SecAt x (file x) (ent x oh os o1 o2 ot ++ [(0, 0)]) lo (front2 x).length oh os o1 o2 ot) : Dy.names (file x) (El.loads (segs x)) (ent x oh os o1 o2 ot) = (0, nameN x oh os) := by
 obtain ⟨v5, v10, v4, v6, v11, v7, v8, v9, v23, v2, v20⟩ := vals (x := x) (oh := oh) (os := os) (o1 := o1) (o2 := o2) (ot := ot)
 unfold Dy.names nameN
 rw [v4, v6]
 by_cases hn : x.dyn.syms.length = 0
 ·rw [if_pos hn, if_pos hn, if_pos hn]
 ·rw [if_neg hn, if_neg hn, if_neg hn]
  obtain ⟨a1, a2, a3⟩ := hs.hash hn
  obtain ⟨b1, b2, b3⟩ := hs.syms hn
  rw [hashB_len] at a3
  rw [symsB_len] at b3
  have hk : buckets x.dyn.syms = x.dyn.syms.length / 2 + 1 := rfl
  have h64 := h.ok.n2
  have a1' : At (file x) oh (((lb (buckets x.dyn.syms) 4 ++ lb (x.dyn.syms.length + 1) 4) ++ lbs 4 (heads x.dyn.syms)) ++ lbs 4 (links x.dyn.syms)) := a1
  have e1 := a1'.left.left.left.num (by omega)
  have e2 := (a1'.left.left.right (p := oh + 4) (by simp [lb_len])).num (by omega)
  have f1 : Dy.laid (file x).length (El.loads (segs x)) (base x + oh) 8 = some oh := yJg (by omega) h.f2
  have f2 : Dy.laid (file x).length (El.loads (segs x)) (base x + oh) (8 + 4 * buckets x.dyn.syms + 4 * (x.dyn.syms.length + 1)) = some oh := yJg (by omega) h.f2
  have f3 : Dy.laid (file x).length (El.loads (segs x)) (base x + os) (24 * (x.dyn.syms.length + 1)) = some os := yJg (by omega) h.f2
  simp only [Option.getD_some]
  rw [f1]
  show (if 65 < Wd.num (file x) (oh + 4) 4 then _ else _) = _
  rw [e1, e2, if_neg (by omega), f2, f3]
theorem cut_zero (b : List UInt8) : Dy.cut b 0 0 = [] := by unfold Dy.cut; simp
theorem relaB_file (h : Made x) (hs : SecAt x (file x) (ent x oh os o1 o2 ot ++ [(0, 0)]) lo (front2 x).length oh os o1 o2 ot) : Dy.relaB (file x) (El.loads (segs x)) (ent x oh os o1 o2 ot) = (0, relsB x.dyn.relas) := by
 obtain ⟨v5, v10, v4, v6, v11, v7, v8, v9, v23, v2, v20⟩ := vals (x := x) (oh := oh) (os := os) (o1 := o1) (o2 := o2) (ot := ot)
 have ha0 := h.ok.a0
 have ha1 := h.ok.a1
 have h64 := h.ok.n3
 have hlast : last x = x.dyn.relas.length - x.apart.toNat := rfl
 have t1 : ∃ o, Dy.table (file x).length (El.loads (segs x)) (ent x oh os o1 o2 ot) 7 8 = some (o, (relsB (x.dyn.relas.take (last x))).length) /\ Dy.cut (file x) o (relsB (x.dyn.relas.take (last x))).length = relsB (x.dyn.relas.take (last x)) := by
  unfold Dy.table
  rw [v7, v8]
  by_cases hn : last x = 0
  ·rw [if_pos hn, hn]
   exact ⟨0, rfl, cut_zero _⟩
  ·rw [if_neg hn, if_neg hn]
   obtain ⟨a1, a2, a3⟩ := hs.one hn
   refine ⟨o1, ?_, a1.cut⟩
   show (Dy.laid (file x).length (El.loads (segs x)) (base x + o1) (relsB (x.dyn.relas.take (last x))).length).map _ = _
   rw [show Dy.laid (file x).length (El.loads (segs x)) (base x + o1) (relsB (x.dyn.relas.take (last x))).length = some o1 from yJg (by omega) h.f2]
   rfl
 have t2 : ∃ o, Dy.table (file x).length (El.loads (segs x)) (ent x oh os o1 o2 ot) 23 2 = some (o, (relsB (x.dyn.relas.drop (last x))).length) /\ Dy.cut (file x) o (relsB (x.dyn.relas.drop (last x))).length = relsB (x.dyn.relas.drop (last x)) := by
  unfold Dy.table
  rw [v23, v2]
  by_cases hn : x.apart.toNat = 0
  ·have e : x.dyn.relas.drop (last x) = [] := List.drop_eq_nil_of_le (by omega)
   rw [if_pos hn, e]
   exact ⟨0, rfl, cut_zero _⟩
  ·rw [if_neg hn, if_neg hn]
   obtain ⟨a1, a2, a3⟩ := hs.two hn
   refine ⟨o2, ?_, a1.cut⟩
   show (Dy.laid (file x).length (El.loads (segs x)) (base x + o2) (relsB (x.dyn.relas.drop (last x))).length).map _ = _
   rw [show Dy.laid (file x).length (El.loads (segs x)) (base x + o2) (relsB (x.dyn.relas.drop (last x))).length = some o2 from yJg (by omega) h.f2]
   rfl
 obtain ⟨p1, q1, r1⟩ := t1
 obtain ⟨p2, q2, r2⟩ := t2
 have l1 : (Dy.val (ent x oh os o1 o2 ot) 8).getD 0 = 24 * last x := by
  rw [v8]
  by_cases hn : last x = 0
  ·rw [if_pos hn, hn]; rfl
  ·rw [if_neg hn, Option.getD_some, xJg, List.length_take]; omega
 have l2 : (Dy.val (ent x oh os o1 o2 ot) 2).getD 0 = 24 * x.apart.toNat := by
  rw [v2]
  by_cases hn : x.apart.toNat = 0
  ·rw [if_pos hn, hn]; rfl
  ·rw [if_neg hn, Option.getD_some, xJg, List.length_drop]; omega
 unfold Dy.relaB
 rw [l1, l2, if_neg (by omega), if_neg (by omega), q1, q2]
 show (0, Dy.cut (file x) p1 _ ++ Dy.cut (file x) p2 _) = _
 rw [r1, r2, <- relsB_app, List.take_append_drop]
theorem dparse_file (h : Made x) (hn : NumOk x) (hd : x.dynamic = true) {E : List (Nat × Nat)} (hE : At (file x) (pad 8 (front1 x)).length (entsB E)) (hl : (entsB E).length = room x) (hs : SecAt x (file x) E lo (front2 x).length oh os o1 o2 ot) :
  Dy.parse (file x) (segs x) = (toDyn x.dyn, 0) := by
 have ho := open_file h hd hE hl hs
 rw [vJk hs] at hs
 obtain ⟨v5, v10, v4, v6, v11, v7, v8, v9, v23, v2, v20⟩ := vals (x := x) (oh := oh) (os := os) (o1 := o1) (o2 := o2) (ot := ot)
 obtain ⟨t1, t2, t3⟩ := hs.texts
 have htab : Dy.table (file x).length (El.loads (segs x)) (ent x oh os o1 o2 ot) 5 10 = some (ot, (texts3 x.dyn).length) := by
  unfold Dy.table
  rw [v5, v10]
  show (Dy.laid (file x).length (El.loads (segs x)) (base x + ot) (texts3 x.dyn).length).map _ = _
  rw [show Dy.laid (file x).length (El.loads (segs x)) (base x + ot) (texts3 x.dyn).length = some ot from yJg (by omega) h.f2]
  rfl
 have hna := uJg h hs
 have hre := relaB_file h hs
 have htx := fun run => texts_ent (oh := oh) (os := os) (o1 := o1) (o2 := o2) (ot := ot) h.ok run
 have hsy : Dy.symsFrom (texts3 x.dyn) (file x) ((nameN x oh os).chain - 1) ((nameN x oh os).syms + 24) = some x.dyn.syms := by
  unfold nameN
  by_cases hz : x.dyn.syms.length = 0
  ·rw [if_pos hz, List.eq_nil_of_length_eq_zero hz]
   rfl
  ·rw [if_neg hz]
   obtain ⟨b1, b2, b3⟩ := hs.syms hz
   obtain ⟨p0, p1, p2, p3⟩ := vJe x.dyn
   have hf := h.f2
   refine syms_read (by omega) x.dyn.syms (texts2 x.dyn) (os + 24) (At.right (l := zs 24) b1 (by rw [yJj])) (p0.trans (p1.trans p2)) (List.prefix_refl _) (fun s hs => ⟨(h.ok.s2 s hs).1, (h.ok.s2 s hs).2, (hn.sy s hs).1, (hn.sy s hs).2⟩)
 have hrl : Dy.relsFrom x.dyn.syms.length (relsB x.dyn.relas) ((relsB x.dyn.relas).length / 24) 0 = some (x.dyn.relas.map toRel) := by
  rw [xJg, Nat.mul_div_cancel_left _ (by decide)]
  exact rels_at h.ok.n2 _ _ (At.of (P := []) (S := []) (by simp) rfl) (fun r hr => ⟨(hn.re r hr).1, (hn.re r hr).2, (h.ok.rel r hr).1, (h.ok.rel r hr).2⟩)
 have ho' : Dy.open_ (file x) (segs x) = (0, some (ent x oh os o1 o2 ot)) := ho
 unfold Dy.parse
 simp only [ho', htab, hna, hre, t1.cut, htx, hsy, hrl, ne_eq, not_true_eq_false, if_false]
 rfl
theorem dyn_file (h : Made x) (hn : NumOk x) : Dy.parse (file x) (segs x) = (toDyn x.dyn, 0) := by
 cases hd : x.dynamic with
 | true =>
  obtain ⟨E, oh, os, o1, o2, ot, h1, h2, h3⟩ := file_sec hd
  exact dparse_file h hn hd h1 h2 h3
 | false =>
  have he := h.ok.empty hd
  unfold empty at he
  simp only [Bool.and_eq_true, decide_eq_true_eq] at he
  obtain ⟨e1, e2, e3⟩ := he
  have ho : Dy.open_ (file x) (segs x) = (0, none) := by
   unfold Dy.open_ segs
   rw [tJ9, if_neg (by rw [hd]; decide)]
  unfold Dy.parse
  rw [ho]
  unfold toDyn
  rw [List.eq_nil_of_length_eq_zero (show x.dyn.needed.length = 0 by omega), List.eq_nil_of_length_eq_zero (show x.dyn.syms.length = 0 by omega), List.eq_nil_of_length_eq_zero (show x.dyn.relas.length = 0 by omega), wJ4 e2, wJ4 e3]
  rfl
end
end Go.Proofs.YtnbecdahfgkffaaGreat.Mk
namespace Go.Proofs.YtnbecdahfgkffaaGreat.Mk
open Cl (lb lb_len uJ6)
theorem lbs_at {b : List UInt8} {k : Nat} : ∀ (l : List Nat) (p i v : Nat), At b p (lbs k l) -> l[i]? = some v -> v < 256 ^ k -> Wd.num b (p + k * i) k = v := by
 intro l
 induction l with
 | nil => intro p i v _ h _; simp at h
 | cons a r ih =>
  intro p i v h hi hv
  have h' : At b p (lb a k ++ lbs k r) := h
  cases i with
  | zero =>
   have e : a = v := by simpa using hi
   subst e
   exact h'.left.num hv
  | succ j =>
   have e := ih (p + k) j v (h'.right (by rw [lb_len])) (by simpa using hi) hv
   rw [<- e]
   congr 1
   rw [Nat.mul_succ]
   omega
def chainL (n b : Nat) : List Dy.Sym -> Nat -> List Nat
 | [], _ => []
 | s :: r, i => if hashOf s % n = b then (i + 1) :: chainL n b r (i + 1) else chainL n b r (i + 1)
theorem tJ0 (n b : Nat) : ∀ (l : List Dy.Sym) (i : Nat), nextL n b l i <= i + l.length := by
 intro l
 induction l with
 | nil => intro i; exact Nat.zero_le _
 | cons s r ih =>
  intro i
  rw [nextL, List.length_cons]
  split
  ·omega
  ·have := ih (i + 1); omega
theorem zero_links {b : List UInt8} {N : Dy.Names} : ∀ k, Dy.linksFrom b N k 0 = ([], true)
 | 0 => rfl
 | k + 1 => by rw [Dy.linksFrom, if_pos rfl]
theorem links_chain {b : List UInt8} {N : Dy.Names} {l : List Dy.Sym} {n bk : Nat} (hc : N.chain = l.length + 1)
  (hn : ∀ i s, l[i]? = some s -> hashOf s % n = bk -> Wd.num b (N.hash + 8 + 4 * N.buckets + 4 * (i + 1)) 4 = nextL n bk (l.drop (i + 1)) (i + 1)) :
  ∀ (r : List Dy.Sym) (i k : Nat), l.drop i = r -> r.length <= k -> Dy.linksFrom b N k (nextL n bk r i) = (chainL n bk r i, true) := by
 intro r
 induction r with
 | nil => intro i k _ _; exact zero_links k
 | cons s t ih =>
  intro i k hd hk
  have hi : l[i]? = some s := by
   have := List.getElem?_drop (xs := l) (i := i) (j := 0)
   rw [hd] at this
   simpa using this.symm
  have hd2 : l.drop (i + 1) = t := by
   have : l.drop (i + 1) = (l.drop i).drop 1 := by rw [List.drop_drop]
   rw [this, hd]
   rfl
  have hlt : i < l.length := (List.getElem?_eq_some_iff.1 hi).1
  obtain ⟨k, rfl⟩ : ∃ j, k = j + 1 := ⟨k - 1, by simp at hk; omega⟩
  rw [nextL, chainL]
  by_cases e : hashOf s % n = bk
  ·rw [if_pos e, if_pos e, Dy.linksFrom, if_neg (by omega), if_neg (by omega), hn i s hi e, hd2, ih (i + 1) k hd2 (by simp at hk; omega)]
  ·rw [if_neg e, if_neg e]
   exact ih (i + 1) (k + 1) hd2 (by simp at hk; omega)
theorem chain_mem {n bk : Nat} : ∀ (r : List Dy.Sym) (i j : Nat) (s : Dy.Sym), r[j]? = some s -> hashOf s % n = bk -> (i + j + 1) ∈ chainL n bk r i := by
 intro r
 induction r with
 | nil => intro i j s h _; simp at h
 | cons a t ih =>
  intro i j s h hb
  rw [chainL]
  cases j with
  | zero =>
   have e : a = s := by simpa using h
   subst e
   rw [if_pos hb]
   exact List.mem_cons_self ..
  | succ q =>
   have h2 := ih (i + 1) q s (by simpa using h) hb
   have e : i + 1 + q + 1 = i + (q + 1) + 1 := by omega
   rw [e] at h2
   split
   ·exact List.mem_cons_of_mem _ h2
   ·exact h2
section
variable {x : Spec} {oh os o1 o2 ot lo : Nat}
theorem links_file (h : Made x) {E : List (Nat × Nat)} (hs : SecAt x (file x) E lo (front2 x).length oh os o1 o2 ot) (name : List UInt8) :
  Dy.links (file x) (nameN x oh os) name = (chainL (buckets x.dyn.syms) (Dy.hash name % buckets x.dyn.syms) x.dyn.syms 0, true) := by
 unfold Dy.links nameN
 by_cases hz : x.dyn.syms.length = 0
 ·rw [if_pos hz, List.eq_nil_of_length_eq_zero hz]
  rfl
 ·rw [if_neg hz]
  obtain ⟨a1, a2, a3⟩ := hs.hash hz
  have hk : buckets x.dyn.syms = x.dyn.syms.length / 2 + 1 := rfl
  have h64 := h.ok.n2
  have a1' : At (file x) oh (((lb (buckets x.dyn.syms) 4 ++ lb (x.dyn.syms.length + 1) 4) ++ lbs 4 (heads x.dyn.syms)) ++ lbs 4 (links x.dyn.syms)) := a1
  have hh : (heads x.dyn.syms).length = buckets x.dyn.syms := by unfold heads; simp
  have b1 : At (file x) (oh + 8) (lbs 4 (heads x.dyn.syms)) := a1'.left.right (by simp [lb_len])
  have b2 : At (file x) (oh + 8 + 4 * buckets x.dyn.syms) (lbs 4 (links x.dyn.syms)) := a1'.right (by simp only [List.length_append, lb_len, lbs_len, hh]; omega)
  have hlt : Dy.hash name % buckets x.dyn.syms < buckets x.dyn.syms := Nat.mod_lt _ (by omega)
  have e1 : Wd.num (file x) (oh + 8 + 4 * (Dy.hash name % buckets x.dyn.syms)) 4 = nextL (buckets x.dyn.syms) (Dy.hash name % buckets x.dyn.syms) x.dyn.syms 0 := by
   have hv := tJ0 (buckets x.dyn.syms) (Dy.hash name % buckets x.dyn.syms) x.dyn.syms 0
   refine lbs_at _ _ _ _ b1 ?_ (by omega)
   unfold heads
   rw [List.getElem?_map, List.getElem?_range hlt]
   rfl
  show (if buckets x.dyn.syms = 0 then _ else Dy.linksFrom (file x) ⟨buckets x.dyn.syms, x.dyn.syms.length + 1, oh, os⟩ (x.dyn.syms.length + 1) (Wd.num (file x) (oh + 8 + 4 * (Dy.hash name % buckets x.dyn.syms)) 4)) = _
  rw [if_neg (by omega), e1]
  refine links_chain (l := x.dyn.syms) rfl (fun i s hi he => ?_) x.dyn.syms 0 (x.dyn.syms.length + 1) rfl (by omega)
  have hv := tJ0 (buckets x.dyn.syms) (Dy.hash name % buckets x.dyn.syms) (x.dyn.syms.drop (i + 1)) (i + 1)
  have hil := (List.getElem?_eq_some_iff.1 hi).1
  rw [List.length_drop] at hv
  refine lbs_at _ _ _ _ b2 ?_ (by omega)
  unfold links
  rw [List.getElem?_cons_succ, List.getElem?_map, List.getElem?_range hil]
  show some (linkOf x.dyn.syms i) = _
  unfold linkOf
  rw [hi]
  show some (next x.dyn.syms (buckets x.dyn.syms) (hashOf s % buckets x.dyn.syms) (i + 1)) = _
  rw [he]
  rfl
theorem rights {b : List UInt8} {N : Dy.Names} {l : List Dy.Sym} {n : Nat} (hl : ∀ name, Dy.links b N name = (chainL n (Dy.hash name % n) l 0, true)) : ∀ (r : List Dy.Sym) (i : Nat), l.drop i = r -> Dy.rightFrom b N r i = true := by
 intro r
 induction r with
 | nil => intro i _; rfl
 | cons s t ih =>
  intro i hd
  have hi : l[i]? = some s := by
   have := List.getElem?_drop (xs := l) (i := i) (j := 0)
   rw [hd] at this
   simpa using this.symm
  have hd2 : l.drop (i + 1) = t := by
   have : l.drop (i + 1) = (l.drop i).drop 1 := by rw [List.drop_drop]
   rw [this, hd]
   rfl
  have hm := chain_mem (n := n) (bk := Dy.hash s.name.data.toList % n) l 0 i s hi rfl
  rw [Nat.zero_add] at hm
  rw [Dy.rightFrom, ih (i + 1) hd2, hl, Bool.and_true, Bool.true_and, Bool.or_eq_true]
  exact .inr (List.contains_iff_mem.2 hm)
theorem right_file (h : Made x) (hn : NumOk x) : Dy.right (file x) (segs x) = true := by
 have hp := dyn_file h hn
 unfold Dy.right
 rw [hp, if_neg (show ¬ (0 : Int) ≠ 0 from by decide)]
 cases hd : x.dynamic with
 | true =>
  obtain ⟨E, oh, os, o1, o2, ot, h1, h2, h3⟩ := file_sec hd
  have ho : Dy.open_ (file x) (segs x) = (0, some (ent x oh os o1 o2 ot)) := open_file h hd h1 h2 h3
  have hna := uJg h (by rw [<- vJk h3]; exact h3)
  rw [ho]
  show Dy.rightFrom (file x) (Dy.names (file x) (El.loads (segs x)) (ent x oh os o1 o2 ot)).2 x.dyn.syms 0 = true
  rw [hna]
  exact rights (links_file h h3) x.dyn.syms 0 rfl
 | false =>
  have ho : Dy.open_ (file x) (segs x) = (0, none) := by
   unfold Dy.open_ segs
   rw [tJ9, if_neg (by rw [hd]; decide)]
  rw [ho]
end
end Go.Proofs.YtnbecdahfgkffaaGreat.Mk
namespace Go.Proofs.YtnbecdahfgkffaaGreat
theorem Mk.make_made {x : Mk.Spec} (h : (Mk.make x).2 = 0) (he : x.entry < 18446744073709551616) : Mk.Made x /\ (Mk.make x).1 = Mk.file x := by
 unfold Mk.make at h ⊢
 by_cases h1 : Mk.may x ≠ 0
 ·rw [if_pos h1] at h
  exact absurd h h1
 ·rw [if_neg h1] at h ⊢
  by_cases h2 : 65536 < (Mk.front2 x).length \/ 65536 < (Mk.out2 x).length
  ·rw [if_pos h2] at h
   cases h
  ·rw [if_neg h2]
   exact ⟨⟨tJ1 (Decidable.not_not.1 h1), he, by omega, by omega⟩, rfl⟩
theorem Mk.segs_fit {x : Mk.Spec} (h : Mk.Made x) : ∀ s ∈ Mk.segs x, SgFit s := by
 intro s hs
 obtain ⟨r, hr, rfl⟩ := List.mem_map.1 hs
 have g := Mk.rows_g h r hr
 exact ⟨g.fit.kind, by have := g.flags; show r.flags < 256; omega, g.fit.off, g.fit.addr, g.fit.fsz, g.fit.msz⟩
end Go.Proofs.YtnbecdahfgkffaaGreat
namespace Go.Proofs.YtnbecdahfgkffaaGreat.Mk
open Cl (lb lb_len uJ6)
theorem fold_at (base : Nat) : ∀ (ps : List (Nat × List UInt8)) (q : List UInt8 × List (Nat × Nat)) (o : Nat) (l : List UInt8), At q.1 o l -> At (ps.foldl (stepPart base) q).1 o l := by
 intro ps
 induction ps with
 | nil => intro q o l h; exact h
 | cons p r ih =>
  intro q o l h
  obtain ⟨_, _, _, _, _, up⟩ := wJo base q p
  exact ih _ _ _ (up _ _ h)
section
variable {x : Spec}
theorem tJ6 {o : Nat} {l : List UInt8} (h : At (front1 x) o l) : At (front2 x) o l := by
 unfold front2
 by_cases hd : x.dynamic = true
 ·rw [if_pos hd]
  unfold section_
  have h0 : At (pad 8 (front1 x) ++ zs (room x)) o l := by
   unfold pad
   rw [List.append_assoc]
   exact h.app _
  have h1 : At (laidParts x (front1 x)).1 o l := fold_at (base x) (parts x) _ o l h0
  have hr := uJt hd
  have hlen : (front2 x).length = (laidParts x (front1 x)).1.length := by unfold front2; rw [if_pos hd, xJ7]
  have hl := xJb x (front1 x)
  refine h1.over (by omega) (.inr ?_)
  have := h.1
  rw [yJb]
  omega
 ·rw [if_neg hd]
  exact h
theorem out_file {o : Nat} {l : List UInt8} (h : At (out2 x) o l) (ho : 64 + 56 * many x <= o) : At (file x) o l := by
 have hl : (head x (rows x)).length = 64 + 56 * many x := by rw [wJf, yJd]
 unfold file
 refine h.over ?_ (.inl (by rw [hl]; omega))
 have := lens x
 rw [hl]
 omega
theorem interp_at (hi : isInterp x = true) : At (file x) (pad 8 (front0 x)).length (x.interp.data.toList ++ [0]) := by
 refine wJu (tJ6 ?_) ?_
 ·unfold front1
  rw [if_pos hi]
  exact At.end_ rfl
 ·have := lens x
  rw [yJb]
  omega
theorem text_file (hi : isText x = true) : At (file x) (pad 4096 (front2 x)).length x.text := by
 have h1 : At (out1 x) (pad 4096 (front2 x)).length x.text := by
  unfold out1
  rw [if_pos hi]
  exact At.end_ rfl
 refine out_file ?_ (by have := lens x; rw [yJb]; omega)
 unfold out2
 split
 ·unfold pad
  rw [List.append_assoc]
  exact h1.app _
 ·exact h1
theorem data_file (hi : isData x = true) : At (file x) (pad 4096 (out1 x)).length x.data := by
 refine out_file ?_ (by have := lens x; rw [yJb]; omega)
 unfold out2
 rw [if_pos hi]
 exact At.end_ rfl
theorem find_interp (x : Spec) : (segs x).find? (fun s => s.kind == 3) = if isInterp x = true then some (sg (inRow x 3 (pad 8 (front0 x)).length (x.interp.size + 1) 1)) else none := by
 obtain ⟨k1, k2, k3, k4, k5, k6⟩ := kinds x
 have e : segs x = (rowPhdr x).map sg ++ ((rowInterp x).map sg ++ (rowFirst x ++ rowText x ++ rowData x ++ rowDyn x).map sg) := by
  unfold segs rows
  simp only [List.map_append, List.append_assoc]
 rw [e, List.find?_append, vJz (q := 3) (fun r hr => by rw [k1 r hr]; decide), List.find?_append, vJz (l := rowFirst x ++ rowText x ++ rowData x ++ rowDyn x) (q := 3) (by
  intro r hr
  simp only [List.mem_append] at hr
  rcases hr with ((hr | hr) | hr) | hr
  ·rw [k3 r hr]; decide
  ·rw [k4 r hr]; decide
  ·rw [k5 r hr]; decide
  ·rw [k6 r hr]; decide)]
 unfold rowInterp
 split
 ·rfl
 ·rfl
def zeroSg : El.Sg := ⟨0, 0, 0, 0, 0, 0⟩
def textSg (x : Spec) : El.Sg := if isText x = true then ⟨1, 5, (pad 4096 (front2 x)).length, base x + 65536, x.text.length, x.text.length⟩ else zeroSg
def dataSg (x : Spec) : El.Sg := if isData x = true then ⟨1, 6, (pad 4096 (out1 x)).length, base x + 131072, x.data.length, x.data.length + x.more⟩ else zeroSg
def lastAt (a : Nat) (l : List El.Sg) : El.Sg := l.foldl (fun s t => if t.addr = a then t else s) zeroSg
theorem last_text (h : Made x) : lastAt (base x + 65536) (El.loads (segs x)) = textSg x := by
 have e : El.loads (segs x) = (rowFirst x ++ rowText x ++ rowData x).map sg := xJ3 x
 rw [e]
 unfold lastAt textSg rowFirst rowText rowData
 by_cases a : isText x = true <;> by_cases b : isData x = true <;> simp [a, b, sg, inRow]
theorem last_data (h : Made x) : lastAt (base x + 131072) (El.loads (segs x)) = dataSg x := by
 have e : El.loads (segs x) = (rowFirst x ++ rowText x ++ rowData x).map sg := xJ3 x
 rw [e]
 unfold lastAt dataSg rowFirst rowText rowData
 by_cases a : isText x = true <;> by_cases b : isData x = true <;> simp [a, b, sg, inRow]
theorem make_errs (x : Spec) : (make x).2 = 0 \/ (((make x).2 = 1 \/ (make x).2 = 12) /\ (make x).1 = []) := by
 unfold make
 by_cases h : may x ≠ 0
 ·rw [if_pos h]
  refine .inr ⟨?_, rfl⟩
  show may x = 1 \/ may x = 12
  unfold may at h ⊢
  split
  ·exact .inl rfl
  ·split
   ·exact .inl rfl
   ·split
    ·exact .inl rfl
    ·split
     ·exact .inr rfl
     ·rename_i h1 h2 h3 h4
      rw [if_neg h1, if_neg h2, if_neg h3, if_neg h4] at h
      exact absurd rfl h
 ·rw [if_neg h]
  split
  ·exact .inr ⟨.inr rfl, rfl⟩
  ·exact .inl rfl
end
end Go.Proofs.YtnbecdahfgkffaaGreat.Mk
namespace Go.Proofs.YtnbecdahfgkffaaGreat
open Go.RowKit
theorem syInfo : (Tryz.prog.info? 48).map (·.size) = some 5 := by kernel_rfl
set_option maxRecDepth 100000 in
set_option maxHeartbeats 2000000 in
theorem symOf_any (A : Option Addr) (c B gt : Nat) (b : List UInt8) (At : Option Addr) (mt ct : Nat) (t : List UInt8) (w : World) (hB : B <= w.heap.size) (h : Rd w B 1 A 24 (bys b)) (hgt : gt < w.heap.size) (ht : w.cell? ⟨gt, 0, none⟩ = some (.slice At mt ct)) (hT : Rd w B 1 At mt (bys t)) (hmt : mt <= 4294967296) (hmc : mt <= ct) :
  Calls Tryz.prog 61 #[.slice A 24 c, .pointer (some ⟨gt, 0, none⟩)] w (syRowE (Dy.symAt t b 0) w) := by
 have Hb0 : Hid (Below w.heap.size w (w.alloc (.cells #[.string ⟨#[]⟩, .int .u64 0, .int .u64 0, .int .u8 0, .bool false] 48))) := zJ2 ((Below.refl _ _).alloc (Nat.le_refl _) _)
 have Hk0 : Hid (Blk (w.alloc (.cells #[.string ⟨#[]⟩, .int .u64 0, .int .u64 0, .int .u8 0, .bool false] 48)) w.heap.size 48 [.string ⟨#[]⟩, .int .u64 0, .int .u64 0, .int .u8 0, .bool false]) := zJ2 (Blk.new w 48 [.string ⟨#[]⟩, .int .u64 0, .int .u64 0, .int .u8 0, .bool false])
 have KN := zJ2 (fun (p s : Nat) (hs : s = 1 \/ s = 2 \/ s = 4 \/ s = 8) (hin : p + s <= 24) w' (hb : Below w.heap.size w w') => yJ8 A 24 c B b p s w' (Nat.le_trans hB hb.size) (h.below (hb.mono hB)) (by unfold maxLen; omega) hs hin)
 have KT := zJ2 (fun (p : Nat) (hp : p < 18446744073709551616) w' (hb : Below w.heap.size w w') => text_any At mt ct B t p w' (Nat.le_trans hB hb.size) (hT.below (hb.mono hB)) hmt hmc hp)
 have Htc := zJ2 (fun (w' : World) (hb : Below w.heap.size w w') => (World.cell?_of_block (a := ⟨gt, 0, none⟩) (hb.block gt hgt)).trans ht)
 have hx0 := Wd.num_lt b 0 4
 obtain ⟨x0, hx⟩ : ∃ x, Wd.num b 0 4 = x := ⟨_, rfl⟩
 rw [hx] at hx0
 have Hx := zJ2 hx
 have HR := zJ2 h
 have k0 : Calls Tryz.prog 63 #[.slice A 24 c, .int .u64 0, .int .i64 4] (w.alloc (.cells #[.string ⟨#[]⟩, .int .u64 0, .int .u64 0, .int .u8 0, .bool false] 48)).drew (fun e w' => e = .returned (.int .u64 (Wd.num b 0 4 : Nat)) /\ Below (w.alloc (.cells #[.string ⟨#[]⟩, .int .u64 0, .int .u64 0, .int .u8 0, .bool false] 48)).drew.heap.size (w.alloc (.cells #[.string ⟨#[]⟩, .int .u64 0, .int .u64 0, .int .u8 0, .bool false] 48)).drew w') := (zJ1 KN) 0 4 (by omega) (by omega) _ (zJ5 (zJ1 Hb0))
 rw [hx] at k0
 have K1 := zJ2 k0
 clear h hT ht hx k0
 go_enter Tryz.func61, Tryz.ntmps61
 go_wp2_with fail
 refine wp_region_held_drew (S := fun w' => w'.cell? ⟨gt, 0, none⟩ = some (.slice At mt ct)) (by kernel_rfl) ((zJ1 Htc) _ (zJ5 (zJ1 Hb0))) (fun HS0 => ?_)
 refine takeD (i := 0) (d := some 9) (v := ?_) rfl rfl (by kernel_rfl) (by kernel_rfl) (by kernel_rfl) (fun _ _ _ h => h) (Or.inl ⟨by rfl, ?y0⟩) HS0 ?_
 case y0 => (intro w' hSw; (try dsimp only at hSw); go_simp; (try with_reducible rfl))
 simp only [Act.put, List.setIfInBounds_toArray, List.set_cons_zero, List.set_cons_succ]
 refine takeD (i := 1) (d := some 10) (v := ?_) rfl rfl (by kernel_rfl) (by kernel_rfl) (by kernel_rfl) (fun _ _ _ h => h) (Or.inl ⟨by rfl, ?y1⟩) HS0 ?_
 case y1 => (intro w' hSw; (try dsimp only at hSw); go_simp; (try with_reducible rfl))
 simp only [Act.put, List.setIfInBounds_toArray, List.set_cons_zero, List.set_cons_succ]
 refine wpAnyH_ready (rs := [2]) (by kernel_rfl) (by simp) ?_
 refine AllReadyH.cons (i := 2) rfl (fun K hK => ?_) AllReadyH.nil
 rw [if_pos (by rfl)]
 go_simp
 go_at_call 63
 with_reducible refine (zJ1 K1).mono ?_
 rintro e w1 ⟨rfl, hb1⟩
 have HB1 := zJ2 ((zJ5 (zJ1 Hb0)).trans (hb1.mono (zJ5 (zJ1 Hb0)).size))
 have HK1 := zJ2 ((zJ1 Hk0).drew.belowSz hb1)
 have K2 := zJ2 ((zJ1 KT) x0 (by simp at hx0; omega) w1 (zJ1 HB1))
 clear hb1 K1
 refine hK.out _ _ ((zJ1 Htc) _ (zJ1 HB1)) (fun hHeld => ?_)
 clear hK K HS0
 have HS0 := hHeld
 clear hHeld
 (try simp only [Act.put, List.setIfInBounds_toArray, List.set_cons_zero, List.set_cons_succ])
 refine wpAnyH_ready (rs := [3]) (by kernel_rfl) (by simp) ?_
 refine AllReadyH.cons (i := 3) rfl (fun K hK => ?_) AllReadyH.nil
 rw [if_pos (by rfl)]
 go_simp
 go_at_call 62
 with_reducible refine (zJ1 K2).mono ?_
 rintro e w2 ⟨nm, tb, rfl, htx, hb2⟩
 have HB2 := zJ2 ((zJ1 HB1).trans (hb2.mono (zJ1 HB1).size))
 have HK2 := zJ2 ((zJ1 HK1).belowSz hb2)
 have Htx := zJ2 htx
 clear hb2 K2 htx
 refine hK.out _ _ ((zJ1 Htc) _ (zJ1 HB2)) (fun hHeld => ?_)
 clear hK K HS0
 have HS0 := hHeld
 clear hHeld
 (try simp only [Act.put, List.setIfInBounds_toArray, List.set_cons_zero, List.set_cons_succ])
 refine takeD (i := 4) (d := some 8) (v := ?_) rfl rfl (by kernel_rfl) (by kernel_rfl) (by kernel_rfl) (fun _ _ _ h => h) (Or.inl ⟨by rfl, ?y4⟩) HS0 ?_
 case y4 => (intro w' hSw; (try dsimp only at hSw); go_simp; (try with_reducible rfl))
 simp only [Act.put, List.setIfInBounds_toArray, List.set_cons_zero, List.set_cons_succ]
 refine takeD (i := 5) (d := some 13) (v := ?_) rfl rfl (by kernel_rfl) (by kernel_rfl) (by kernel_rfl) (fun _ _ _ h => h) (Or.inl ⟨by rfl, ?y5⟩) HS0 ?_
 case y5 => (intro w' hSw; (try dsimp only at hSw); go_simp; (try with_reducible rfl))
 simp only [Act.put, List.setIfInBounds_toArray, List.set_cons_zero, List.set_cons_succ]
 refine takeD (i := 6) (d := some 14) (v := ?_) rfl rfl (by kernel_rfl) (by kernel_rfl) (by kernel_rfl) (fun _ _ _ h => h) (Or.inl ⟨by rfl, ?y6⟩) HS0 ?_
 case y6 => (intro w' hSw; (try dsimp only at hSw); go_simp; (try with_reducible rfl))
 simp only [Act.put, List.setIfInBounds_toArray, List.set_cons_zero, List.set_cons_succ]
 refine takeD (i := 7) (d := some 5) (v := ?_) rfl rfl (by kernel_rfl) (by kernel_rfl) (by kernel_rfl) (fun _ _ _ h => h) (Or.inl ⟨by rfl, ?y7⟩) HS0 ?_
 case y7 => (intro w' hSw; (try dsimp only at hSw); go_simp; (try with_reducible rfl))
 simp only [Act.put, List.setIfInBounds_toArray, List.set_cons_zero, List.set_cons_succ]
 refine takeD (i := 8) (d := some 6) (v := ?_) rfl rfl (by kernel_rfl) (by kernel_rfl) (by kernel_rfl) (fun _ _ _ h => h) (Or.inl ⟨by rfl, ?y8⟩) HS0 ?_
 case y8 => (intro w' hSw; (try dsimp only at hSw); go_simp; (try with_reducible rfl))
 simp only [Act.put, List.setIfInBounds_toArray, List.set_cons_zero, List.set_cons_succ]
 refine wpAnyH_done (by kernel_rfl) ?_ _
 have hb24 : b.length = 24 := by have := (zJ1 HR).1; simp [bys] at this; omega
 obtain ⟨d4, hd4⟩ : ∃ d, b[4]? = some d := ⟨_, List.getElem?_eq_getElem (by omega)⟩
 obtain ⟨b1, o1, hA1, -, hc4⟩ := ((zJ1 HR).below ((zJ1 HB2).mono hB)).at_ (k := 4) (u := .int .u8 (d4.toNat : Nat)) (by unfold bys; rw [List.getElem?_map, hd4]; rfl)
 subst hA1
 have hd4n : Wd.num b 4 1 = d4.toNat := by rw [Wd.num_cons b 4 0 d4 hd4, Wd.num_zero]; omega
 have hl4 := d4.toNat_lt
 obtain ⟨y, hy⟩ : ∃ y, d4.toNat = y := ⟨_, rfl⟩
 rw [hy] at hc4 hd4n hl4
 have k8 : ∀ W, Below w.heap.size w W -> Calls Tryz.prog 63 #[.slice (some ⟨b1, o1, none⟩) 24 c, .int .u64 8, .int .i64 8] W (fun e w' => e = .returned (.int .u64 (Wd.num b 8 8 : Nat)) /\ Below W.heap.size W w') := fun W h => (zJ1 KN) 8 8 (by omega) (by omega) W h
 have k16 : ∀ W, Below w.heap.size w W -> Calls Tryz.prog 63 #[.slice (some ⟨b1, o1, none⟩) 24 c, .int .u64 16, .int .i64 8] W (fun e w' => e = .returned (.int .u64 (Wd.num b 16 8 : Nat)) /\ Below W.heap.size W w') := fun W h => (zJ1 KN) 16 8 (by omega) (by omega) W h
 have k6 : ∀ W, Below w.heap.size w W -> Calls Tryz.prog 63 #[.slice (some ⟨b1, o1, none⟩) 24 c, .int .u64 6, .int .i64 2] W (fun e w' => e = .returned (.int .u64 (Wd.num b 6 2 : Nat)) /\ Below W.heap.size W w') := fun W h => (zJ1 KN) 6 2 (by omega) (by omega) W h
 have hsym : Dy.symAt t b 0 = match Dy.text t x0 with
  | none => none
  | some s => if 2 < y / 16 then none else some ⟨s, Wd.num b 8 8, Wd.num b 16 8, y / 16, decide (Wd.num b 6 2 ≠ 0)⟩ := by
  unfold Dy.symAt
  simp only [Nat.zero_add]
  rw [zJ1 Hx, hd4n]
  rfl
 obtain ⟨n8, hn8⟩ : ∃ x, Wd.num b 8 8 = x := ⟨_, rfl⟩
 obtain ⟨n16, hn16⟩ : ∃ x, Wd.num b 16 8 = x := ⟨_, rfl⟩
 obtain ⟨n6, hn6⟩ : ∃ x, Wd.num b 6 2 = x := ⟨_, rfl⟩
 rw [hn8] at k8 hsym
 rw [hn16] at k16 hsym
 rw [hn6] at k6 hsym
 have h16 : y / 16 < 16 := by omega
 have K8 := zJ2 k8
 have K16 := zJ2 k16
 have K6 := zJ2 k6
 have HRes : Hid (∀ W, Below w.heap.size w W -> ∀ (ok : Bool), (ok = true ↔ tb = true /\ y / 16 <= 2) -> syRowE (Dy.symAt t b 0) w (.returned (.tuple #[.agg #[.string nm, .int .u64 (n8 : Nat), .int .u64 (n16 : Nat), .int .u8 ((y : Int) / 16), .bool ((n6 : Int) != 0)], .bool ok])) W) := zJ2 (by
  intro W hW ok hok
  refine ⟨hW, ?_⟩
  rw [hsym]
  have hb6 : ((n6 : Int) != 0) = decide (n6 ≠ 0) := by by_cases h : n6 = 0 <;> simp [h] <;> omega
  rw [hb6]
  rcases zJ1 Htx with ⟨rfl, htx⟩ | ⟨rfl, htx⟩
  ·rw [htx]
   dsimp only
   by_cases h2 : 2 < y / 16
   ·rw [if_pos h2]
    have : ok = false := by cases ok with
     | false => rfl
     | true => exact absurd (hok.1 rfl).2 (by omega)
    rw [this]
    exact ⟨_, _, _, _, _, rfl⟩
   ·rw [if_neg h2]
    have : ok = true := hok.2 ⟨rfl, by omega⟩
    rw [this]
    rfl
  ·rw [htx]
   dsimp only
   have : ok = false := by cases ok with
    | false => rfl
    | true => exact absurd (hok.1 rfl).1 (by decide)
   rw [this]
   exact ⟨_, _, _, _, _, rfl⟩)
 clear HR hd4 hd4n hy k8 k16 k6 hsym hn8 hn16 hn6 KN Hx Htc HS0 Hb0 Hk0 hx0 HB1 HK1 Htx
 go_wp2_with fail
 refine ((zJ1 K8) _ (zJ1 HB2)).mono ?_
 rintro e w3 ⟨rfl, hb3⟩
 have HB3 := zJ2 ((zJ1 HB2).trans (hb3.mono (zJ1 HB2).size))
 have HK3 := zJ2 ((zJ1 HK2).belowSz hb3)
 clear hb3 K8
 go_wp2_with fail
 refine ((zJ1 K16) _ (zJ1 HB3)).mono ?_
 rintro e w4 ⟨rfl, hb4⟩
 have HB4 := zJ2 ((zJ1 HB3).trans (hb4.mono (zJ1 HB3).size))
 have HK4 := zJ2 ((zJ1 HK3).belowSz hb4)
 clear hb4 K16
 go_wp2_with fail
 refine ((zJ1 K6) _ (zJ1 HB4)).mono ?_
 rintro e w5 ⟨rfl, hb5⟩
 have HB5 := zJ2 ((zJ1 HB4).trans (hb5.mono (zJ1 HB4).size))
 have HK5 := zJ2 ((zJ1 HK4).belowSz hb5)
 clear hb5 K6 HB2 HK2 HB3 HK3 HB4 HK4
 cases tb
 all_goals (go_wp2_with ((with_reducible refine (@id (wpList _ _ _ (Oper.mk none (Op.store 48 (.tmp 3) (.tmp 28)) _ _ _ none :: _) _ _) ?_)); refine wpList_store_row rfl 48 (.tmp 3) (.tmp 28) rfl w.heap.size #[.string nm, .int .u64 (n8 : Nat), .int .u64 (n16 : Nat), .int .u8 ((y : Int) / 16), .bool ((n6 : Int) != 0)] rfl rfl 48 _ (zJ1 HK5) syInfo rfl (by simp [Value.oneCell']) ?_))
 all_goals (refine bodyPost_ret (results_cell_tmp (P := Tryz.prog) rfl _ _ w.heap.size 48 #[.string nm, .int .u64 (n8 : Nat), .int .u64 (n16 : Nat), .int .u8 ((y : Int) / 16), .bool ((n6 : Int) != 0)] (0, 0) _ rfl (setRow_heap _ _ _ _ _ _ (zJ1 HK5)) Tryz.underlying48 rfl syInfo) rfl ?_)
 ·exact (zJ1 HRes) _ (below_setRow (zJ1 HB5) (Nat.le_refl _) _) false (by simp)
 ·exact (zJ1 HRes) _ (below_setRow (zJ1 HB5) (Nat.le_refl _) _) _ (by simp; omega)
structure NmM (w : World) (B : Nat) (b : List UInt8) (r : Dy.Names) (Ah : Option Addr) (nh ch : Nat) (As : Option Addr) (cs : Nat) : Prop where
 h : 0 < r.buckets -> nh = 8 + 4 * r.buckets + 4 * r.chain /\ Rd w B 1 Ah nh (bys (Dy.cut b r.hash nh))
 hc : nh <= ch
 s : Rd w B 1 As (24 * r.chain) (bys (Dy.cut b r.syms (24 * r.chain)))
 sc : 24 * r.chain <= cs
 fit : r.buckets < 4294967296 /\ r.chain <= 65
def NamesE (r : Int × Dy.Names) (B : Nat) (b : List UInt8) (w : World) (e : Ending) (w' : World) : Prop :=
 ∃ Ah nh ch As cs, e = .returned (.tuple #[.agg #[.int .u64 (r.2.buckets : Nat), .int .u64 (r.2.chain : Nat), .slice Ah nh ch, .slice As (24 * r.2.chain) cs], .int .i64 r.1]) /\ NmM w' B b r.2 Ah nh ch As cs /\ Below w.heap.size w w'
theorem xJl {w w' : World} {B : Nat} {b : List UInt8} (x : Int) (hb : Below w.heap.size w w') : NamesE (x, ⟨0, 0, 0, 0⟩) B b w (.returned (.tuple #[.agg #[.int .u64 0, .int .u64 0, .slice none 0 0, .slice none 0 0], .int .i64 x])) w' :=
 ⟨none, 0, 0, none, 0, rfl, ⟨fun h => absurd h (Nat.lt_irrefl 0), Nat.le_refl _, Rd.none_ _ _ _ _, Nat.le_refl _, Nat.zero_lt_succ _, Nat.zero_le _⟩, hb⟩
theorem laidE_form {o : Option Nat} {size B : Nat} {b : List UInt8} {w w' : World} {e : Ending} (h : LaidE o size B b w e w') :
  ∃ A n c q, e = .returned (.tuple #[.slice A n c, .bool q]) /\ ((q = false /\ o = none) \/ (q = true /\ ∃ off, o = some off /\ n = size /\ Rd w' B 1 A n (bys (Dy.cut b off size)) /\ n <= c)) /\ Below w.heap.size w w' := by
 rcases h with ⟨⟨h1, rfl⟩ | ⟨off, A, c, h1, rfl, h2, h3⟩, hb⟩
 ·exact ⟨none, 0, 0, false, rfl, .inl ⟨rfl, h1⟩, hb⟩
 ·exact ⟨A, size, c, true, rfl, .inr ⟨rfl, off, h1, rfl, h2, h3⟩, hb⟩
theorem zJt : (Tryz.prog.info? 112).map (·.size) = some 4 := by kernel_rfl
theorem vJ4 (a b : Int) (A : Option Addr) (n k : Nat) (A2 : Option Addr) (n2 k2 : Nat) : (#[.int .u64 a, .int .u64 b, .slice A n k, .slice A2 n2 k2] : Array Value).all (·.oneCell') = true := by simp [Value.oneCell']
theorem zJw {b : List UInt8} {p n q s : Nat} (h : q + s <= n) : Wd.num (Dy.cut b p n) q s = Wd.num b (p + q) s := by
 unfold Wd.num Dy.cut
 congr 1
 rw [List.drop_take, List.take_take, List.drop_drop, Nat.min_eq_left (by omega)]
set_option maxRecDepth 100000 in
set_option maxHeartbeats 4000000 in
theorem names_any (B g : Nat) (d : Ds) (w : World) (hd : DsM w B g d d.L) (ho : DsOk d) (hbl : d.b.length = d.m) :
  Calls Tryz.prog 57 #[.pointer (some ⟨g, 0, none⟩)] w (NamesE (Dy.names d.b (El.loads d.segs) d.L) B d.b w) := by
 have hb0 : Below w.heap.size w (w.alloc (.cells #[.int .u64 0, .int .u64 0, .slice none 0 0, .slice none 0 0] 112)) := (Below.refl _ _).alloc (Nat.le_refl _) _
 have hk0 : Blk (w.alloc (.cells #[.int .u64 0, .int .u64 0, .slice none 0 0, .slice none 0 0] 112)) w.heap.size 112 [.int .u64 0, .int .u64 0, .slice none 0 0, .slice none 0 0] := Blk.new w 112 _
 have hd0 := hd.belowSz hb0
 obtain ⟨-, -, -, -, -, -, x6⟩ := hd0.cells
 have l4 := (yJv hd0 (t := 4) rfl).1
 have hn : Dy.names d.b (El.loads d.segs) d.L = match Dy.val d.L 4 with
  | none => (0, ⟨0, 0, 0, 0⟩)
  | some at_ =>
   match Dy.laid d.b.length (El.loads d.segs) at_ 8 with
   | none => (25, ⟨0, 0, 0, 0⟩)
   | some p =>
    if 65 < Wd.num d.b (p + 4) 4 then (12, ⟨0, 0, 0, 0⟩)
    else match Dy.laid d.b.length (El.loads d.segs) at_ (8 + 4 * Wd.num d.b p 4 + 4 * Wd.num d.b (p + 4) 4), Dy.laid d.b.length (El.loads d.segs) ((Dy.val d.L 6).getD 0) (24 * Wd.num d.b (p + 4) 4) with
     | some h, some s => (0, ⟨Wd.num d.b p 4, Wd.num d.b (p + 4) 4, h, s⟩)
     | _, _ => (25, ⟨0, 0, 0, 0⟩) := rfl
 rw [hbl] at hn
 rw [hn]
 clear hn
 cases hv : Dy.val d.L 4 with
 | none =>
  rw [hv] at l4
  have l4' : (Instr.lookup 175 (.map (some d.gm)) (.int .u64 4) true).run Tryz.prog (w.alloc (.cells #[.int .u64 0, .int .u64 0, .slice none 0 0, .slice none 0 0] 112)) = .ok (.tuple #[.int .u64 0, .bool false]) _ := l4
  have Hb0 := zJ2 hb0
  have Hk0 := zJ2 hk0
  obtain ⟨gm, hgm⟩ : ∃ g, d.gm = g := ⟨_, rfl⟩
  rw [hgm] at x6 l4'
  dsimp only
  clear l4 hv hd hd0 ho hbl hb0 hk0 hgm
  go_enter Tryz.func57, Tryz.ntmps57
  go_wp2_with fail
  refine bodyPost_ret (results_cell_tmp (P := Tryz.prog) rfl _ _ w.heap.size 112 #[.int .u64 0, .int .u64 0, .slice none 0 0, .slice none 0 0] (0, 0) _ rfl (zJ1 Hk0) Tryz.underlying112 rfl zJt) rfl ?_
  exact xJl 0 (zJ1 Hb0)
 | some at_ =>
  rw [hv] at l4
  have l4' : (Instr.lookup 175 (.map (some d.gm)) (.int .u64 4) true).run Tryz.prog (w.alloc (.cells #[.int .u64 0, .int .u64 0, .slice none 0 0, .slice none 0 0] 112)) = .ok (.tuple #[.int .u64 (at_ : Nat), .bool true]) _ := l4
  have hat : at_ < 18446744073709551616 := by have := uJ8 ho 4; rw [hv] at this; exact this
  have KL := fun (w' : World) (hb : Below w.heap.size w w') (a s : Nat) (ha : a < 18446744073709551616) (hs : s < 18446744073709551616) => laid_any B g d d.L a s w' (hd.belowSz hb) ho ha hs
  have h6 := uJ8 ho 6
  have hdz := fun (w' : World) (hb : Below w.heap.size w w') => (hd.belowSz hb).cells
  have hlk := fun (w' : World) (hb : Below w.heap.size w w') => (yJv (hd.belowSz hb) (t := 6) rfl).2
  have hBw := hd.sz
  have hgw : g < w.heap.size := hd.blk.lt
  obtain ⟨v6, hv6⟩ : ∃ v, (Dy.val d.L 6).getD 0 = v := ⟨_, rfl⟩
  have hm32 := ho.m
  rw [hv6] at h6 hlk
  dsimp only at hlk ⊢
  rw [hv6]
  obtain ⟨lo, hlo⟩ : ∃ l, El.loads d.segs = l := ⟨_, rfl⟩
  obtain ⟨gm, hgm⟩ : ∃ g, d.gm = g := ⟨_, rfl⟩
  obtain ⟨b, hbb⟩ : ∃ b, d.b = b := ⟨_, rfl⟩
  obtain ⟨m, hmm⟩ : ∃ m, d.m = m := ⟨_, rfl⟩
  rw [hlo, hbb, hmm] at KL
  rw [hgm] at x6 l4' hlk
  rw [hgm] at hdz
  rw [hbb, hmm] at hbl
  rw [hmm] at hm32
  rw [hlo, hbb, hmm]
  have K8 := KL _ hb0 at_ 8 hat (by omega)
  have hli := fun a s o (h : Dy.laid m lo a s = some o) => Dy.laid_in h
  have HKL := zJ2 KL
  have HK8 := zJ2 K8
  have Hdz := zJ2 hdz
  have Hlk := zJ2 hlk
  have Hb0 := zJ2 hb0
  have Hk0 := zJ2 hk0
  have Hbl := zJ2 hbl
  have Hli := zJ2 hli
  obtain ⟨Res, hRes⟩ : ∃ R, (match Dy.laid m lo at_ 8 with
   | none => ((25 : Int), (⟨0, 0, 0, 0⟩ : Dy.Names))
   | some p =>
    if 65 < Wd.num b (p + 4) 4 then (12, ⟨0, 0, 0, 0⟩)
    else match Dy.laid m lo at_ (8 + 4 * Wd.num b p 4 + 4 * Wd.num b (p + 4) 4), Dy.laid m lo v6 (24 * Wd.num b (p + 4) 4) with
     | some h, some s => (0, ⟨Wd.num b p 4, Wd.num b (p + 4) 4, h, s⟩)
     | _, _ => (25, ⟨0, 0, 0, 0⟩)) = R := ⟨_, rfl⟩
  rw [hRes]
  have HRes := zJ2 hRes
  clear l4 hv hd hd0 ho hbl hb0 hk0 hgm hbb hmm hlo hv6 KL K8 hdz hlk hli hRes
  go_enter Tryz.func57, Tryz.ntmps57
  go_wp2_with fail
  refine (zJ1 HK8).mono ?_
  rintro e w1 ⟨⟨hln, rfl⟩ | ⟨p, A1, c1, hln, rfl, hr1, hc1⟩, hb1⟩
  ·have hR := zJ1 HRes
   rw [hln] at hR
   subst hR
   have HB1 := zJ2 ((zJ1 Hb0).trans (hb1.mono (zJ1 Hb0).size))
   have HK1 := zJ2 ((zJ1 Hk0).belowSz hb1)
   clear hb1 hln HRes HK8 x6 l4'
   go_wp2_with ((with_reducible refine (@id (wpList _ _ _ (Oper.mk none (Op.store 112 (.tmp 2) (.tmp 27)) _ _ _ none :: _) _ _) ?_)); refine wpList_store_row rfl 112 (.tmp 2) (.tmp 27) rfl w.heap.size #[.int .u64 0, .int .u64 0, .slice none 0 0, .slice none 0 0] rfl rfl 112 _ (zJ1 HK1) zJt rfl (vJ4 _ _ _ _ _ _ _ _) ?_)
   refine bodyPost_ret (results_cell_tmp (P := Tryz.prog) rfl _ _ w.heap.size 112 #[.int .u64 0, .int .u64 0, .slice none 0 0, .slice none 0 0] (0, 0) _ rfl (setRow_heap _ _ _ _ _ _ (zJ1 HK1)) Tryz.underlying112 rfl zJt) rfl ?_
   exact xJl 25 (below_setRow (zJ1 HB1) (Nat.le_refl _) _)
  have hR := zJ1 HRes
  rw [hln] at hR
  dsimp only at hR
  have hp8 := (zJ1 Hli) _ _ _ hln
  have HB1 := zJ2 ((zJ1 Hb0).trans (hb1.mono (zJ1 Hb0).size))
  have HK1 := zJ2 ((zJ1 Hk0).belowSz hb1)
  have Hr1 := zJ2 hr1
  obtain ⟨bk, hbk⟩ : ∃ v, Wd.num b p 4 = v := ⟨_, rfl⟩
  obtain ⟨ch, hch⟩ : ∃ v, Wd.num b (p + 4) 4 = v := ⟨_, rfl⟩
  rw [hbk, hch] at hR
  have hbk4 : bk < 4294967296 := by rw [<- hbk]; have := Wd.num_lt b p 4; simpa using this
  have hch4 : ch < 4294967296 := by rw [<- hch]; have := Wd.num_lt b (p + 4) 4; simpa using this
  have hcl : (Dy.cut b p 8).length = 8 := by unfold Dy.cut; rw [List.length_take, List.length_drop, zJ1 Hbl]; omega
  have KN1 := fun (w' : World) (hb : Below w1.heap.size w1 w') => yJ8 A1 8 c1 B (Dy.cut b p 8) 0 4 w' (Nat.le_trans hBw (Nat.le_trans (zJ1 HB1).size hb.size)) ((zJ1 Hr1).below (hb.mono (Nat.le_trans hBw (zJ1 HB1).size))) (by unfold maxLen; omega) (by omega) (by omega)
  have KN2 := fun (w' : World) (hb : Below w1.heap.size w1 w') => yJ8 A1 8 c1 B (Dy.cut b p 8) 4 4 w' (Nat.le_trans hBw (Nat.le_trans (zJ1 HB1).size hb.size)) ((zJ1 Hr1).below (hb.mono (Nat.le_trans hBw (zJ1 HB1).size))) (by unfold maxLen; omega) (by omega) (by omega)
  rw [zJw (by omega), Nat.add_zero, hbk] at KN1
  rw [zJw (by omega), hch] at KN2
  have HN1 := zJ2 (KN1 w1 (Below.refl _ _))
  have HN2 := zJ2 KN2
  have HR := zJ2 hR
  clear hb1 hln HRes HK8 x6 l4' KN1 KN2 hbk hch hcl hr1 hR
  go_wp2_with fail
  refine (zJ1 HN1).mono ?_
  rintro e w2 ⟨rfl, hb2⟩
  have HB2 := zJ2 ((zJ1 HB1).trans (hb2.mono (zJ1 HB1).size))
  have HK2 := zJ2 ((zJ1 HK1).belowSz hb2)
  have HN2' := zJ2 ((zJ1 HN2) w2 hb2)
  clear hb2 HN1 HN2 Hr1
  go_wp2_with fail
  refine (zJ1 HN2').mono ?_
  rintro e w3 ⟨rfl, hb3⟩
  have HB3 := zJ2 ((zJ1 HB2).trans (hb3.mono (zJ1 HB2).size))
  have hk3 := (zJ1 HK2).belowSz hb3
  have u0 := hk3.cell (i := 0) rfl
  have u1 := hk3.cell (i := 1) rfl
  have f0 := hk3.free 0
  have f1 := hk3.free 1
  have HK4 : Hid (Blk ((w3.setCell ⟨w.heap.size, 0, none⟩ (.int .u64 (bk : Nat))).setCell ⟨w.heap.size, 1, none⟩ (.int .u64 (ch : Nat))) w.heap.size 112 [.int .u64 (bk : Nat), .int .u64 (ch : Nat), .slice none 0 0, .slice none 0 0]) := zJ2 ((hk3.set 0 _).set 1 _)
  have HB4 : Hid (Below w.heap.size w ((w3.setCell ⟨w.heap.size, 0, none⟩ (.int .u64 (bk : Nat))).setCell ⟨w.heap.size, 1, none⟩ (.int .u64 (ch : Nat)))) := zJ2 (((zJ1 HB3).setCell (p := ⟨w.heap.size, 0, none⟩) (Nat.le_refl _) _).setCell (p := ⟨w.heap.size, 1, none⟩) (Nat.le_refl _) _)
  clear hb3 HB1 HK1 HB2 HK2 HN2' hk3
  by_cases hc65 : 65 < ch
  ·have hR := zJ1 HR
   rw [if_pos hc65] at hR
   subst hR
   have g1 : decide (65 < ch) = true := by simpa using hc65
   have g2 : (65 : Int) < (ch : Int) := by omega
   clear hc65 HR
   go_wp2_with ((with_reducible refine (@id (wpList _ _ _ (Oper.mk none (Op.store 112 (.tmp 2) (.tmp 37)) _ _ _ none :: _) _ _) ?_)); refine wpList_store_row rfl 112 (.tmp 2) (.tmp 37) rfl w.heap.size #[.int .u64 0, .int .u64 0, .slice none 0 0, .slice none 0 0] rfl rfl 112 _ (zJ1 HK4) zJt rfl (vJ4 _ _ _ _ _ _ _ _) ?_)
   refine bodyPost_ret (results_cell_tmp (P := Tryz.prog) rfl _ _ w.heap.size 112 #[.int .u64 0, .int .u64 0, .slice none 0 0, .slice none 0 0] (0, 0) _ rfl (setRow_heap _ _ _ _ _ _ (zJ1 HK4)) Tryz.underlying112 rfl zJt) rfl ?_
   exact xJl 12 (below_setRow (zJ1 HB4) (Nat.le_refl _) _)
  have hR := zJ1 HR
  rw [if_neg hc65] at hR
  have g1 : decide (65 < ch) = false := by simpa using hc65
  have g2 : ¬ (65 : Int) < (ch : Int) := by omega
  obtain ⟨hs, hhs⟩ : ∃ v, 8 + 4 * bk + 4 * ch = v := ⟨_, rfl⟩
  rw [hhs] at hR
  have hsI : (8 : Int) + 4 * (bk : Int) + 4 * (ch : Int) = (hs : Int) := by omega
  have K9 := (zJ1 HKL) _ (zJ1 HB4) at_ hs hat (by omega)
  have HK9 := zJ2 K9
  have HR2 := zJ2 hR
  have Hhs := zJ2 hhs
  clear hR HR K9 hhs
  go_wp2_with fail
  refine (zJ1 HK9).mono ?_
  rintro e w5 ⟨⟨hln2, rfl⟩ | ⟨ph, A5, c5, hln2, rfl, hr5, hc5⟩, hb5⟩
  ·have hR := zJ1 HR2
   rw [hln2] at hR
   subst hR
   have hk5 := (zJ1 HK4).belowSz hb5
   have u2 := hk5.cell (i := 2) rfl
   have f2 := hk5.free 2
   have HB6 : Hid (Below w.heap.size w (w5.setCell ⟨w.heap.size, 2, none⟩ (.slice none 0 0))) := zJ2 (((zJ1 HB4).trans (hb5.mono (zJ1 HB4).size)).setCell (p := ⟨w.heap.size, 2, none⟩) (Nat.le_refl _) _)
   have HK6 : Hid (Blk (w5.setCell ⟨w.heap.size, 2, none⟩ (.slice none 0 0)) w.heap.size 112 [.int .u64 (bk : Nat), .int .u64 (ch : Nat), .slice none 0 0, .slice none 0 0]) := zJ2 (hk5.set 2 _)
   clear hb5 hln2 HR2 HK9 hk5
   go_wp2_with ((with_reducible refine (@id (wpList _ _ _ (Oper.mk none (Op.store 112 (.tmp 2) (.tmp 55)) _ _ _ none :: _) _ _) ?_)); refine wpList_store_row rfl 112 (.tmp 2) (.tmp 55) rfl w.heap.size #[.int .u64 0, .int .u64 0, .slice none 0 0, .slice none 0 0] rfl rfl 112 _ (zJ1 HK6) zJt rfl (vJ4 _ _ _ _ _ _ _ _) ?_)
   refine bodyPost_ret (results_cell_tmp (P := Tryz.prog) rfl _ _ w.heap.size 112 #[.int .u64 0, .int .u64 0, .slice none 0 0, .slice none 0 0] (0, 0) _ rfl (setRow_heap _ _ _ _ _ _ (zJ1 HK6)) Tryz.underlying112 rfl zJt) rfl ?_
   exact xJl 25 (below_setRow (zJ1 HB6) (Nat.le_refl _) _)
  have hR := zJ1 HR2
  rw [hln2] at hR
  have hk5 := (zJ1 HK4).belowSz hb5
  have u2 := hk5.cell (i := 2) rfl
  have f2 := hk5.free 2
  have HB5 := zJ2 ((zJ1 HB4).trans (hb5.mono (zJ1 HB4).size))
  have HB6 : Hid (Below w.heap.size w (w5.setCell ⟨w.heap.size, 2, none⟩ (.slice A5 hs c5))) := zJ2 ((zJ1 HB5).setCell (p := ⟨w.heap.size, 2, none⟩) (Nat.le_refl _) _)
  have HK6 : Hid (Blk (w5.setCell ⟨w.heap.size, 2, none⟩ (.slice A5 hs c5)) w.heap.size 112 [.int .u64 (bk : Nat), .int .u64 (ch : Nat), .slice A5 hs c5, .slice none 0 0]) := zJ2 (hk5.set 2 _)
  have HR3 := zJ2 hR
  have Hr5 := zJ2 (hr5.setCell (p := ⟨w.heap.size, 2, none⟩) hBw (.slice A5 hs c5))
  clear hb5 hln2 HR2 HK9 hk5 hR hr5
  obtain ⟨ss, hss⟩ : ∃ v, 24 * ch = v := ⟨_, rfl⟩
  have hR := zJ1 HR3
  rw [hss] at hR
  have ssI : (24 : Int) * (ch : Int) = (ss : Int) := by omega
  have ssW : IntKind.u64.wrap (ss : Int) = (ss : Int) := by rw [IntKind.wrap_u64]; omega
  obtain ⟨W6, hW6⟩ : ∃ W, w5.setCell ⟨w.heap.size, 2, none⟩ (.slice A5 hs c5) = W := ⟨_, rfl⟩
  have hB6 := zJ1 HB6
  have hK6 := zJ1 HK6
  have hR5 := zJ1 Hr5
  rw [hW6] at hB6 hK6 hR5
  have KLs := (zJ1 HKL) W6.drew (zJ5 hB6) v6 ss h6 (by omega)
  have HSK : ∀ w', Below w.heap.size w w' -> w'.cell? ⟨w.heap.size, 1, none⟩ = some (.int .u64 (ch : Nat)) -> (Below w.heap.size w w' /\ w'.cell? ⟨g, 6, none⟩ = some (.map (some gm)) /\ w'.cell? ⟨w.heap.size, 1, none⟩ = some (.int .u64 (ch : Nat)) /\ (Instr.lookup 175 (.map (some gm)) (.int .u64 6) false).run Tryz.prog w' = .ok (.int .u64 (v6 : Nat)) w') := by
   intro w' hb hc
   obtain ⟨-, -, -, -, -, -, z6⟩ := (zJ1 Hdz) w' hb
   exact ⟨hb, z6, hc, (zJ1 Hlk) w' hb⟩
  have HSK' := zJ2 HSK
  have HKLs := zJ2 KLs
  have HB7 := zJ2 hB6
  have HK7 := zJ2 hK6
  have Hr7 := zJ2 hR5
  clear HSK KLs hB6 hK6 hR5 HB6 HK6 Hr5 HB5 HKL Hdz Hlk Hk0 Hb0 hR
  go_wp2_with fail
  clear hW6 u2 f2
  refine wp_region_held_drew (S := fun w' => Below w.heap.size w w' /\ w'.cell? ⟨g, 6, none⟩ = some (.map (some gm)) /\ w'.cell? ⟨w.heap.size, 1, none⟩ = some (.int .u64 (ch : Nat)) /\ (Instr.lookup 175 (.map (some gm)) (.int .u64 6) false).run Tryz.prog w' = .ok (.int .u64 (v6 : Nat)) w') (by kernel_rfl) ((zJ1 HSK') _ (zJ5 (zJ1 HB7)) ((zJ1 HK7).drew.cell (i := 1) rfl)) (fun HS0 => ?_)
  refine takeD (i := 0) (d := some 57) (v := ?_) rfl rfl (by kernel_rfl) (by kernel_rfl) (by kernel_rfl) (fun _ _ _ h => h) (Or.inl ⟨by rfl, ?y0⟩) HS0 ?_
  case y0 => (intro w' hSw; (try dsimp only at hSw); go_simp; (try with_reducible rfl))
  simp only [Act.put, List.setIfInBounds_toArray, List.set_cons_zero, List.set_cons_succ]
  refine takeD (i := 1) (d := some 58) (v := ?_) rfl rfl (by kernel_rfl) (by kernel_rfl) (by kernel_rfl) (fun _ _ _ h => h) (Or.inl ⟨by rfl, ?y1⟩) HS0 ?_
  case y1 => (intro w' hSw; (try dsimp only at hSw); go_simp; (try with_reducible rfl))
  simp only [Act.put, List.setIfInBounds_toArray, List.set_cons_zero, List.set_cons_succ]
  refine takeD (i := 2) (d := some 59) (v := ?_) rfl rfl (by kernel_rfl) (by kernel_rfl) (by kernel_rfl) (fun _ _ _ h => h) (Or.inl ⟨by rfl, ?y2⟩) HS0 ?_
  case y2 => (intro w' hSw; (try dsimp only at hSw); go_simp; (try with_reducible rfl))
  simp only [Act.put, List.setIfInBounds_toArray, List.set_cons_zero, List.set_cons_succ]
  refine takeD (i := 3) (d := some 60) (v := ?_) rfl rfl (by kernel_rfl) (by kernel_rfl) (by kernel_rfl) (fun _ _ _ h => h) (Or.inl ⟨by rfl, ?y3⟩) HS0 ?_
  case y3 => (intro w' hSw; (try dsimp only at hSw); go_simp; (try with_reducible rfl))
  simp only [Act.put, List.setIfInBounds_toArray, List.set_cons_zero, List.set_cons_succ]
  refine takeD (i := 4) (d := some 61) (v := ?_) rfl rfl (by kernel_rfl) (by kernel_rfl) (by kernel_rfl) (fun _ _ _ h => h) (Or.inl ⟨by rfl, ?y4⟩) HS0 ?_
  case y4 => (intro w' hSw; (try dsimp only at hSw); go_simp; (try with_reducible rfl))
  simp only [Act.put, List.setIfInBounds_toArray, List.set_cons_zero, List.set_cons_succ]
  refine takeD (i := 5) (d := some 62) (v := ?_) rfl rfl (by kernel_rfl) (by kernel_rfl) (by kernel_rfl) (fun _ _ _ h => h) (Or.inl ⟨by rfl, ?y5⟩) HS0 ?_
  case y5 => (intro w' hSw; (try dsimp only at hSw); go_simp; (try with_reducible rfl))
  simp only [Act.put, List.setIfInBounds_toArray, List.set_cons_zero, List.set_cons_succ]
  refine takeD (i := 6) (d := some 63) (v := ?_) rfl rfl (by kernel_rfl) (by kernel_rfl) (by kernel_rfl) (fun _ _ _ h => h) (Or.inl ⟨by rfl, ?y6⟩) HS0 ?_
  case y6 => (intro w' hSw; (try dsimp only at hSw); go_simp; (try with_reducible rfl))
  simp only [Act.put, List.setIfInBounds_toArray, List.set_cons_zero, List.set_cons_succ]
  refine takeD (i := 7) (d := some 64) (v := ?_) rfl rfl (by kernel_rfl) (by kernel_rfl) (by kernel_rfl) (fun _ _ _ h => h) (Or.inl ⟨by rfl, ?y7⟩) HS0 ?_
  case y7 => (intro w' hSw; (try dsimp only at hSw); go_simp; (try with_reducible rfl))
  simp only [Act.put, List.setIfInBounds_toArray, List.set_cons_zero, List.set_cons_succ]
  refine takeD (i := 8) (d := some 65) (v := ?_) rfl rfl (by kernel_rfl) (by kernel_rfl) (by kernel_rfl) (fun _ _ _ h => h) (Or.inl ⟨by rfl, ?y8⟩) HS0 ?_
  case y8 => (intro w' hSw; (try dsimp only at hSw); go_simp; (try with_reducible rfl))
  simp only [Act.put, List.setIfInBounds_toArray, List.set_cons_zero, List.set_cons_succ]
  refine wpAnyH_ready (rs := [9]) (by kernel_rfl) (by simp) ?_
  refine AllReadyH.cons (i := 9) rfl (fun K hK => ?_) AllReadyH.nil
  rw [if_pos (by rfl)]
  go_simp
  go_at_call 102
  with_reducible refine (zJ1 HKLs).mono ?_
  intro e w8 h8
  obtain ⟨A8, n8, c8, bq, rfl, hf8, hb8⟩ := laidE_form h8
  have HB8 := zJ2 ((zJ5 (zJ1 HB7)).trans (hb8.mono (zJ5 (zJ1 HB7)).size))
  have HK8 := zJ2 ((zJ1 HK7).drew.belowSz hb8)
  have Hf8 := zJ2 hf8
  have hr8 := ((zJ1 Hr7).drew).below (hb8.mono (Nat.le_trans hBw (zJ5 (zJ1 HB7)).size))
  have Hr8 := zJ2 hr8
  clear hr8 hf8 hb8 h8
  refine hK.out _ _ ((zJ1 HSK') _ (zJ1 HB8) ((zJ1 HK8).cell (i := 1) rfl)) (fun hHeld => ?_)
  clear hK K HS0
  have HS0 := hHeld
  clear hHeld
  (try simp only [Act.put, List.setIfInBounds_toArray, List.set_cons_zero, List.set_cons_succ])
  refine takeD (i := 10) (d := some 56) (v := ?_) rfl rfl (by kernel_rfl) (by kernel_rfl) (by kernel_rfl) (fun _ _ _ h => h) (Or.inl ⟨by rfl, ?y10⟩) HS0 ?_
  case y10 => (intro w' hSw; (try dsimp only at hSw); go_simp; (try with_reducible rfl))
  simp only [Act.put, List.setIfInBounds_toArray, List.set_cons_zero, List.set_cons_succ]
  refine takeD (i := 11) (d := some 67) (v := ?_) rfl rfl (by kernel_rfl) (by kernel_rfl) (by kernel_rfl) (fun _ _ _ h => h) (Or.inl ⟨by rfl, ?y11⟩) HS0 ?_
  case y11 => (intro w' hSw; (try dsimp only at hSw); go_simp; (try with_reducible rfl))
  simp only [Act.put, List.setIfInBounds_toArray, List.set_cons_zero, List.set_cons_succ]
  refine takeD (i := 12) (d := some 68) (v := ?_) rfl rfl (by kernel_rfl) (by kernel_rfl) (by kernel_rfl) (fun _ _ _ h => h) (Or.inl ⟨by rfl, ?y12⟩) HS0 ?_
  case y12 => (intro w' hSw; (try dsimp only at hSw); go_simp; (try with_reducible rfl))
  simp only [Act.put, List.setIfInBounds_toArray, List.set_cons_zero, List.set_cons_succ]
  refine takeD (i := 13) (d := some 69) (v := ?_) rfl rfl (by kernel_rfl) (by kernel_rfl) (by kernel_rfl) (fun _ _ _ h => h) (Or.inl ⟨by rfl, ?y13⟩) HS0 ?_
  case y13 => (intro w' hSw; (try dsimp only at hSw); go_simp; (try with_reducible rfl))
  simp only [Act.put, List.setIfInBounds_toArray, List.set_cons_zero, List.set_cons_succ]
  have u3 := (zJ1 HK8).cell (i := 3) rfl
  have f3 := (zJ1 HK8).free 3
  have HB9 : Hid (Below w.heap.size w (w8.setCell ⟨w.heap.size, 3, none⟩ (.slice A8 n8 c8))) := zJ2 ((zJ1 HB8).setCell (p := ⟨w.heap.size, 3, none⟩) (Nat.le_refl _) _)
  have HK9 : Hid (Blk (w8.setCell ⟨w.heap.size, 3, none⟩ (.slice A8 n8 c8)) w.heap.size 112 [.int .u64 (bk : Nat), .int .u64 (ch : Nat), .slice A5 hs c5, .slice A8 n8 c8]) := zJ2 ((zJ1 HK8).set 3 _)
  refine wpAnyH_ready (rs := [14]) (by kernel_rfl) (by simp) ?_
  refine AllReadyH.cons (i := 14) rfl (fun K hK => ?_) AllReadyH.nil
  rw [if_pos (by rfl)]
  go_simp
  refine hK.out _ _ ((zJ1 HSK') _ (zJ1 HB9) ((zJ1 HK9).cell (i := 1) rfl)) (fun hHeld => ?_)
  clear hK K HS0
  have HS0 := hHeld
  clear hHeld
  (try simp only [Act.put, List.setIfInBounds_toArray, List.set_cons_zero, List.set_cons_succ])
  refine takeD (i := 15) (d := some 7) (v := ?_) rfl rfl (by kernel_rfl) (by kernel_rfl) (by kernel_rfl) (fun _ _ _ h => h) (Or.inl ⟨by rfl, ?y15⟩) HS0 ?_
  case y15 => (intro w' hSw; (try dsimp only at hSw); go_simp; (try with_reducible rfl))
  simp only [Act.put, List.setIfInBounds_toArray, List.set_cons_zero, List.set_cons_succ]
  refine wpAnyH_done (by kernel_rfl) ?_ _
  clear HSK' HKLs HS0 u3 f3
  cases bq with
  | false =>
   rcases zJ1 Hf8 with ⟨-, ho8⟩ | ⟨h8, _⟩
   ·have hR := zJ1 HR3
    rw [hss, ho8] at hR
    subst hR
    clear ho8 HR3 Hf8
    go_wp2_with ((with_reducible refine (@id (wpList _ _ _ (Oper.mk none (Op.store 112 (.tmp 2) (.tmp 72)) _ _ _ none :: _) _ _) ?_)); refine wpList_store_row rfl 112 (.tmp 2) (.tmp 72) rfl w.heap.size #[.int .u64 0, .int .u64 0, .slice none 0 0, .slice none 0 0] rfl rfl 112 _ (zJ1 HK9) zJt rfl (vJ4 _ _ _ _ _ _ _ _) ?_)
    refine bodyPost_ret (results_cell_tmp (P := Tryz.prog) rfl _ _ w.heap.size 112 #[.int .u64 0, .int .u64 0, .slice none 0 0, .slice none 0 0] (0, 0) _ rfl (setRow_heap _ _ _ _ _ _ (zJ1 HK9)) Tryz.underlying112 rfl zJt) rfl ?_
    exact xJl 25 (below_setRow (zJ1 HB9) (Nat.le_refl _) _)
   ·cases h8
  | true =>
  rcases zJ1 Hf8 with ⟨h8, _⟩ | ⟨-, off8, ho8, rfl, hr8', hc8⟩
  ·cases h8
  have hR := zJ1 HR3
  rw [hss, ho8] at hR
  subst hR
  have hnm : NmM (w8.setCell ⟨w.heap.size, 3, none⟩ (.slice A8 n8 c8)) B b ⟨bk, ch, ph, off8⟩ A5 hs c5 A8 c8 := by
   refine ⟨fun _ => ⟨(zJ1 Hhs).symm, (zJ1 Hr8).setCell (p := ⟨w.heap.size, 3, none⟩) hBw _⟩, hc5, ?_, ?_, hbk4, by show ch <= 65; omega⟩
   ·show Rd _ B 1 A8 (24 * ch) (bys (Dy.cut b off8 (24 * ch)))
    rw [hss]
    exact hr8'.setCell (p := ⟨w.heap.size, 3, none⟩) hBw _
   ·show 24 * ch <= c8
    rw [hss]
    exact hc8
  have Hnm := zJ2 hnm
  have hssn := zJ2 hss
  clear ho8 HR3 Hf8 hr8' hnm hss ssI ssW hsI
  go_wp2_with (first
   | ((with_reducible refine (@id (wpList _ _ _ (Oper.mk _ (Op.load 112 (.tmp 2)) _ _ _ none :: _) _ _) ?_)); refine wpList_load_row rfl 112 (.tmp 2) rfl w.heap.size rfl 112 #[.int .u64 (bk : Nat), .int .u64 (ch : Nat), .slice A5 hs c5, .slice A8 n8 c8] (0, 0) _ (zJ1 HK9) Tryz.underlying112 rfl zJt ?_)
   | ((with_reducible refine (@id (wpList _ _ _ (Oper.mk none (Op.store 112 (.tmp 2) (.tmp 73)) _ _ _ none :: _) _ _) ?_)); refine wpList_store_row rfl 112 (.tmp 2) (.tmp 73) rfl w.heap.size #[.int .u64 (bk : Nat), .int .u64 (ch : Nat), .slice A5 hs c5, .slice A8 n8 c8] rfl rfl 112 _ (zJ1 HK9) zJt rfl (vJ4 _ _ _ _ _ _ _ _) ?_; rw [setRow_same (zJ1 HK9)]))
  refine bodyPost_ret (results_cell_tmp (P := Tryz.prog) rfl _ _ w.heap.size 112 #[.int .u64 (bk : Nat), .int .u64 (ch : Nat), .slice A5 hs c5, .slice A8 n8 c8] (0, 0) _ rfl (zJ1 HK9) Tryz.underlying112 rfl zJt) rfl ?_
  refine ⟨A5, hs, c5, A8, c8, ?_, zJ1 Hnm, zJ1 HB9⟩
  show _ = Ending.returned (.tuple #[.agg #[.int .u64 (bk : Nat), .int .u64 (ch : Nat), .slice A5 hs c5, .slice A8 (24 * ch) c8], .int .i64 0])
  rw [zJ1 hssn]
  rfl
theorem byteTyD : SlTy Tryz.prog 24 5 1 1 := yJx (z := .int .u8 0) Tryz.underlying24 (by kernel_rfl) rfl (by omega) (by omega)
theorem bys_oneD (b : List UInt8) : ∀ u ∈ bys b, u.oneCell' = true := by
 intro u hu
 obtain ⟨x, _, rfl⟩ := List.mem_map.1 hu
 simp [Value.oneCell']
theorem own_emptyD (w : World) (e : TypeId) : (w.alloc (.cells #[] e)).ownsRow w.heap.size e 1 (.slice (some ⟨w.heap.size, 0, none⟩) 0 0) 0 [] :=
 ⟨rfl, .inr ⟨w.heap.size, 0, #[], rfl, Nat.le_refl _, heap_alloc_new _ _, Nat.le_refl _, by decide, rfl, rfl⟩⟩
def BytesE (xs : List UInt8) (w : World) (e : Ending) (w' : World) : Prop :=
 ∃ A' c', e = .returned (.slice A' xs.length c') /\ w'.ownsRow w.heap.size 5 1 (.slice A' xs.length c') xs.length (bys xs) /\ Below w.heap.size w w'
set_option maxRecDepth 100000 in
set_option maxHeartbeats 1000000 in
theorem bclone_any (A : Option Addr) (m c B : Nat) (b : List UInt8) (w : World) (hB : B <= w.heap.size) (hb : Rd w B 1 A m (bys b)) (hm : m <= 4294967296) :
  Calls Tryz.prog 103 #[.slice A m c] w (BytesE b w) := by
 have hl : b.length = m := by simpa [bys] using hb.len1
 have q : ∀ (w : World) (a : Option Addr) (n c n' c' : Nat), (binOp .eql 24 (.slice a n c) (.slice none n' c')).run Tryz.prog w = .ok (.bool a.isNone) w := fun w a n c n' c' => Lib.run_eql_slice_nil w _ _ a n c n' c' Tryz.underlying24
 cases A with
 | none =>
  have h0 : bys b = [] := by
   rcases hb.2 with h0 | ⟨b, off, h1, _⟩
   ·exact h0
   ·cases h1
  have hx : b = [] := by simpa [bys] using h0
  subst hx
  simp only [List.length_nil] at hl
  subst hl
  have q1 : (none : Option Addr).isNone = true := rfl
  clear h0 hb
  go_enter Tryz.func103, Tryz.ntmps103
  go_wp2_with fail
  go_ret
  exact ⟨none, 0, rfl, World.ownsRow_nil _ _ _ _, Below.refl _ _⟩
 | some a =>
  have q1 : (some a : Option Addr).isNone = false := rfl
  have Hm := zJ2 (own_emptyD w 5)
  have hb1 : Below w.heap.size w (w.alloc (.cells #[] 5)) := (Below.refl _ _).alloc (Nat.le_refl _) _
  have Hb1 := zJ2 hb1
  have Hr := zJ2 (hb.below (hb1.mono hB))
  have Hl := zJ2 hl
  clear hb1 hl hb
  go_enter Tryz.func103, Tryz.ntmps103
  go_wp2_with (at_builtin; refine zJq byteTyD rfl _ _ rfl w.heap.size (.slice (some ⟨w.heap.size, 0, none⟩) 0 0) 0 [] rfl (zJ1 Hm) B (some a) m c _ rfl (zJ1 Hr) (bys_oneD _) (by omega) (zJ1 Hb1).size ?_; intro A4 c4 w4 ho4 hg4 hat4; have hb4 := (zJ1 Hb1).grown hg4 (zJ1 Hb1).size (fun k hk => ((zJ1 Hm).lt k hk).1); simp only [Nat.zero_add, List.nil_append] at ho4 ⊢; have Ho4 := zJ2 ho4; have Hb4 := zJ2 hb4; clear ho4 hg4 hat4 hb4)
  go_ret
  have hT : BytesE b w (.returned (.slice A4 m c4)) w4 := by
   unfold BytesE
   rw [zJ1 Hl]
   exact ⟨A4, c4, rfl, zJ1 Ho4, zJ1 Hb4⟩
  exact hT
theorem xJy {o : Option (Nat × Nat)} {B : Nat} {b : List UInt8} {w w' : World} {e : Ending} (h : TableE o B b w e w') :
  ∃ A n c q, e = .returned (.tuple #[.slice A n c, .bool q]) /\ ((q = false /\ o = none) \/ (q = true /\ ∃ p, o = some (p, n) /\ Rd w' B 1 A n (bys (Dy.cut b p n)) /\ n <= c)) /\ Below w.heap.size w w' := by
 rcases h with ⟨⟨h1, rfl⟩ | ⟨p, n, A, c, h1, rfl, h2, h3⟩, hb⟩
 ·exact ⟨none, 0, 0, false, rfl, .inl ⟨rfl, h1⟩, hb⟩
 ·exact ⟨A, n, c, true, rfl, .inr ⟨rfl, p, h1, h2, h3⟩, hb⟩
def RelasE (r : Int × List UInt8) (w : World) (e : Ending) (w' : World) : Prop :=
 ∃ A' c', e = .returned (.tuple #[.slice A' r.2.length c', .int .i64 r.1]) /\ w'.ownsRow w.heap.size 5 1 (.slice A' r.2.length c') r.2.length (bys r.2) /\ Below w.heap.size w w'
theorem xJh {w w' : World} (x : Int) (hb : Below w.heap.size w w') : RelasE (x, []) w (.returned (.tuple #[.slice none 0 0, .int .i64 x])) w' :=
 ⟨none, 0, rfl, World.ownsRow_nil _ _ _ _, hb⟩
theorem wJ2 {n : Nat} {l : List El.Sg} {L : List (Nat × Nat)} {a s p k : Nat} (h : Dy.table n l L a s = some (p, k)) : k = (Dy.val L s).getD 0 \/ k = 0 := by
 unfold Dy.table at h
 split at h
 ·injection h with h; injection h with h1 h2; exact .inr h2.symm
 ·cases hl : Dy.laid n l _ ((Dy.val L s).getD 0) with
  | none => rw [hl] at h; cases h
  | some o => rw [hl] at h; injection h with h; injection h with h1 h2; exact .inl h2.symm
theorem table_cut {n : Nat} {l : List El.Sg} {L : List (Nat × Nat)} {a s p k : Nat} {b : List UInt8} (hb : b.length = n) (h : Dy.table n l L a s = some (p, k)) : (Dy.cut b p k).length = k := by
 unfold Dy.table at h
 split at h
 ·injection h with h; injection h with h1 h2; subst h1 h2; rfl
 ·cases hl : Dy.laid n l _ ((Dy.val L s).getD 0) with
  | none => rw [hl] at h; cases h
  | some o =>
   rw [hl] at h
   injection h with h; injection h with h1 h2
   subst h1 h2
   have := Dy.laid_in hl
   unfold Dy.cut
   rw [List.length_take, List.length_drop]
   omega
set_option maxRecDepth 100000 in
set_option maxHeartbeats 4000000 in
theorem relas_any (B g : Nat) (d : Ds) (w : World) (hd : DsM w B g d d.L) (ho : DsOk d) (hbl : d.b.length = d.m) :
  Calls Tryz.prog 58 #[.pointer (some ⟨g, 0, none⟩)] w (RelasE (Dy.relaB d.b (El.loads d.segs) d.L) w) := by
 have hBw := hd.sz
 have hdz := fun (w' : World) (hb : Below w.heap.size w w') => (hd.belowSz hb).cells
 have hl8 := fun (w' : World) (hb : Below w.heap.size w w') => (yJv (hd.belowSz hb) (t := 8) rfl).2
 have hl2 := fun (w' : World) (hb : Below w.heap.size w w') => (yJv (hd.belowSz hb) (t := 2) rfl).2
 have KT7 := fun (w' : World) (hb : Below w.heap.size w w') => vJg B g d 7 8 w' (hd.belowSz hb) ho rfl rfl
 have KT23 := fun (w' : World) (hb : Below w.heap.size w w') => vJg B g d 23 2 w' (hd.belowSz hb) ho rfl rfl
 have h8 := uJ8 ho 8
 have h2 := uJ8 ho 2
 have hlen7 := fun p k h => wJ2 (n := d.m) (l := El.loads d.segs) (L := d.L) (a := 7) (s := 8) (p := p) (k := k) h
 have hlen23 := fun p k h => wJ2 (n := d.m) (l := El.loads d.segs) (L := d.L) (a := 23) (s := 2) (p := p) (k := k) h
 have hcut7 := fun p k h => table_cut (n := d.m) (l := El.loads d.segs) (L := d.L) (a := 7) (s := 8) (p := p) (k := k) (b := d.b) hbl h
 have hcut23 := fun p k h => table_cut (n := d.m) (l := El.loads d.segs) (L := d.L) (a := 23) (s := 2) (p := p) (k := k) (b := d.b) hbl h
 have hr : Dy.relaB d.b (El.loads d.segs) d.L = if ((Dy.val d.L 8).getD 0) % 24 ≠ 0 \/ ((Dy.val d.L 2).getD 0) % 24 ≠ 0 then ((25 : Int), ([] : List UInt8))
  else if 1536 < (Dy.val d.L 8).getD 0 + (Dy.val d.L 2).getD 0 then (12, [])
  else match Dy.table d.m (El.loads d.segs) d.L 7 8, Dy.table d.m (El.loads d.segs) d.L 23 2 with
   | some x, some y => (0, Dy.cut d.b x.1 x.2 ++ Dy.cut d.b y.1 y.2)
   | _, _ => (25, []) := by unfold Dy.relaB; rw [hbl]; rfl
 rw [hr]
 clear hr
 have hm32 := ho.m
 obtain ⟨v8, hv8⟩ : ∃ v, (Dy.val d.L 8).getD 0 = v := ⟨_, rfl⟩
 obtain ⟨v2, hv2⟩ : ∃ v, (Dy.val d.L 2).getD 0 = v := ⟨_, rfl⟩
 rw [hv8] at h8 hl8 hlen7 ⊢
 rw [hv2] at h2 hl2 hlen23 ⊢
 obtain ⟨o1, ho1⟩ : ∃ o, Dy.table d.m (El.loads d.segs) d.L 7 8 = o := ⟨_, rfl⟩
 obtain ⟨o2, ho2⟩ : ∃ o, Dy.table d.m (El.loads d.segs) d.L 23 2 = o := ⟨_, rfl⟩
 rw [ho1] at KT7 hlen7 hcut7 ⊢
 rw [ho2] at KT23 hlen23 hcut23 ⊢
 obtain ⟨gm, hgm⟩ : ∃ g, d.gm = g := ⟨_, rfl⟩
 obtain ⟨b, hbb⟩ : ∃ b, d.b = b := ⟨_, rfl⟩
 rw [hgm] at hl8 hl2 hdz
 rw [hbb] at KT7 KT23 hcut7 hcut23 ⊢
 obtain ⟨Res, hRes⟩ : ∃ R, (if v8 % 24 ≠ 0 \/ v2 % 24 ≠ 0 then ((25 : Int), ([] : List UInt8))
  else if 1536 < v8 + v2 then (12, [])
  else match o1, o2 with
   | some x, some y => (0, Dy.cut b x.1 x.2 ++ Dy.cut b y.1 y.2)
   | _, _ => (25, [])) = R := ⟨_, rfl⟩
 rw [hRes]
 have HRes := zJ2 hRes
 have HT7 := zJ2 KT7
 have HT23 := zJ2 KT23
 have Hlen7 := zJ2 hlen7
 have Hlen23 := zJ2 hlen23
 have Hcut7 := zJ2 hcut7
 have Hcut23 := zJ2 hcut23
 have HSK : ∀ w', Below w.heap.size w w' -> (w'.cell? ⟨g, 6, none⟩ = some (.map (some gm)) /\ (Instr.lookup 175 (.map (some gm)) (.int .u64 8) false).run Tryz.prog w' = .ok (.int .u64 (v8 : Nat)) w' /\ (Instr.lookup 175 (.map (some gm)) (.int .u64 2) false).run Tryz.prog w' = .ok (.int .u64 (v2 : Nat)) w') := by
  intro w' hb
  obtain ⟨-, -, -, -, -, -, z6⟩ := hdz w' hb
  exact ⟨z6, hl8 w' hb, hl2 w' hb⟩
 have HSK' := zJ2 HSK
 clear hd ho hbl hdz hl8 hl2 KT7 KT23 hlen7 hlen23 hcut7 hcut23 hv8 hv2 ho1 ho2 hgm hbb hRes HSK
 go_enter Tryz.func58, Tryz.ntmps58
 go_wp2_with fail
 refine wp_region_held_drew (S := fun w' => w'.cell? ⟨g, 6, none⟩ = some (.map (some gm)) /\ (Instr.lookup 175 (.map (some gm)) (.int .u64 8) false).run Tryz.prog w' = .ok (.int .u64 (v8 : Nat)) w' /\ (Instr.lookup 175 (.map (some gm)) (.int .u64 2) false).run Tryz.prog w' = .ok (.int .u64 (v2 : Nat)) w') (by kernel_rfl) ((zJ1 HSK') _ (zJ5 (Below.refl _ _))) (fun HS0 => ?_)
 refine takeD (i := 0) (d := some 10) (v := ?_) rfl rfl (by kernel_rfl) (by kernel_rfl) (by kernel_rfl) (fun _ _ _ h => h) (Or.inl ⟨by rfl, ?y0⟩) HS0 ?_
 case y0 => (intro w' hSw; (try dsimp only at hSw); go_simp; (try with_reducible rfl))
 simp only [Act.put, List.setIfInBounds_toArray, List.set_cons_zero, List.set_cons_succ]
 refine takeD (i := 1) (d := some 11) (v := ?_) rfl rfl (by kernel_rfl) (by kernel_rfl) (by kernel_rfl) (fun _ _ _ h => h) (Or.inl ⟨by rfl, ?y1⟩) HS0 ?_
 case y1 => (intro w' hSw; (try dsimp only at hSw); go_simp; (try with_reducible rfl))
 simp only [Act.put, List.setIfInBounds_toArray, List.set_cons_zero, List.set_cons_succ]
 refine takeD (i := 2) (d := some 12) (v := ?_) rfl rfl (by kernel_rfl) (by kernel_rfl) (by kernel_rfl) (fun _ _ _ h => h) (Or.inl ⟨by rfl, ?y2⟩) HS0 ?_
 case y2 => (intro w' hSw; (try dsimp only at hSw); go_simp; (try with_reducible rfl))
 simp only [Act.put, List.setIfInBounds_toArray, List.set_cons_zero, List.set_cons_succ]
 refine takeD (i := 3) (d := some 13) (v := ?_) rfl rfl (by kernel_rfl) (by kernel_rfl) (by kernel_rfl) (fun _ _ _ h => h) (Or.inl ⟨by rfl, ?y3⟩) HS0 ?_
 case y3 => (intro w' hSw; (try dsimp only at hSw); go_simp; (try with_reducible rfl))
 simp only [Act.put, List.setIfInBounds_toArray, List.set_cons_zero, List.set_cons_succ]
 refine takeD (i := 4) (d := some 14) (v := ?_) rfl rfl (by kernel_rfl) (by kernel_rfl) (by kernel_rfl) (fun _ _ _ h => h) (Or.inl ⟨by rfl, ?y4⟩) HS0 ?_
 case y4 => (intro w' hSw; (try dsimp only at hSw); go_simp; (try with_reducible rfl))
 simp only [Act.put, List.setIfInBounds_toArray, List.set_cons_zero, List.set_cons_succ]
 refine takeD (i := 5) (d := some 15) (v := ?_) rfl rfl (by kernel_rfl) (by kernel_rfl) (by kernel_rfl) (fun _ _ _ h => h) (Or.inl ⟨by rfl, ?y5⟩) HS0 ?_
 case y5 => (intro w' hSw; (try dsimp only at hSw); go_simp; (try with_reducible rfl))
 simp only [Act.put, List.setIfInBounds_toArray, List.set_cons_zero, List.set_cons_succ]
 refine takeD (i := 6) (d := some 16) (v := ?_) rfl rfl (by kernel_rfl) (by kernel_rfl) (by kernel_rfl) (fun _ _ _ h => h) (Or.inl ⟨by rfl, ?y6⟩) HS0 ?_
 case y6 => (intro w' hSw; (try dsimp only at hSw); go_simp; (try with_reducible rfl))
 simp only [Act.put, List.setIfInBounds_toArray, List.set_cons_zero, List.set_cons_succ]
 refine takeD (i := 7) (d := some 17) (v := ?_) rfl rfl (by kernel_rfl) (by kernel_rfl) (by kernel_rfl) (fun _ _ _ h => h) (Or.inl ⟨by rfl, ?y7⟩) HS0 ?_
 case y7 => (intro w' hSw; (try dsimp only at hSw); go_simp; (try with_reducible rfl))
 simp only [Act.put, List.setIfInBounds_toArray, List.set_cons_zero, List.set_cons_succ]
 refine takeD (i := 8) (d := some 18) (v := ?_) rfl rfl (by kernel_rfl) (by kernel_rfl) (by kernel_rfl) (fun _ _ _ h => h) (Or.inl ⟨by rfl, ?y8⟩) HS0 ?_
 case y8 => (intro w' hSw; (try dsimp only at hSw); go_simp; (try with_reducible rfl))
 simp only [Act.put, List.setIfInBounds_toArray, List.set_cons_zero, List.set_cons_succ]
 refine takeD (i := 9) (d := some 19) (v := ?_) rfl rfl (by kernel_rfl) (by kernel_rfl) (by kernel_rfl) (fun _ _ _ h => h) (Or.inl ⟨by rfl, ?y9⟩) HS0 ?_
 case y9 => (intro w' hSw; (try dsimp only at hSw); go_simp; (try with_reducible rfl))
 simp only [Act.put, List.setIfInBounds_toArray, List.set_cons_zero, List.set_cons_succ]
 refine takeD (i := 10) (d := some 4) (v := ?_) rfl rfl (by kernel_rfl) (by kernel_rfl) (by kernel_rfl) (fun _ _ _ h => h) (Or.inl ⟨by rfl, ?y10⟩) HS0 ?_
 case y10 => (intro w' hSw; (try dsimp only at hSw); go_simp; (try with_reducible rfl))
 simp only [Act.put, List.setIfInBounds_toArray, List.set_cons_zero, List.set_cons_succ]
 refine takeD (i := 11) (d := some 5) (v := ?_) rfl rfl (by kernel_rfl) (by kernel_rfl) (by kernel_rfl) (fun _ _ _ h => h) (Or.inl ⟨by rfl, ?y11⟩) HS0 ?_
 case y11 => (intro w' hSw; (try dsimp only at hSw); go_simp; (try with_reducible rfl))
 simp only [Act.put, List.setIfInBounds_toArray, List.set_cons_zero, List.set_cons_succ]
 refine wpAnyH_done (by kernel_rfl) ?_ _
 clear HS0 HSK'
 have HB1 : Hid (Below w.heap.size w w.drew) := zJ2 (zJ5 (Below.refl _ _))
 generalize w.drew = w1 at *
 by_cases hmod : v8 % 24 ≠ 0 \/ v2 % 24 ≠ 0
 ·have hR := zJ1 HRes
  rw [if_pos hmod] at hR
  subst hR
  have g1 : (((v8 : Int) % 24 + (v2 : Int) % 24) != 0) = true := by simp; omega
  clear hmod HRes
  go_wp2_with fail
  go_ret2
  exact xJh 25 (zJ1 HB1)
 have hR := zJ1 HRes
 rw [if_neg hmod] at hR
 have g1 : (((v8 : Int) % 24 + (v2 : Int) % 24) != 0) = false := by simp; omega
 by_cases hbig : 1536 < v8 + v2
 ·rw [if_pos hbig] at hR
  subst hR
  clear hmod HRes
  by_cases h88 : 1536 < v8
  ·have g2 : (1536 : Int) < (v8 : Int) := by omega
   clear hbig
   go_wp2_with fail
   go_ret2
   exact xJh 12 (zJ1 HB1)
  ·have g2 : ¬ (1536 : Int) < (v8 : Int) := by omega
   have g3 : (1536 : Int) - (v8 : Int) < (v2 : Int) := by omega
   clear hbig
   go_wp2_with fail
   go_ret2
   exact xJh 12 (zJ1 HB1)
 rw [if_neg hbig] at hR
 have g2 : ¬ (1536 : Int) < (v8 : Int) := by omega
 have g3 : ¬ (1536 : Int) - (v8 : Int) < (v2 : Int) := by omega
 have HR := zJ2 hR
 have K7 := zJ2 ((zJ1 HT7) w1 (zJ1 HB1))
 clear hR HRes hmod
 go_wp2_with fail
 refine (zJ1 K7).mono ?_
 intro e w2 h
 obtain ⟨A2, n2, c2, q2, rfl, hf2, hb2⟩ := xJy h
 have HB2 := zJ2 ((zJ1 HB1).trans (hb2.mono (zJ1 HB1).size))
 have Hf2 := zJ2 hf2
 have K23 := zJ2 ((zJ1 HT23) w2 (zJ1 HB2))
 clear h hf2 hb2 K7
 go_wp2_with fail
 refine (zJ1 K23).mono ?_
 intro e w3 h
 obtain ⟨A3, n3, c3, q3, rfl, hf3, hb3⟩ := xJy h
 have HB3 := zJ2 ((zJ1 HB2).trans (hb3.mono (zJ1 HB2).size))
 have Hf3 := zJ2 hf3
 have Hb23 := zJ2 hb3
 clear h hf3 hb3 K23
 cases q2 with
 | false =>
  rcases zJ1 Hf2 with ⟨-, h0⟩ | ⟨h0, _⟩
  ·subst h0
   have hR := zJ1 HR
   have hR : Res = (25, []) := by rw [<- hR]; first | done | (cases o2 <;> rfl)
   subst hR
   clear HR
   go_wp2_with fail
   go_ret2
   exact xJh 25 (zJ1 HB3)
  ·cases h0
 | true =>
 cases q3 with
 | false =>
  rcases zJ1 Hf3 with ⟨-, h0⟩ | ⟨h0, _⟩
  ·subst h0
   have hR := zJ1 HR
   have hR : Res = (25, []) := by rw [<- hR]; first | done | (cases o1 <;> rfl)
   subst hR
   clear HR
   go_wp2_with fail
   go_ret2
   exact xJh 25 (zJ1 HB3)
  ·cases h0
 | true =>
 rcases zJ1 Hf2 with ⟨h0, _⟩ | ⟨-, p2, rfl, hr2, hc2⟩
 ·cases h0
 rcases zJ1 Hf3 with ⟨h0, _⟩ | ⟨-, p3, rfl, hr3, hc3⟩
 ·cases h0
 have hl2 : n2 <= 1536 := by rcases (zJ1 Hlen7) _ _ rfl with h | h <;> omega
 have hl3 : n3 <= 1536 := by rcases (zJ1 Hlen23) _ _ rfl with h | h <;> omega
 have hR := zJ1 HR
 dsimp only at hR
 subst hR
 have hBw2 : B <= w2.heap.size := Nat.le_trans hBw (zJ1 HB2).size
 have hr23 := hr2.below ((zJ1 Hb23).mono hBw2)
 have hBw3 : B <= w3.heap.size := Nat.le_trans hBw (zJ1 HB3).size
 have KC := bclone_any A2 n2 c2 B (Dy.cut b p2 n2) w3 hBw3 hr23 (by omega)
 have hx2 := (zJ1 Hcut7) _ _ rfl
 have hx3 := (zJ1 Hcut23) _ _ rfl
 obtain ⟨X2, hX2⟩ : ∃ X, Dy.cut b p2 n2 = X := ⟨_, rfl⟩
 obtain ⟨X3, hX3⟩ : ∃ X, Dy.cut b p3 n3 = X := ⟨_, rfl⟩
 rw [hX2] at KC hx2 ⊢
 rw [hX3] at hr3 hx3 ⊢
 unfold BytesE at KC
 rw [hx2] at KC
 have HKC := zJ2 KC
 have Hr3 := zJ2 hr3
 have HX2 := zJ2 hX2
 have HX3 := zJ2 hX3
 have Hx2 := zJ2 hx2
 have Hx3 := zJ2 hx3
 clear KC hr2 hr23 hr3 hx2 hx3 hX2 hX3 Hf2 Hf3 HR Hlen7 Hlen23 Hcut7 Hcut23 HT7 HT23
 go_wp2_with fail
 refine (zJ1 HKC).mono ?_
 rintro e w4 ⟨A4, c4, rfl, ho4, hb4⟩
 have Ho4 := zJ2 ho4
 have HB4 := zJ2 ((zJ1 HB3).trans (hb4.mono (zJ1 HB3).size))
 have Hr4 := zJ2 ((zJ1 Hr3).below (hb4.mono hBw3))
 have Hb34 := zJ2 hb4
 clear ho4 hb4 HKC
 go_wp2_with (at_builtin; refine zJq byteTyD rfl _ _ rfl w3.heap.size _ n2 (bys X2) rfl (zJ1 Ho4) B A3 n3 c3 (bys X3) rfl (zJ1 Hr4) (bys_oneD _) (by omega) (zJ1 Hb34).size ?_; intro A5 c5 w5 ho5 hg5 hk5; have Ho5 := zJ2 ho5; have HB5 := zJ2 ((zJ1 HB4).grown hg5 (zJ1 HB4).size (fun k hk => Nat.le_trans (zJ1 HB3).size ((zJ1 Ho4).lt k hk).1) : Below w.heap.size w w5); clear ho5 hg5 hk5)
 go_ret2
 have hT : RelasE (0, Dy.cut b p2 n2 ++ Dy.cut b p3 n3) w (.returned (.tuple #[.slice A5 (n2 + n3) c5, .int .i64 0])) w5 := by
  rw [zJ1 HX2, zJ1 HX3]
  unfold RelasE
  dsimp only
  rw [List.length_append, zJ1 Hx2, zJ1 Hx3, show bys (X2 ++ X3) = bys X2 ++ bys X3 by unfold bys; rw [List.map_append]]
  exact ⟨A5, c5, rfl, zJh (zJ1 Ho5) (zJ1 HB3).size, zJ1 HB5⟩
 exact hT
theorem vJ6 {P : Program} {t e : TypeId} {size bytes : Nat} (T : SlTy P t e size bytes) {W : World} {o : Oper} {a : Act} {K : Act -> World -> Prop} {Q : Exit -> Act -> World -> Prop} (s x : Operand)
  (ho : o.op = .call { callee := .builtin .append, args := #[s, x], argTypes := #[t, t] })
  (base : Nat) (v : Value) (n : Nat) (xs : List Value) (hs : a.eval s = v) (hown : W.ownsRow base e size v n xs)
  (cs : Array Value) (g : Nat) (hx : a.eval x = .slice (some ⟨g, 0, none⟩) 1 1) (hg : g = W.heap.size) (hcs : cs.size = size) (h1 : ∀ u ∈ cs.toList, u.oneCell' = true)
  (hb : (n + 1) * bytes <= 140737488355328) (hbase : base <= W.heap.size)
  (h : ∀ A' c' w', w'.ownsRow base e size (.slice A' (n + 1) c') (n + 1) (xs ++ cs.toList) -> W.grownBy w' v.ownBlock -> K (a.put o.dst (.slice A' (n + 1) c')) w') : o.wp P a (W.alloc (.cells cs e)) K Q := by
 subst hg
 refine wp_app T s x ho base v n xs hs (hown.alloc _) (W.heap.size + 1) (some ⟨W.heap.size, 0, none⟩) 1 1 cs.toList hx (Rd.row hcs) h1 hb (by simp; omega) fun v' w' h2 h3 h4 => ?_
 obtain ⟨A', c', rfl⟩ := yJt h2
 exact h A' c' w' h2 (yJm (World.grownBy_alloc W _ _) h3)
theorem vJl {α : Type} (f : Nat -> α) : ∀ N k, rowsOf (fun k => some (f k)) N k = some ((List.range' k N).map f)
 | 0, k => rfl
 | N + 1, k => by
  rw [rowsOf]
  dsimp only
  rw [vJl f N (k + 1)]
  simp [List.range'_succ]
namespace Dy
def pr (b : List UInt8) (off k : Nat) : Nat × Nat := (Wd.num b (off + k * 16) 8, Wd.num b (off + k * 16 + 8) 8)
def prs (b : List UInt8) (off N : Nat) : List (Nat × Nat) := (List.range' 0 N).map (pr b off)
theorem prs_len (b : List UInt8) (off N : Nat) : (prs b off N).length = N := by simp [prs]
theorem prs_at (b : List UInt8) (off N k : Nat) (h : k < N) : (prs b off N)[k]? = some (pr b off k) := by
 unfold prs
 rw [List.getElem?_map, List.getElem?_range' h]
 simp
theorem prs_take {b : List UInt8} {off N k : Nat} (h : k < N) : (prs b off N).take (k + 1) = (prs b off N).take k ++ [pr b off k] := by
 rw [List.take_add_one, prs_at b off N k h]
 rfl
theorem ents_stop {b : List UInt8} {off N k : Nat} {l : List (Nat × Nat)} (h : ents b N off = (ents b (N - k) (off + k * 16)).map (l ++ ·)) (hk : k < N) (h0 : (pr b off k).1 = 0) : ents b N off = some l := by
 rw [h, show N - k = (N - (k + 1)) + 1 from by omega, ents, if_pos (show Wd.num b (off + k * 16) 8 = 0 from h0)]
 simp
theorem ents_on {b : List UInt8} {off N k : Nat} {l : List (Nat × Nat)} (h : ents b N off = (ents b (N - k) (off + k * 16)).map (l ++ ·)) (hk : k < N) (h0 : ¬ (pr b off k).1 = 0) : ents b N off = (ents b (N - (k + 1)) (off + (k + 1) * 16)).map ((l ++ [pr b off k]) ++ ·) := by
 rw [h, show N - k = (N - (k + 1)) + 1 from by omega, ents, if_neg (show ¬ Wd.num b (off + k * 16) 8 = 0 from h0), show off + k * 16 + 16 = off + (k + 1) * 16 from by omega]
 cases ents b (N - (k + 1)) (off + (k + 1) * 16) <;> simp [pr]
theorem ents_end {b : List UInt8} {off N k : Nat} {l : List (Nat × Nat)} (h : ents b N off = (ents b (N - k) (off + k * 16)).map (l ++ ·)) (hk : k = N) : ents b N off = none := by
 rw [h, hk, Nat.sub_self]
 rfl
theorem pr_lt (b : List UInt8) (off k : Nat) : (pr b off k).1 < 18446744073709551616 /\ (pr b off k).2 < 18446744073709551616 := by
 unfold pr
 have h1 := Wd.num_lt b (off + k * 16) 8
 have h2 := Wd.num_lt b (off + k * 16 + 8) 8
 simp at h1 h2
 exact ⟨h1, h2⟩
end Dy
theorem DsM.start {w wr : World} {B : Nat} {A As : Option Addr} {n c ns cs : Nat} {b : List UInt8} {ty en ph : Int} {segs : List El.Sg} {S : Obj} (hB : B <= w.heap.size) (hb : Rd w B 1 A n (bys b)) (hs : Rd w B 6 As ns (segCells segs)) (hbr : Below w.heap.size w wr) :
  DsM (((wr.alloc S).alloc (.map #[] 0)).alloc (.cells #[.slice A n c, .int .u16 ty, .int .u64 en, .int .u64 ph, .slice As ns cs, .slice none 0 0, .map (some (wr.heap.size + 1))] 178)) w.heap.size (wr.heap.size + 1 + 1) ⟨A, n, c, b, ty, en, ph, As, ns, cs, segs, none, 0, 0, [], wr.heap.size + 1⟩ [] := by
 have hsz := hbr.size
 have e1 : (wr.alloc S).heap.size = wr.heap.size + 1 := by simp
 have e2 : ((wr.alloc S).alloc (.map #[] 0)).heap.size = wr.heap.size + 1 + 1 := by simp
 have hB2 : Below w.heap.size w (((wr.alloc S).alloc (.map #[] 0)).alloc (.cells #[.slice A n c, .int .u16 ty, .int .u64 en, .int .u64 ph, .slice As ns cs, .slice none 0 0, .map (some (wr.heap.size + 1))] 178)) := ((hbr.alloc hsz _).alloc (by rw [e1]; omega) _).alloc (by rw [e2]; omega) _
 refine ⟨by omega, ?_, (hb.more hB).below hB2, (hs.more hB).below hB2, World.ownsRow_nil _ _ _ _, ?_, by dsimp only; omega⟩
 ·have := Blk.new ((wr.alloc S).alloc (.map #[] 0)) 178 [.slice A n c, .int .u16 ty, .int .u64 en, .int .u64 ph, .slice As ns cs, .slice none 0 0, .map (some (wr.heap.size + 1))]
  rw [e2] at this
  exact this
 ·have h := (MapB.nil (wr.alloc S) (.int .u64)).belowSz ((Below.refl _ _).alloc (Nat.le_refl _) (.cells #[.slice A n c, .int .u16 ty, .int .u64 en, .int .u64 ph, .slice As ns cs, .slice none 0 0, .map (some (wr.heap.size + 1))] 178))
  rw [e1] at h
  exact h
theorem entC_snoc (L : List (Nat × Nat)) (x : Nat × Nat) : entC (L ++ [x]) = entC L ++ [.int .u64 (x.1 : Nat), .int .u64 (x.2 : Nat)] := by simp [entC]
theorem DsM.notG {V : World} {B g : Nat} {d : Ds} {T : List (Nat × Nat)} (h : DsM V B g d T) : ∀ q, (Value.slice d.Al d.k d.cl).ownBlock = some q -> q = g -> True -> False := by
 intro q hq e _
 rcases h.list.2 with ⟨e0, -⟩ | ⟨q2, cap, cur, e1, e2, e3, -⟩
 ·injection e0 with e0
  rw [e0] at hq
  cases hq
 ·injection e1 with e1
  rw [e1] at hq
  have : q2 = q := Option.some.inj hq
  have hb := h.blk
  unfold Blk at hb
  rw [this, e, hb] at e3
  simp at e3
theorem DsM.push {V w6 : World} {B g c6 : Nat} {d : Ds} {T : List (Nat × Nat)} {A6 : Option Addr} {x : Nat × Nat} (h : DsM V B g d T) (ho : w6.ownsRow B 182 2 (.slice A6 (d.k + 1) c6) (d.k + 1) (entC d.L ++ [.int .u64 (x.1 : Nat), .int .u64 (x.2 : Nat)])) (hg : V.grownBy w6 (Value.slice d.Al d.k d.cl).ownBlock) :
  DsM (w6.setCell ⟨g, 5, none⟩ (.slice A6 (d.k + 1) c6)) B g ⟨d.Ab, d.m, d.cb, d.b, d.ty, d.en, d.ph, d.As, d.n, d.c, d.segs, A6, d.k + 1, c6, d.L ++ [x], d.gm⟩ T := by
 have hneg : ∀ q, (Value.slice d.Al d.k d.cl).ownBlock = some q -> q ≠ g := by
  intro q hq e
  rcases h.list.2 with ⟨e0, -⟩ | ⟨q2, cap, cur, e1, e2, e3, -⟩
  ·injection e0 with e0
   rw [e0] at hq
   cases hq
  ·injection e1 with e1
   rw [e1] at hq
   have : q2 = q := Option.some.inj hq
   have hb := h.blk
   unfold Blk at hb
   rw [this, e, hb] at e3
   simp at e3
 have hnem : ∀ q, (Value.slice d.Al d.k d.cl).ownBlock = some q -> q ≠ d.gm := by
  intro q hq e
  rcases h.list.2 with ⟨e0, -⟩ | ⟨q2, cap, cur, e1, e2, e3, -⟩
  ·injection e0 with e0
   rw [e0] at hq
   cases hq
  ·injection e1 with e1
   rw [e1] at hq
   have : q2 = q := Option.some.inj hq
   obtain ⟨⟨es, clk, hmap, _⟩, _, _⟩ := h.tags
   rw [this, e, hmap] at e3
   simp at e3
 have hgm : d.gm ≠ g := by
  intro e
  obtain ⟨⟨es, clk, hmap, _⟩, _, _⟩ := h.tags
  have hb := h.blk
  unfold Blk at hb
  rw [e, hb] at hmap
  simp at hmap
 have hbel : Below B V (w6.setCell ⟨g, 5, none⟩ (.slice A6 (d.k + 1) c6)) := ((Below.refl B V).grown hg h.sz (fun k hk => (h.list.lt k hk).1)).setCell (p := ⟨g, 5, none⟩) h.hB _
 have hblk6 : Blk w6 g 178 _ := (hg.block g h.blk.lt (fun e => hneg g e.symm rfl)).trans h.blk
 refine ⟨h.hB, hblk6.set 5 _, h.b.below hbel, h.segs.below hbel, ?_, ?_, h.tagsB⟩
 ·dsimp only
  rw [entC_snoc]
  refine ⟨ho.1, ho.2.imp id ?_⟩
  rintro ⟨q, cap, cur, e1, e2, e3, r⟩
  refine ⟨q, cap, cur, e1, e2, (heap_setCell_other _ _ _ _ ?_).trans e3, r⟩
  intro e
  have hb := hblk6
  unfold Blk at hb
  dsimp only at e
  rw [e, hb] at e3
  simp at e3
 ·exact h.tags.keep ((heap_setCell_other _ _ _ _ hgm).trans (hg.block d.gm h.tags.lt (fun e => hnem d.gm e.symm rfl)))
structure OpR (w V w3 wq : World) (g : Nat) (d : Ds) (b : List UInt8) (off N i : Nat) : Prop where
 ds : DsM wq w.heap.size g d []
 own : wq.ownsRow w3.heap.size 182 2 (.slice d.Al d.k d.cl) d.k (entC d.L)
 keep : ∀ q, V.heap.size <= q -> q < w3.heap.size -> wq.heap[q]? = w3.heap[q]?
 bel : Below w.heap.size w wq
 sz : w3.heap.size <= wq.heap.size
 L : d.L = (Dy.prs b off N).take i
 k : d.k = i
 en : Dy.ents b N off = (Dy.ents b (N - i) (off + i * 16)).map ((Dy.prs b off N).take i ++ ·)
theorem OpR.alloc {w V w3 wq : World} {g : Nat} {d : Ds} {b : List UInt8} {off N i : Nat} (h : OpR w V w3 wq g d b off N i) (o : Obj) : OpR w V w3 (wq.alloc o) g d b off N i :=
 ⟨h.ds.belowSz ((Below.refl _ _).alloc (Nat.le_refl _) o), h.own.alloc _, fun q h1 h2 => (heap_alloc_old wq o (Nat.lt_of_lt_of_le h2 h.sz)).trans (h.keep q h1 h2), h.bel.alloc h.bel.size o, by have := h.sz; simp; omega, h.L, h.k, h.en⟩
theorem OpR.drew {w V w3 wq : World} {g : Nat} {d : Ds} {b : List UInt8} {off N i : Nat} (h : OpR w V w3 wq g d b off N i) : OpR w V w3 wq.drew g d b off N i :=
 ⟨h.ds.drewN 1, h.own, h.keep, zJ5 h.bel, h.sz, h.L, h.k, h.en⟩
theorem OpR.push {w V w3 wq w6 : World} {g : Nat} {d : Ds} {b : List UInt8} {off N i c6 : Nat} {A6 : Option Addr} (h : OpR w V w3 wq g d b off N i) (hi : i < N) (h0 : ¬ (Dy.pr b off i).1 = 0) (hgV : g < V.heap.size) (hV3 : V.heap.size <= w3.heap.size) (hw3 : w.heap.size <= w3.heap.size)
  (ho : w6.ownsRow w3.heap.size 182 2 (.slice A6 (d.k + 1) c6) (d.k + 1) (entC d.L ++ [.int .u64 ((Dy.pr b off i).1 : Nat), .int .u64 ((Dy.pr b off i).2 : Nat)])) (hg : wq.grownBy w6 (Value.slice d.Al d.k d.cl).ownBlock) :
  OpR w V w3 (w6.setCell ⟨g, 5, none⟩ (.slice A6 (d.k + 1) c6)) g ⟨d.Ab, d.m, d.cb, d.b, d.ty, d.en, d.ph, d.As, d.n, d.c, d.segs, A6, d.k + 1, c6, d.L ++ [Dy.pr b off i], d.gm⟩ b off N (i + 1) := by
 have hd := h.ds.push (x := Dy.pr b off i) (zJh ho hw3) hg
 refine ⟨hd, ?_, ?_, ?_, ?_, ?_, ?_, ?_⟩
 ·dsimp only
  rw [entC_snoc]
  refine ⟨ho.1, ho.2.imp id ?_⟩
  rintro ⟨q, cap, cur, e1, e2, e3, r⟩
  exact ⟨q, cap, cur, e1, e2, (heap_setCell_other _ _ _ _ (by dsimp only; omega)).trans e3, r⟩
 ·intro q h1 h2
  rw [heap_setCell_other _ _ _ _ (by dsimp only; omega), hg.block q (Nat.lt_of_lt_of_le h2 h.sz) (fun e => by have := (h.own.lt _ e.symm).1; omega)]
  exact h.keep q h1 h2
 ·exact (h.bel.grown hg h.bel.size (fun k hk => by have := (h.own.lt k hk).1; omega)).setCell (p := ⟨g, 5, none⟩) h.ds.hB _
 ·have := h.sz
  have := hg.size
  simp
  omega
 ·dsimp only
  rw [h.L, Dy.prs_take hi]
 ·dsimp only
  rw [h.k]
 ·rw [Dy.prs_take hi]
  exact Dy.ents_on h.en hi h0
def OpenE (A : Option Addr) (n c : Nat) (b : List UInt8) (ty en ph : Int) (As : Option Addr) (ns cs : Nat) (segs : List El.Sg) (w : World) (e : Ending) (w' : World) : Prop := Below w.heap.size w w' /\
 ((∃ p, (Dy.open_ b segs).2 = none /\ e = .returned (.tuple #[.pointer p, .int .i64 (Dy.open_ b segs).1]) /\ ((Dy.open_ b segs).1 = 0 -> p = none)) \/
  ∃ g Al k cl L gm, Dy.open_ b segs = (0, some L) /\ e = .returned (.tuple #[.pointer (some ⟨g, 0, none⟩), .int .i64 0]) /\ DsM w' w.heap.size g ⟨A, n, c, b, ty, en, ph, As, ns, cs, segs, Al, k, cl, L, gm⟩ L /\ DsOk ⟨A, n, c, b, ty, en, ph, As, ns, cs, segs, Al, k, cl, L, gm⟩)
theorem open_none {b : List UInt8} {segs : List El.Sg} (h : segs.find? (fun s => s.kind == 2) = none) : Dy.open_ b segs = (0, none) := by
 unfold Dy.open_
 rw [h]
theorem open_some {b : List UInt8} {segs : List El.Sg} {s : El.Sg} (h : segs.find? (fun s => s.kind == 2) = some s) : Dy.open_ b segs = if s.fsz % 16 ≠ 0 \/ b.length < s.off + s.fsz then (25, none) else match Dy.ents b (s.fsz / 16) s.off with
   | none => (25, none)
   | some L => if Dy.may L = 0 then (0, some L) else (Dy.may L, none) := by
 unfold Dy.open_
 rw [h]
 rfl
theorem vJa {A : Option Addr} {n c : Nat} {b : List UInt8} {ty en ph : Int} {As : Option Addr} {ns cs : Nat} {segs : List El.Sg} {w w' : World} {x : Int} (h : Dy.open_ b segs = (x, none)) (hb : Below w.heap.size w w') : OpenE A n c b ty en ph As ns cs segs w (.returned (.tuple #[.pointer none, .int .i64 x])) w' := by
 refine ⟨hb, .inl ⟨none, ?_, ?_, fun _ => rfl⟩⟩ <;> rw [h]
set_option maxRecDepth 100000 in
set_option maxHeartbeats 4000000 in
theorem dopen_any (A : Option Addr) (n c B : Nat) (b : List UInt8) (ty en ph : Int) (As : Option Addr) (ns cs : Nat) (segs : List El.Sg) (w : World) (hB : B <= w.heap.size) (hb : Rd w B 1 A n (bys b)) (hs : Rd w B 6 As ns (segCells segs)) (hn : n <= 4294967296) (hns : ns <= 4294967296) (hc : n <= c) (hfit : ∀ s ∈ segs, SgFit s) :
  Calls Tryz.prog 55 #[.slice A n c, .agg #[.int .u16 ty, .int .u64 en, .int .u64 ph, .slice As ns cs]] w (OpenE A n c b ty en ph As ns cs segs w) := by
 have hsl : segs.length = ns := by have := hs.1; rw [yJ4] at this; omega
 have hbl : b.length = n := by have := hb.1; simp [bys] at this; omega
 have kf : ∀ (k j : Nat), k <= j -> j <= c -> ∀ w' : World, (Instr.slice 24 (.slice A n c) (some (.int .u64 (k : Nat))) (some (.int .u64 (j : Nat))) none).run Tryz.prog w' = .ok (.slice (fromA A c k) (j - k) (c - k)) w' := fun k j h h2 w' => wJ0 (P := Tryz.prog) Tryz.underlying24 (e := 5) (by kernel_rfl) .u64 .u64 A n c k j h h2 w'
 have Hkf := zJ2 kf
 have Hr := zJ2 hb
 have Hs := zJ2 hs
 have Hsl := zJ2 hsl
 have Hbl := zJ2 hbl
 have Hfit := zJ2 hfit
 have HB0 : Hid (Below w.heap.size w (w.alloc (.cells #[.int .u16 ty, .int .u64 en, .int .u64 ph, .slice As ns cs] 44))) := zJ2 ((Below.refl _ _).alloc (Nat.le_refl _) _)
 have HK0 : Hid (Blk (w.alloc (.cells #[.int .u16 ty, .int .u64 en, .int .u64 ph, .slice As ns cs] 44)) w.heap.size 44 [.int .u16 ty, .int .u64 en, .int .u64 ph, .slice As ns cs]) := zJ2 (Blk.new w 44 [.int .u16 ty, .int .u64 en, .int .u64 ph, .slice As ns cs])
 clear hb hs hsl hbl hfit kf
 go_enter Tryz.func55, Tryz.ntmps55
 go_wp2_with fail
 go_loopg [16] ns (fun gk iv wr => ∃ j : Nat, gk = ns - j /\ j <= ns /\ iv = .int .i64 j /\ segs.find? (fun s => s.kind == 2) = (segs.drop j).find? (fun s => s.kind == 2) /\ Below w.heap.size w wr /\ Blk wr w.heap.size 44 [.int .u16 ty, .int .u64 en, .int .u64 ph, .slice As ns cs])
 case atStart => exact ⟨0, by omega, Nat.zero_le _, rfl, rfl, zJ1 HB0, zJ1 HK0⟩
 case round =>
 obtain ⟨j, hgk, hj, rfl, hfd, hbr, hkr⟩ := hrel
 have Hfd := zJ2 hfd
 have Hbr := zJ2 hbr
 have Hkr := zJ2 hkr
 clear hfd hbr hkr HB0 HK0
 by_cases hlt : j < ns
 case neg =>
  have hno : segs.find? (fun s => s.kind == 2) = none := by rw [zJ1 Hfd, List.drop_of_length_le (by rw [zJ1 Hsl]; omega)]; rfl
  have Hno := zJ2 (open_none (b := b) hno)
  have ige : ¬ (j : Int) < (ns : Int) := by omega
  clear hno Hfd Hkf Hr Hs
  go_wp2_with fail
  go_ret2
  exact vJa (zJ1 Hno) (zJ1 Hbr)
 have ilt : (j : Int) < (ns : Int) := by omega
 obtain ⟨s, hsj⟩ : ∃ s, segs[j]? = some s := ⟨_, List.getElem?_eq_getElem (by rw [zJ1 Hsl]; exact hlt)⟩
 obtain ⟨hf0, hf1, hf2, hf3, hf4, hf5⟩ := (zJ1 Hfit) s (List.mem_of_getElem? hsj)
 obtain ⟨b1, o1, hA1, hbb, c0, c1, c2, c3, c4, c5⟩ := wJz ((zJ1 Hs).below ((zJ1 Hbr).mono hB)) hsj
 subst hA1
 have hfd2 := zJ1 Hfd
 rw [List.drop_eq_getElem_cons (by rw [zJ1 Hsl]; exact hlt), show segs[j]'(by rw [zJ1 Hsl]; exact hlt) = s from (List.getElem?_eq_some_iff.1 hsj).2, List.find?_cons] at hfd2
 have HE : Hid (Blk (wr.alloc (.cells #[.int .u32 (s.kind : Nat), .int .u8 (s.flags : Nat), .int .u64 (s.off : Nat), .int .u64 (s.addr : Nat), .int .u64 (s.fsz : Nat), .int .u64 (s.msz : Nat)] 58)) wr.heap.size 58 [.int .u32 (s.kind : Nat), .int .u8 (s.flags : Nat), .int .u64 (s.off : Nat), .int .u64 (s.addr : Nat), .int .u64 (s.fsz : Nat), .int .u64 (s.msz : Nat)]) := zJ2 (Blk.new wr 58 [.int .u32 (s.kind : Nat), .int .u8 (s.flags : Nat), .int .u64 (s.off : Nat), .int .u64 (s.addr : Nat), .int .u64 (s.fsz : Nat), .int .u64 (s.msz : Nat)])
 have HB2 : Hid (Below w.heap.size w (wr.alloc (.cells #[.int .u32 (s.kind : Nat), .int .u8 (s.flags : Nat), .int .u64 (s.off : Nat), .int .u64 (s.addr : Nat), .int .u64 (s.fsz : Nat), .int .u64 (s.msz : Nat)] 58))) := zJ2 ((zJ1 Hbr).alloc (zJ1 Hbr).size _)
 have HK2 : Hid (Blk (wr.alloc (.cells #[.int .u32 (s.kind : Nat), .int .u8 (s.flags : Nat), .int .u64 (s.off : Nat), .int .u64 (s.addr : Nat), .int .u64 (s.fsz : Nat), .int .u64 (s.msz : Nat)] 58)) w.heap.size 44 [.int .u16 ty, .int .u64 en, .int .u64 ph, .slice (some ⟨b1, o1, none⟩) ns cs]) := zJ2 ((zJ1 Hkr).belowSz ((Below.refl _ _).alloc (Nat.le_refl _) _))
 clear Hfd Hkr
 by_cases hkd : s.kind = 2
 case neg =>
  have hkq : (s.kind == 2) = false := by simpa using hkd
  rw [hkq] at hfd2
  have Hfd3 := zJ2 hfd2
  have hkq2 : ¬ (s.kind : Int) = 2 := by omega
  clear hfd2 hkq
  go_wp2_with fail
  go_roundg (ns - (j + 1))
  case measure => omega
  case rel => exact ⟨j + 1, rfl, by omega, by go_num, zJ1 Hfd3, zJ1 HB2, zJ1 HK2⟩
 have hkq : (s.kind == 2) = true := by simpa using hkd
 rw [hkq] at hfd2
 dsimp only at hfd2
 have hop := open_some (b := b) hfd2
 rw [zJ1 Hbl] at hop
 have Hop := zJ2 hop
 have hkI : (s.kind : Int) = 2 := by omega
 have hB2 := zJ1 HB2
 have hK2 := zJ1 HK2
 have hE := zJ1 HE
 rw [hkI] at hB2 hK2 hE
 have HB3 := zJ2 hB2
 have HK3 := zJ2 hK2
 have HE3 := zJ2 hE
 obtain ⟨z0, z1, z2, z3⟩ := And.intro (hK2.cell (i := 0) rfl) (And.intro (hK2.cell (i := 1) rfl) (And.intro (hK2.cell (i := 2) rfl) (hK2.cell (i := 3) rfl)))
 clear hop hfd2 hkq HB2 HK2 HE hB2 hK2 hE
 by_cases hmd : s.fsz % 16 = 0
 case neg =>
  have hr := zJ1 Hop
  rw [if_pos (.inl hmd)] at hr
  have Hno := zJ2 hr
  have m1 : ¬ (s.fsz : Int) % 16 = 0 := by omega
  have m2 : ¬ (s.fsz : Int).tmod 16 = 0 := by rw [Int.tmod_eq_emod_of_nonneg (by omega)]; exact m1
  clear hr Hop
  go_wp2_with fail
  go_ret2
  exact vJa (zJ1 Hno) (zJ1 HB3)
 have m1 : (s.fsz : Int) % 16 = 0 := by omega
 have m2 : (s.fsz : Int).tmod 16 = 0 := by rw [Int.tmod_eq_emod_of_nonneg (by omega)]; exact m1
 have KI := zJ2 (fun w' => zJk (s.off : Int) (s.fsz : Int) (n : Int) w' (by omega) (by omega) (by omega) (by omega) (by omega))
 by_cases hin : s.off + s.fsz <= n
 case neg =>
  have hr := zJ1 Hop
  rw [if_pos (.inr (by omega))] at hr
  have Hno := zJ2 hr
  have ki := zJ1 KI
  rw [show decide ((s.off : Int) + (s.fsz : Int) <= (n : Int)) = false by simp; omega] at ki
  have KI2 := zJ2 ki
  clear hr Hop ki KI
  go_wp2_with fail
  refine ((zJ1 KI2) _).mono ?_
  rintro e w2 ⟨rfl, rfl⟩
  go_wp2_with fail
  go_ret2
  exact vJa (zJ1 Hno) (zJ1 HB3)
 have ki := zJ1 KI
 rw [show decide ((s.off : Int) + (s.fsz : Int) <= (n : Int)) = true by simp; omega] at ki
 have KI2 := zJ2 ki
 have hr := zJ1 Hop
 rw [if_neg (by omega)] at hr
 have Hop2 := zJ2 hr
 clear hr ki KI Hop
 go_wp2_with fail
 refine ((zJ1 KI2) _).mono ?_
 rintro e w2 ⟨rfl, rfl⟩
 clear KI2
 have kf1 := (zJ1 Hkf) s.off (s.off + s.fsz) (by omega) (by omega)
 rw [Nat.add_sub_cancel_left] at kf1
 have hcs : ((s.off + s.fsz : Nat) : Int) = (s.off : Int) + (s.fsz : Int) := by omega
 rw [hcs] at kf1
 have hwr : (s.off : Int) + (s.fsz : Int) < 18446744073709551616 := by omega
 have hmm := @run_makeMap Tryz.prog
 have hDS := DsM.start (S := .cells #[.int .u32 (s.kind : Nat), .int .u8 (s.flags : Nat), .int .u64 (s.off : Nat), .int .u64 (s.addr : Nat), .int .u64 (s.fsz : Nat), .int .u64 (s.msz : Nat)] 58) (n := n) (c := c) (ns := ns) (cs := cs) (ty := ty) (en := en) (ph := ph) hB (zJ1 Hr) (zJ1 Hs) (zJ1 Hbr)
 rw [hkI] at hDS
 have hbV : Below w.heap.size w (((wr.alloc (.cells #[.int .u32 (s.kind : Nat), .int .u8 (s.flags : Nat), .int .u64 (s.off : Nat), .int .u64 (s.addr : Nat), .int .u64 (s.fsz : Nat), .int .u64 (s.msz : Nat)] 58)).alloc (.map #[] 0)).alloc (.cells #[.slice A n c, .int .u16 ty, .int .u64 en, .int .u64 ph, .slice (some ⟨b1, o1, none⟩) ns cs, .slice none 0 0, .map (some (wr.heap.size + 1))] 178)) := (((zJ1 Hbr).alloc (zJ1 Hbr).size _).alloc (by have := (zJ1 Hbr).size; simp; omega) _).alloc (by have := (zJ1 Hbr).size; simp; omega) _
 rw [hkI] at hbV
 have HDS := zJ2 hDS
 have HBV := zJ2 hbV
 have Hgl : Hid (w.heap.size <= wr.heap.size) := zJ2 (zJ1 Hbr).size
 clear hDS hbV
 go_wp2_with fail
 obtain ⟨V, hV⟩ : ∃ x, x = (((wr.alloc (.cells #[.int .u32 2, .int .u8 (s.flags : Nat), .int .u64 (s.off : Nat), .int .u64 (s.addr : Nat), .int .u64 (s.fsz : Nat), .int .u64 (s.msz : Nat)] 58)).alloc (.map #[] 0)).alloc (.cells #[.slice A n c, .int .u16 ty, .int .u64 en, .int .u64 ph, .slice (some ⟨b1, o1, none⟩) ns cs, .slice none 0 0, .map (some (wr.heap.size + 1))] 178)) := ⟨_, rfl⟩
 have hbV : Below w.heap.size w V := by rw [hV]; exact zJ1 HBV
 have hDS := hV ▸ zJ1 HDS
 rw [<- hV]
 clear hV HDS HBV z0 z1 z2 z3
 obtain ⟨g, hg⟩ : ∃ g, wr.heap.size + 1 + 1 = g := ⟨_, rfl⟩
 have hgV : g < V.heap.size := by rw [<- hg]; exact hDS.blk.lt
 rw [hg] at hDS ⊢
 obtain ⟨gm, hgm⟩ : ∃ g, wr.heap.size + 1 = g := ⟨_, rfl⟩
 rw [hgm] at hDS ⊢
 have hrd := hDS.b.cut (k := s.off) (j := s.off + s.fsz) (by omega) hin hc
 dsimp only at hrd
 rw [Nat.add_sub_cancel_left, show ((bys b).drop s.off).take s.fsz = bys (Dy.cut b s.off s.fsz) by unfold bys Dy.cut; rw [List.map_take, List.map_drop]] at hrd
 have KR := en_rows (fromA A c s.off) s.fsz (c - s.off) w.heap.size (Dy.cut b s.off s.fsz) (fun k => some (Dy.pr b s.off k)) V hbV.size hrd (by omega) (by omega) (by
  intro k A2 c2 w' hk hb' hr hc2
  refine (entOf_any A2 c2 w.heap.size (Dy.cut (Dy.cut b s.off s.fsz) (k * 16) 16) w' (Nat.le_trans hbV.size hb'.size) hr).mono ?_
  rintro e w2 ⟨rfl, hb2⟩
  refine ⟨hb2, ?_⟩
  have e1 : Wd.num (Dy.cut (Dy.cut b s.off s.fsz) (k * 16) 16) 0 8 = (Dy.pr b s.off k).1 := by rw [zJw (by omega), zJw (by omega)]; rfl
  have e2 : Wd.num (Dy.cut (Dy.cut b s.off s.fsz) (k * 16) 16) 8 8 = (Dy.pr b s.off k).2 := by rw [zJw (by omega), zJw (by omega), <- Nat.add_assoc]; rfl
  rw [e1, e2])
 rw [vJl] at KR
 have HKR := zJ2 KR
 have HDS := zJ2 hDS
 have HBV := zJ2 hbV
 clear KR hDS hbV hrd Hkf Hr Hs kf1 hcs hwr hmm hg hgm hkI
 refine (zJ1 HKR).mono ?_
 rintro e w3 ⟨⟨h0, -⟩ | ⟨l, A9, c9, hl, rfl, ho9⟩, hb3⟩
 ·cases h0
 have hl2 : Dy.prs b s.off (s.fsz / 16) = l := Option.some.inj hl
 obtain ⟨N, hN⟩ : ∃ N, s.fsz / 16 = N := ⟨_, rfl⟩
 rw [hN] at hl2
 subst hl2
 rw [Dy.prs_len] at ho9 ⊢
 have HO9 := zJ2 ho9
 have HB3 := zJ2 ((zJ1 HBV).trans (hb3.mono (zJ1 HBV).size))
 have HDS3 := zJ2 ((zJ1 HDS).belowSz hb3)
 have hV3 : V.heap.size <= w3.heap.size := hb3.size
 have hw3 : w.heap.size <= w3.heap.size := (zJ1 HB3).size
 have HR0 : Hid (OpR w V w3 w3 g ⟨A, n, c, b, ty, en, ph, some ⟨b1, o1, none⟩, ns, cs, segs, none, 0, 0, [], gm⟩ b s.off N 0) := zJ2 ⟨zJ1 HDS3, World.ownsRow_nil _ _ _ _, fun _ _ _ => rfl, zJ1 HB3, Nat.le_refl _, rfl, rfl, by cases Dy.ents b (N - 0) (s.off + 0 * 16) <;> simp⟩
 clear hl ho9 hb3 HDS HDS3 HBV HKR
 go_wp2_with fail
 go_loopg [58] N (fun gk iv wq => ∃ (i : Nat) (Al : Option Addr) (cl : Nat) (L : List (Nat × Nat)), gk = N - i /\ i <= N /\ iv = .int .i64 i /\ OpR w V w3 wq g ⟨A, n, c, b, ty, en, ph, some ⟨b1, o1, none⟩, ns, cs, segs, Al, i, cl, L, gm⟩ b s.off N i)
 case atStart => exact ⟨0, none, 0, [], by omega, Nat.zero_le _, rfl, zJ1 HR0⟩
 case round =>
 obtain ⟨i, Al, cl, L, hgk2, hi, rfl, hR⟩ := hrel
 have HR := zJ2 hR
 clear hR HR0
 by_cases hlt2 : i < N
 case neg =>
  have hr := zJ1 Hop2
  rw [hN, Dy.ents_end (zJ1 HR).en (by omega)] at hr
  have Hno := zJ2 hr
  have ige : ¬ (i : Int) < (N : Int) := by omega
  clear hr Hop2
  go_wp2_with fail
  go_ret2
  exact vJa (zJ1 Hno) (zJ1 HR).bel
 have ilt2 : (i : Int) < (N : Int) := by omega
 obtain ⟨b9, o9, hA9, hb9, y0, y1⟩ := ent_at (Rd.of_own (zJ1 HO9)) (Dy.prs_at b s.off N i hlt2)
 subst hA9
 have hb9V : V.heap.size <= b9 := ((zJ1 HO9).lt b9 rfl).1
 have q0 := (World.cell?_of_block (a := ⟨b9, o9 + i * 2, none⟩) ((zJ1 HR).keep b9 hb9V hb9)).trans y0
 have q1 := (World.cell?_of_block (a := ⟨b9, o9 + i * 2 + 1, none⟩) ((zJ1 HR).keep b9 hb9V hb9)).trans y1
 obtain ⟨hx1, hx2⟩ := Dy.pr_lt b s.off i
 have hen := (zJ1 HR).en
 have hpush := fun (W w6 : World) (c6 : Nat) (A6 : Option Addr) (h : OpR w V w3 W g ⟨A, n, c, b, ty, en, ph, some ⟨b1, o1, none⟩, ns, cs, segs, Al, i, cl, L, gm⟩ b s.off N i) (h0 : ¬ (Dy.pr b s.off i).1 = 0) => h.push (w6 := w6) (A6 := A6) (c6 := c6) hlt2 h0 hgV hV3 hw3
 have hstop := Dy.ents_stop hen hlt2
 obtain ⟨⟨x1, x2⟩, hx⟩ : ∃ x, Dy.pr b s.off i = x := ⟨_, rfl⟩
 rw [hx] at q0 q1 hx1 hx2 hstop
 dsimp only at q0 q1 hx1 hx2 hstop
 have HE9 : Hid (Blk (wr.alloc (.cells #[.int .u64 (x1 : Nat), .int .u64 (x2 : Nat)] 182)) wr.heap.size 182 [.int .u64 (x1 : Nat), .int .u64 (x2 : Nat)]) := zJ2 (Blk.new wr 182 [.int .u64 (x1 : Nat), .int .u64 (x2 : Nat)])
 have HR2 := zJ2 ((zJ1 HR).alloc (.cells #[.int .u64 (x1 : Nat), .int .u64 (x2 : Nat)] 182))
 have Hpush := zJ2 hpush
 have Hstop := zJ2 hstop
 have Hlt := zJ2 (fun q hq => ((zJ1 HR).own.lt q hq).2)
 clear y0 y1 hen hpush hstop HR HO9
 by_cases hz : x1 = 0
 case pos =>
  have hr := zJ1 Hop2
  rw [hN, (zJ1 Hstop) hz] at hr
  dsimp only at hr
  have hLe := (zJ1 HR2).L
  dsimp only at hLe
  rw [<- hLe] at hr
  have Hr9 := zJ2 hr
  have hents : ∀ e ∈ L, e.1 < 18446744073709551616 /\ e.2 < 18446744073709551616 := by
   intro e he
   rw [hLe] at he
   have := List.mem_of_mem_take he
   unfold Dy.prs at this
   obtain ⟨k, -, rfl⟩ := List.mem_map.1 this
   exact Dy.pr_lt _ _ _
  have hok : DsOk ⟨A, n, c, b, ty, en, ph, some ⟨b1, o1, none⟩, ns, cs, segs, Al, i, cl, L, gm⟩ := ⟨hn, hc, hns, zJ1 Hfit, hents⟩
  have hiN : i <= 4294967296 := by omega
  have KC := zJ2 (dcheck_any w.heap.size g ⟨A, n, c, b, ty, en, ph, some ⟨b1, o1, none⟩, ns, cs, segs, Al, i, cl, L, gm⟩ _ (zJ1 HR2).ds hok hiN)
  have Hok := zJ2 hok
  have HBel := zJ2 (zJ1 HR2).bel
  subst hz
  clear hr hLe hents hok Hop2 Hpush Hstop HR2
  go_wp2_with fail
  refine (zJ1 KC).mono ?_
  rintro e w7 ⟨rfl, hds, hb7⟩
  have Hds := zJ2 hds
  have HB7 := zJ2 ((zJ1 HBel).trans hb7)
  clear hds hb7 KC HBel
  dsimp only
  obtain ⟨my, hmy⟩ : ∃ m, Dy.may L = m := ⟨_, rfl⟩
  have hr := zJ1 Hr9
  have hd7 := zJ1 Hds
  dsimp only at hd7
  rw [hmy] at hr hd7 ⊢
  have Hr10 := zJ2 hr
  have Hd8 := zJ2 hd7
  clear hr hd7 Hr9 Hds hmy
  go_wp2_with fail
  go_ret2
  refine ⟨zJ1 HB7, ?_⟩
  by_cases hm0 : my = 0
  ·have hr := zJ1 Hr10
   rw [if_pos hm0] at hr
   subst hm0
   exact .inr ⟨g, Al, i, cl, L, gm, hr, rfl, (zJ1 Hd8) rfl, zJ1 Hok⟩
  ·have hr := zJ1 Hr10
   rw [if_neg hm0] at hr
   exact .inl ⟨some ⟨g, 0, none⟩, by rw [hr], by rw [hr]; rfl, fun h => by rw [hr] at h; exact absurd h hm0⟩
 have hz2 : ¬ (x1 : Int) = 0 := by omega
 have w5 := (zJ1 HR2).ds.blk.cell (i := 5) rfl
 have HR3 := zJ2 (zJ1 HR2).drew
 have HE3 := zJ2 ((zJ1 HE9).drew)
 have w7 := ((zJ1 HR3).alloc (.cells #[.int .u64 (x1 : Nat), .int .u64 (x2 : Nat)] 182)).ds.blk.cell (i := 5) rfl
 go_wp2_with fail
 have w6 := (zJ1 HR3).ds.blk.cell (i := 5) rfl
 have hxx : ¬ ((x1, x2) : Nat × Nat).1 = 0 := hz
 have hp := zJ1 Hpush
 rw [hx] at hp
 have HP := zJ2 hp
 have Hxx := zJ2 hxx
 have hgr : g < wr.heap.size := by have := (zJ1 HR3).sz; simp at this; have h1 := (zJ1 HR2).ds.blk.lt; simp at h1; omega
 have HSK' : Hid (∀ w' : World, Blk w' wr.heap.size 182 [.int .u64 (x1 : Nat), .int .u64 (x2 : Nat)] -> (w'.cell? ⟨wr.heap.size, 0, none⟩ = some (.int .u64 (x1 : Nat)) /\ w'.cell? ⟨wr.heap.size, 1, none⟩ = some (.int .u64 (x2 : Nat)))) := zJ2 (fun w' h => ⟨h.cell (i := 0) rfl, h.cell (i := 1) rfl⟩)
 clear hp hxx HE9 HR2 Hpush Hstop Hop2
 refine wp_region_held_drew (S := fun w' => w'.cell? ⟨wr.heap.size, 0, none⟩ = some (.int .u64 (x1 : Nat)) /\ w'.cell? ⟨wr.heap.size, 1, none⟩ = some (.int .u64 (x2 : Nat))) (by kernel_rfl) ((zJ1 HSK') _ (zJ1 HE3)) (fun HS0 => ?_)
 refine takeD (i := 0) (d := some 68) (v := ?_) rfl rfl (by kernel_rfl) (by kernel_rfl) (by kernel_rfl) (fun _ _ _ h => h) (Or.inl ⟨by rfl, ?y0⟩) HS0 ?_
 case y0 => (intro w' hSw; (try dsimp only at hSw); go_simp; (try with_reducible rfl))
 simp only [Act.put, List.setIfInBounds_toArray, List.set_cons_zero, List.set_cons_succ]
 refine takeD (i := 1) (d := some 69) (v := ?_) rfl rfl (by kernel_rfl) (by kernel_rfl) (by kernel_rfl) (fun _ _ _ h => h) (Or.inl ⟨by rfl, ?y1⟩) HS0 ?_
 case y1 => (intro w' hSw; (try dsimp only at hSw); go_simp; (try with_reducible rfl))
 simp only [Act.put, List.setIfInBounds_toArray, List.set_cons_zero, List.set_cons_succ]
 refine takeD (i := 2) (d := some 70) (v := ?_) rfl rfl (by kernel_rfl) (by kernel_rfl) (by kernel_rfl) (fun _ _ _ h => h) (Or.inl ⟨by rfl, ?y2⟩) HS0 ?_
 case y2 => (intro w' hSw; (try dsimp only at hSw); go_simp; (try with_reducible rfl))
 simp only [Act.put, List.setIfInBounds_toArray, List.set_cons_zero, List.set_cons_succ]
 refine takeD (i := 3) (d := some 71) (v := ?_) rfl rfl (by kernel_rfl) (by kernel_rfl) (by kernel_rfl) (fun _ _ _ h => h) (Or.inl ⟨by rfl, ?y3⟩) HS0 ?_
 case y3 => (intro w' hSw; (try dsimp only at hSw); go_simp; (try with_reducible rfl))
 simp only [Act.put, List.setIfInBounds_toArray, List.set_cons_zero, List.set_cons_succ]
 refine takeD (i := 5) (d := some 73) (v := ?_) rfl rfl (by kernel_rfl) (by kernel_rfl) (by kernel_rfl) (fun _ _ _ h => h) (Or.inl ⟨by rfl, ?y5⟩) HS0 ?_
 case y5 => (intro w' hSw; (try dsimp only at hSw); go_simp; (try with_reducible rfl))
 simp only [Act.put, List.setIfInBounds_toArray, List.set_cons_zero, List.set_cons_succ]
 refine wpAnyH_ready (rs := [4, 6]) (by kernel_rfl) (by simp) ?_
 refine AllReadyH.cons (i := 4) rfl (fun K hK => ?way4) (AllReadyH.cons (i := 6) rfl (fun K hK => ?way6) AllReadyH.nil)
 case way4 =>
  rw [if_pos (by rfl)]
  go_simp
  refine hK.out _ _ ((zJ1 HSK') _ (zJ1 HE3)) (fun hHeld => ?_)
  clear hK K HS0
  have HS0 := hHeld
  clear hHeld
  (try simp only [Act.put, List.setIfInBounds_toArray, List.set_cons_zero, List.set_cons_succ])
  refine wpAnyH_ready (rs := [6]) (by kernel_rfl) (by simp) ?_
  refine AllReadyH.cons (i := 6) rfl (fun K hK => ?_) AllReadyH.nil
  rw [if_pos (by rfl)]
  go_simp
  refine hK.out _ _ ((zJ1 HSK') _ ((zJ1 HE3).alloc _)) (fun hHeld => ?_)
  clear hK K HS0
  have HS0 := hHeld
  clear hHeld
  (try simp only [Act.put, List.setIfInBounds_toArray, List.set_cons_zero, List.set_cons_succ])
  refine wpAnyH_ready (rs := [7]) (by kernel_rfl) (by simp) ?_
  refine AllReadyH.cons (i := 7) rfl (fun K hK => ?_) AllReadyH.nil
  rw [if_pos (by rfl)]
  refine vJ6 enTy _ _ rfl w3.heap.size (.slice Al i cl) i (entC L) rfl (zJ1 HR3).own #[.int .u64 (x1 : Nat), .int .u64 (x2 : Nat)] _ rfl (by simp) rfl (by intro u hu; simp at hu; rcases hu with rfl | rfl <;> rfl) (by omega) (zJ1 HR3).sz ?_
  intro A6 c6 w8 ho6 hg6
  have Hg6 := zJ2 hg6
  have Ho6 := zJ2 ho6
  have HE6 : Hid (Blk w8 wr.heap.size 182 [.int .u64 (x1 : Nat), .int .u64 (x2 : Nat)]) := zJ2 ((hg6.block wr.heap.size (zJ1 HE3).lt (fun e => by have := (zJ1 Hlt) _ e.symm; omega)).trans (zJ1 HE3))
  have hR6 := (zJ1 HP) _ _ _ _ (zJ1 HR3) (zJ1 Hxx) ho6 hg6
  have HR6 := zJ2 hR6
  have v9 : ∃ u, w8.cell? ⟨g, 5, none⟩ = some u := ⟨_, (show Blk w8 g 178 _ from (hg6.block g (zJ1 HR3).ds.blk.lt (fun e => (zJ1 HR3).ds.notG _ e.symm rfl trivial)).trans (zJ1 HR3).ds.blk).cell (i := 5) rfl⟩
  have f9 : w8.frozen? ⟨g, 5, none⟩ = false := (show Blk w8 g 178 _ from (hg6.block g (zJ1 HR3).ds.blk.lt (fun e => (zJ1 HR3).ds.notG _ e.symm rfl trivial)).trans (zJ1 HR3).ds.blk).free 5
  obtain ⟨u9, v9⟩ := v9
  clear ho6 hg6 hR6
  refine hK.out _ _ ((zJ1 HSK') _ (zJ1 HE6)) (fun hHeld => ?_)
  clear hK K HS0
  have HS0 := hHeld
  clear hHeld
  (try simp only [Act.put, List.setIfInBounds_toArray, List.set_cons_zero, List.set_cons_succ])
  refine takeD (i := 8) (d := some 76) (v := ?_) rfl rfl (by kernel_rfl) (by kernel_rfl) (by kernel_rfl) (fun _ _ _ h => h) (Or.inl ⟨by rfl, ?y8⟩) HS0 ?_
  case y8 => (intro w' hSw; (try dsimp only at hSw); go_simp; (try with_reducible rfl))
  simp only [Act.put, List.setIfInBounds_toArray, List.set_cons_zero, List.set_cons_succ]
  refine takeD (i := 9) (d := some 77) (v := ?_) rfl rfl (by kernel_rfl) (by kernel_rfl) (by kernel_rfl) (fun _ _ _ h => h) (Or.inl ⟨by rfl, ?y9⟩) HS0 ?_
  case y9 => (intro w' hSw; (try dsimp only at hSw); go_simp; (try with_reducible rfl))
  simp only [Act.put, List.setIfInBounds_toArray, List.set_cons_zero, List.set_cons_succ]
  refine wpAnyH_ready (rs := [10]) (by kernel_rfl) (by simp) ?_
  refine AllReadyH.cons (i := 10) rfl (fun K hK => ?_) AllReadyH.nil
  rw [if_pos (by rfl)]
  go_simp
  refine hK.out _ _ ((zJ1 HSK') _ ((zJ1 HE6).other (p := ⟨g, 5, none⟩) (by dsimp only; omega) _)) (fun hHeld => ?_)
  clear hK K HS0
  have HS0 := hHeld
  clear hHeld
  (try simp only [Act.put, List.setIfInBounds_toArray, List.set_cons_zero, List.set_cons_succ])
  refine wpAnyH_done (by kernel_rfl) ?_ _
  clear v9 f9
  go_wp2_with fail
  go_roundg (N - (i + 1))
  case measure => omega
  case rel => exact ⟨i + 1, A6, c6, L ++ [(x1, x2)], rfl, by omega, by go_num, zJ1 HR6⟩
 case way6 =>
  rw [if_pos (by rfl)]
  go_simp
  refine hK.out _ _ ((zJ1 HSK') _ ((zJ1 HE3).alloc _)) (fun hHeld => ?_)
  clear hK K HS0
  have HS0 := hHeld
  clear hHeld
  (try simp only [Act.put, List.setIfInBounds_toArray, List.set_cons_zero, List.set_cons_succ])
  refine wpAnyH_ready (rs := [4]) (by kernel_rfl) (by simp) ?_
  refine AllReadyH.cons (i := 4) rfl (fun K hK => ?_) AllReadyH.nil
  rw [if_pos (by rfl)]
  go_simp
  refine hK.out _ _ ((zJ1 HSK') _ ((zJ1 HE3).alloc _)) (fun hHeld => ?_)
  clear hK K HS0
  have HS0 := hHeld
  clear hHeld
  (try simp only [Act.put, List.setIfInBounds_toArray, List.set_cons_zero, List.set_cons_succ])
  refine wpAnyH_ready (rs := [7]) (by kernel_rfl) (by simp) ?_
  refine AllReadyH.cons (i := 7) rfl (fun K hK => ?_) AllReadyH.nil
  rw [if_pos (by rfl)]
  refine vJ6 enTy _ _ rfl w3.heap.size (.slice Al i cl) i (entC L) rfl (zJ1 HR3).own #[.int .u64 (x1 : Nat), .int .u64 (x2 : Nat)] _ rfl (by simp) rfl (by intro u hu; simp at hu; rcases hu with rfl | rfl <;> rfl) (by omega) (zJ1 HR3).sz ?_
  intro A6 c6 w8 ho6 hg6
  have Hg6 := zJ2 hg6
  have Ho6 := zJ2 ho6
  have HE6 : Hid (Blk w8 wr.heap.size 182 [.int .u64 (x1 : Nat), .int .u64 (x2 : Nat)]) := zJ2 ((hg6.block wr.heap.size (zJ1 HE3).lt (fun e => by have := (zJ1 Hlt) _ e.symm; omega)).trans (zJ1 HE3))
  have hR6 := (zJ1 HP) _ _ _ _ (zJ1 HR3) (zJ1 Hxx) ho6 hg6
  have HR6 := zJ2 hR6
  have v9 : ∃ u, w8.cell? ⟨g, 5, none⟩ = some u := ⟨_, (show Blk w8 g 178 _ from (hg6.block g (zJ1 HR3).ds.blk.lt (fun e => (zJ1 HR3).ds.notG _ e.symm rfl trivial)).trans (zJ1 HR3).ds.blk).cell (i := 5) rfl⟩
  have f9 : w8.frozen? ⟨g, 5, none⟩ = false := (show Blk w8 g 178 _ from (hg6.block g (zJ1 HR3).ds.blk.lt (fun e => (zJ1 HR3).ds.notG _ e.symm rfl trivial)).trans (zJ1 HR3).ds.blk).free 5
  obtain ⟨u9, v9⟩ := v9
  clear ho6 hg6 hR6
  refine hK.out _ _ ((zJ1 HSK') _ (zJ1 HE6)) (fun hHeld => ?_)
  clear hK K HS0
  have HS0 := hHeld
  clear hHeld
  (try simp only [Act.put, List.setIfInBounds_toArray, List.set_cons_zero, List.set_cons_succ])
  refine takeD (i := 8) (d := some 76) (v := ?_) rfl rfl (by kernel_rfl) (by kernel_rfl) (by kernel_rfl) (fun _ _ _ h => h) (Or.inl ⟨by rfl, ?y8⟩) HS0 ?_
  case y8 => (intro w' hSw; (try dsimp only at hSw); go_simp; (try with_reducible rfl))
  simp only [Act.put, List.setIfInBounds_toArray, List.set_cons_zero, List.set_cons_succ]
  refine takeD (i := 9) (d := some 77) (v := ?_) rfl rfl (by kernel_rfl) (by kernel_rfl) (by kernel_rfl) (fun _ _ _ h => h) (Or.inl ⟨by rfl, ?y9⟩) HS0 ?_
  case y9 => (intro w' hSw; (try dsimp only at hSw); go_simp; (try with_reducible rfl))
  simp only [Act.put, List.setIfInBounds_toArray, List.set_cons_zero, List.set_cons_succ]
  refine wpAnyH_ready (rs := [10]) (by kernel_rfl) (by simp) ?_
  refine AllReadyH.cons (i := 10) rfl (fun K hK => ?_) AllReadyH.nil
  rw [if_pos (by rfl)]
  go_simp
  refine hK.out _ _ ((zJ1 HSK') _ ((zJ1 HE6).other (p := ⟨g, 5, none⟩) (by dsimp only; omega) _)) (fun hHeld => ?_)
  clear hK K HS0
  have HS0 := hHeld
  clear hHeld
  (try simp only [Act.put, List.setIfInBounds_toArray, List.set_cons_zero, List.set_cons_succ])
  refine wpAnyH_done (by kernel_rfl) ?_ _
  clear v9 f9
  go_wp2_with fail
  go_roundg (N - (i + 1))
  case measure => omega
  case rel => exact ⟨i + 1, A6, c6, L ++ [(x1, x2)], rfl, by omega, by go_num, zJ1 HR6⟩
end Go.Proofs.YtnbecdahfgkffaaGreat
namespace Go.Proofs.YtnbecdahfgkffaaGreat
namespace Dy
theorem symAt_cut {t b : List UInt8} {q m p : Nat} (h : p + 24 <= m) : symAt t (cut b q m) p = symAt t b (q + p) := by
 unfold symAt
 rw [zJw (p := q) (n := m) (q := p) (s := 4) (by omega), zJw (p := q) (n := m) (q := p + 4) (s := 1) (by omega), zJw (p := q) (n := m) (q := p + 8) (s := 8) (by omega), zJw (p := q) (n := m) (q := p + 16) (s := 8) (by omega), zJw (p := q) (n := m) (q := p + 6) (s := 2) (by omega)]
 simp only [Nat.add_assoc]
theorem relAt_cut {b : List UInt8} {q m p : Nat} (h : p + 24 <= m) : relAt (cut b q m) p = relAt b (q + p) := by
 unfold relAt
 rw [zJw (p := q) (n := m) (q := p) (s := 8) (by omega), zJw (p := q) (n := m) (q := p + 8) (s := 4) (by omega), zJw (p := q) (n := m) (q := p + 12) (s := 4) (by omega), zJw (p := q) (n := m) (q := p + 16) (s := 8) (by omega)]
 simp only [Nat.add_assoc]
theorem syms_rows {t b : List UInt8} {q : Nat} : ∀ n k, rowsOf (fun k => symAt t b (q + k * 24)) n k = symsFrom t b n (q + k * 24)
 | 0, k => rfl
 | n + 1, k => by
  rw [rowsOf, symsFrom, syms_rows n (k + 1), show q + (k + 1) * 24 = q + k * 24 + 24 from by omega]
  cases symAt t b (q + k * 24) <;> rfl
def relOf (m : Nat) (b : List UInt8) (p : Nat) : Option Rel := if m < Wd.num b (p + 12) 4 then none else some (relAt b p)
theorem rels_rows {m : Nat} {b : List UInt8} : ∀ n k, rowsOf (fun k => relOf m b (k * 24)) n k = relsFrom m b n (k * 24)
 | 0, k => rfl
 | n + 1, k => by
  rw [rowsOf, relsFrom, rels_rows n (k + 1), show (k + 1) * 24 = k * 24 + 24 from by omega]
  unfold relOf
  by_cases h : m < Wd.num b (k * 24 + 12) 4
  ·rw [if_pos h, if_pos h]
  ·rw [if_neg h, if_neg h]
theorem relOf_cut {m : Nat} {b : List UInt8} {k : Nat} : relOf m (cut b (k * 24) 24) 0 = relOf m b (k * 24) := by
 unfold relOf
 rw [zJw (p := k * 24) (n := 24) (q := 0 + 12) (s := 4) (by omega), relAt_cut (q := k * 24) (m := 24) (p := 0) (by omega), Nat.zero_add]
 rfl
end Dy
end Go.Proofs.YtnbecdahfgkffaaGreat
