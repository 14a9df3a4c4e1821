/- Texts of the claim LawMakerParsed (MkEl, MkEl2, MkEl3, Elf4, Elf5, Elf6, Elf6p, Elf7, MkL4, MkR9c, MkR9d, MkR7, MkR8, MkR9b, Apart3, Apart4): what the functions that the statement reaches compute, and plain laws of it. Conditions: those that each theorem states. -/
import Derived.Test.YtnbecdahfgkffaaGreatMpK3
import Derived.Test.YtnbecdahfgkffaaGreatMpK2
import Derived.Maps.OwnOps
import Derived.Maps.OwnSet
import Derived.Recover
import Derived.Test.YtnbecdahfgkffaaGreatMpK7
import Derived.Test.YtnbecdahfgkffaaGreatMpK5
import Derived.Laws.EntriesVeiled
import Derived.Deep.DeepCutAuto
import Derived.Deep.CutBlock
import Derived.Test.YtnbecdahfgkffaaGreatMpK4
import Derived.Test.YtnbecdahfgkffaaGreatMpK1
set_option linter.unusedVariables false
set_option linter.unusedSimpArgs false
namespace Go.Proofs.YtnbecdahfgkffaaGreat.Mk
open Cl (lb lb_len uJ6)
def sg (r : Row) : El.Sg := ⟨r.kind, r.flags, r.off, r.addr, r.fsz, r.msz⟩
theorem yJl {b P S : List UInt8} {v n p : Nat} (h : b = P ++ (lb v n ++ S)) (hp : P.length = p) (hv : v < 256 ^ n) : Wd.num b p n = v := by
 subst h hp
 unfold Wd.num
 rw [List.drop_left, List.take_left' (lb_len n v), uJ6 n v hv]
structure RowFit (r : Row) : Prop where
 kind : r.kind < 4294967296
 flags : r.flags < 4294967296
 off : r.off < 18446744073709551616
 addr : r.addr < 18446744073709551616
 fsz : r.fsz < 18446744073709551616
 msz : r.msz < 18446744073709551616
 align : r.align < 18446744073709551616
theorem seg_row {b P S : List UInt8} {r : Row} {p : Nat} (h : b = P ++ (rowB r ++ S)) (hp : P.length = p) (hr : RowFit r) : El.segAt b p = sg r /\ Wd.num b (p + 48) 8 = r.align := by
 subst hp
 obtain ⟨h1, h2, h3, h4, h5, h6, h7⟩ := hr
 have hb : b = P ++ (lb r.kind 4 ++ (lb r.flags 4 ++ (lb r.off 8 ++ (lb r.addr 8 ++ (lb r.addr 8 ++ (lb r.fsz 8 ++ (lb r.msz 8 ++ (lb r.align 8 ++ S)))))))) := by rw [h]; unfold rowB; simp only [List.append_assoc]
 have e1 := yJl (P := P) (n := 4) hb rfl (by omega)
 have e2 := yJl (b := b) (P := P ++ lb r.kind 4) (n := 4) (p := P.length + 4) (v := r.flags) (by rw [hb]; simp only [List.append_assoc]; rfl) (by simp [lb_len]) (by omega)
 have e3 := yJl (b := b) (P := P ++ lb r.kind 4 ++ lb r.flags 4) (n := 8) (p := P.length + 8) (v := r.off) (by rw [hb]; simp only [List.append_assoc]; rfl) (by simp [lb_len]) (by omega)
 have e4 := yJl (b := b) (P := P ++ lb r.kind 4 ++ lb r.flags 4 ++ lb r.off 8) (n := 8) (p := P.length + 16) (v := r.addr) (by rw [hb]; simp only [List.append_assoc]; rfl) (by simp [lb_len]) (by omega)
 have e5 := yJl (b := b) (P := P ++ lb r.kind 4 ++ lb r.flags 4 ++ lb r.off 8 ++ lb r.addr 8 ++ lb r.addr 8) (n := 8) (p := P.length + 32) (v := r.fsz) (by rw [hb]; simp only [List.append_assoc]; rfl) (by simp [lb_len]) (by omega)
 have e6 := yJl (b := b) (P := P ++ lb r.kind 4 ++ lb r.flags 4 ++ lb r.off 8 ++ lb r.addr 8 ++ lb r.addr 8 ++ lb r.fsz 8) (n := 8) (p := P.length + 40) (v := r.msz) (by rw [hb]; simp only [List.append_assoc]; rfl) (by simp [lb_len]) (by omega)
 have e7 := yJl (b := b) (P := P ++ lb r.kind 4 ++ lb r.flags 4 ++ lb r.off 8 ++ lb r.addr 8 ++ lb r.addr 8 ++ lb r.fsz 8 ++ lb r.msz 8) (n := 8) (p := P.length + 48) (v := r.align) (by rw [hb]; simp only [List.append_assoc]; rfl) (by simp [lb_len]) (by omega)
 refine ⟨?_, e7⟩
 unfold El.segAt sg
 rw [e1, e2, e3, e4, e5, e6]
theorem rowsB_at {l : List Row} {i : Nat} {r : Row} (h : l[i]? = some r) : rowsB l = rowsB (l.take i) ++ (rowB r ++ rowsB (l.drop (i + 1))) /\ (rowsB (l.take i)).length = 56 * i := by
 obtain ⟨hi, hr⟩ := List.getElem?_eq_some_iff.1 h
 constructor
 ·have e : l = l.take i ++ (r :: l.drop (i + 1)) := by rw [<- hr, <- List.drop_eq_getElem_cons hi, List.take_append_drop]
  conv => lhs; rw [e]
  unfold rowsB
  rw [List.flatMap_append, List.flatMap_cons]
 ·rw [vJn, List.length_take]
  omega
theorem file_head (x : Spec) : Mk.file x = head x (rows x) ++ (out2 x).drop (head x (rows x)).length := by
 unfold Mk.file over
 simp
theorem wJt (x : Spec) (S : List UInt8) : head x (rows x) ++ S = magic ++ (lb x.type 2 ++ (lb 62 2 ++ (lb 1 4 ++ (lb x.entry 8 ++ (lb 64 8 ++ (lb 0 8 ++ (lb 0 4 ++ (lb 64 2 ++ (lb 56 2 ++ (lb (rows x).length 2 ++ (lb 64 2 ++ (lb 0 2 ++ (lb 0 2 ++ (rowsB (rows x) ++ S)))))))))))))) := by
 unfold head
 simp only [List.append_assoc]
theorem head_nums {b S : List UInt8} {x : Spec} (hb : b = head x (rows x) ++ S) (ht : x.type < 65536) (he : x.entry < 18446744073709551616) (hr : (rows x).length < 65536) :
  Wd.num b 16 2 = x.type /\ Wd.num b 18 2 = 62 /\ Wd.num b 20 4 = 1 /\ Wd.num b 24 8 = x.entry /\ Wd.num b 32 8 = 64 /\ Wd.num b 54 2 = 56 /\ Wd.num b 56 2 = (rows x).length := by
 rw [wJt] at hb
 have hm : magic.length = 16 := rfl
 refine ⟨yJl (P := magic) hb rfl (by omega), yJl (P := magic ++ lb x.type 2) (S := ?_) (by rw [hb]; simp only [List.append_assoc]; rfl) (by simp [lb_len, hm]) (by omega), yJl (P := magic ++ lb x.type 2 ++ lb 62 2) (by rw [hb]; simp only [List.append_assoc]; rfl) (by simp [lb_len, hm]) (by omega), yJl (P := magic ++ lb x.type 2 ++ lb 62 2 ++ lb 1 4) (by rw [hb]; simp only [List.append_assoc]; rfl) (by simp [lb_len, hm]) (by omega), yJl (P := magic ++ lb x.type 2 ++ lb 62 2 ++ lb 1 4 ++ lb x.entry 8) (by rw [hb]; simp only [List.append_assoc]; rfl) (by simp [lb_len, hm]) (by omega),
  yJl (P := magic ++ lb x.type 2 ++ lb 62 2 ++ lb 1 4 ++ lb x.entry 8 ++ lb 64 8 ++ lb 0 8 ++ lb 0 4 ++ lb 64 2) (by rw [hb]; simp only [List.append_assoc]; rfl) (by simp [lb_len, hm]) (by omega), yJl (P := magic ++ lb x.type 2 ++ lb 62 2 ++ lb 1 4 ++ lb x.entry 8 ++ lb 64 8 ++ lb 0 8 ++ lb 0 4 ++ lb 64 2 ++ lb 56 2) (by rw [hb]; simp only [List.append_assoc]; rfl) (by simp [lb_len, hm]) (by omega)⟩
theorem head_seg {b S : List UInt8} {x : Spec} (hb : b = head x (rows x) ++ S) {i : Nat} {r : Row} (h : (rows x)[i]? = some r) (hr : RowFit r) : El.segAt b (64 + i * 56) = sg r /\ Wd.num b (64 + i * 56 + 48) 8 = r.align := by
 obtain ⟨h1, h2⟩ := rowsB_at h
 rw [wJt, h1] at hb
 refine seg_row (P := magic ++ lb x.type 2 ++ lb 62 2 ++ lb 1 4 ++ lb x.entry 8 ++ lb 64 8 ++ lb 0 8 ++ lb 0 4 ++ lb 64 2 ++ lb 56 2 ++ lb (rows x).length 2 ++ lb 64 2 ++ lb 0 2 ++ lb 0 2 ++ rowsB ((rows x).take i)) (S := rowsB ((rows x).drop (i + 1)) ++ S) (by rw [hb]; simp only [List.append_assoc]) ?_ hr
 have hm : magic.length = 16 := rfl
 simp [lb_len, hm, h2]
 omega
theorem head_prefix {b S : List UInt8} {x : Spec} (hb : b = head x (rows x) ++ S) : Lib.hasPrefix b El.magic = true := by
 rw [wJt] at hb
 unfold Lib.hasPrefix
 rw [List.isPrefixOf_iff_prefix, hb]
 exact ⟨[1, 0, 0, 0, 0, 0, 0, 0, 0].drop 0 |> fun _ => _, rfl⟩
end Go.Proofs.YtnbecdahfgkffaaGreat.Mk
namespace Go.Proofs.YtnbecdahfgkffaaGreat.Mk
open Cl (lb lb_len uJ6)
theorem yJa (x : Spec) : (base x = 4194304 /\ x.type = 2) \/ (base x = 0 /\ x.type ≠ 2) := by
 unfold base
 split
 ·exact .inl ⟨rfl, ‹_›⟩
 ·exact .inr ⟨rfl, ‹_›⟩
theorem pad_mod (f : List UInt8) : (pad 4096 f).length % 4096 = 0 := by rw [pad_up]; exact Nat.mul_mod_left _ _
structure Made (x : Spec) : Prop where
 ok : MayOk x
 entry : x.entry < 18446744073709551616
 f2 : (front2 x).length <= 65536
 o2 : (out2 x).length <= 65536
section
variable {x : Spec}
theorem file_len (x : Spec) : (Mk.file x).length = (out2 x).length := by
 unfold Mk.file
 refine vJ9 _ _ _ ?_
 rw [wJf, yJd]
 have h1 := yJ9 x
 have h2 := (xJ4 x).1
 have h3 := xJs x
 have h4 := uJz x
 have h5 := uJy x
 omega
structure RowG (x : Spec) (r : Row) : Prop where
 fit : RowFit r
 flags : r.flags <= 7
 le : r.fsz <= r.msz
 inn : r.off + r.fsz <= (out2 x).length
 end_ : r.addr + r.msz <= 4294967296
 kind : r.kind = 1 \/ r.kind = 2 \/ r.kind = 3 \/ r.kind = 6
 load : r.kind = 1 -> r.align = 4096 /\ r.off % 4096 = r.addr % 4096 /\ 0 < r.msz
theorem tJ3 {k off sz al : Nat} (h : Made x) (hk : k = 1 \/ k = 2 \/ k = 3 \/ k = 6) (hin : off + sz <= (out2 x).length) (hal : al <= 4096) (h1 : k = 1 -> al = 4096 /\ off % 4096 = 0 /\ 0 < sz) : RowG x (inRow x k off sz al) := by
 have h2 := h.o2
 have hb := yJa x
 unfold inRow
 refine ⟨⟨?_, ?_, ?_, ?_, ?_, ?_, ?_⟩, ?_, ?_, hin, ?_, hk, fun e => ?_⟩
 all_goals first | (show k < _; omega) | (show (4 : Nat) < _; omega) | (show off < _; omega) | (show base x + off < _; omega) | (show sz < _; omega) | (show al < _; omega) | (show (4 : Nat) <= 7; omega) | (show sz <= sz; omega) | (show base x + off + sz <= _; omega) | skip
 obtain ⟨q1, q2, q3⟩ := h1 e
 refine ⟨q1, ?_, q3⟩
 show off % 4096 = (base x + off) % 4096
 omega
theorem lens (x : Spec) : (front0 x).length = 64 + 56 * many x /\ (front0 x).length <= (front1 x).length /\ (front1 x).length <= (front2 x).length /\ (front2 x).length <= (out1 x).length /\ (out1 x).length <= (out2 x).length := ⟨yJ9 x, (xJ4 x).1, xJs x, uJz x, uJy x⟩
theorem phdr_g (h : Made x) : ∀ r ∈ rowPhdr x, RowG x r := by
 intro r hr
 rw [List.mem_singleton.1 hr]
 have := lens x
 exact tJ3 h (by omega) (by omega) (by omega) (by omega)
theorem interp_in (hi : isInterp x = true) : (pad 8 (front0 x)).length + (x.interp.size + 1) = (front1 x).length := by
 unfold front1
 rw [if_pos hi, List.length_append, vJx]
theorem interp_g (h : Made x) : ∀ r ∈ rowInterp x, RowG x r := by
 intro r hr
 unfold rowInterp at hr
 split at hr
 ·rename_i hi
  rw [List.mem_singleton.1 hr]
  have := lens x
  have h2 := interp_in hi
  exact tJ3 h (by omega) (by omega) (by omega) (by omega)
 ·cases hr
theorem first_g (h : Made x) : ∀ r ∈ rowFirst x, RowG x r := by
 intro r hr
 rw [List.mem_singleton.1 hr]
 have := lens x
 exact tJ3 h (by omega) (by omega) (by omega) (fun _ => ⟨rfl, rfl, by omega⟩)
theorem uJt (hd : x.dynamic = true) : (pad 8 (front1 x)).length + room x <= (front2 x).length := by
 unfold front2
 rw [if_pos hd, xJ7]
 have h1 := wJe x (front1 x)
 have h2 : (st0 x (front1 x)).1.length = (pad 8 (front1 x)).length + room x := by unfold st0; rw [List.length_append, yJj]
 omega
theorem dyn_g (h : Made x) : ∀ r ∈ rowDyn x, RowG x r := by
 intro r hr
 unfold rowDyn at hr
 split at hr
 ·rename_i hd
  rw [List.mem_singleton.1 hr]
  have := lens x
  have h2 := uJt hd
  exact tJ3 h (by omega) (by omega) (by omega) (by omega)
 ·cases hr
theorem text_in (hi : isText x = true) : (pad 4096 (front2 x)).length + x.text.length = (out1 x).length := by
 unfold out1
 rw [if_pos hi, List.length_append]
theorem text_g (h : Made x) : ∀ r ∈ rowText x, RowG x r := by
 intro r hr
 unfold rowText at hr
 split at hr
 ·rename_i hi
  rw [List.mem_singleton.1 hr]
  have := lens x
  have h2 := text_in hi
  have h3 := h.o2
  have h4 := pad_mod (front2 x)
  have h5 : 0 < x.text.length := by unfold isText at hi; exact of_decide_eq_true hi
  have hb := yJa x
  exact ⟨⟨by show (1 : Nat) < _; omega, by show (5 : Nat) < _; omega, by show (pad 4096 (front2 x)).length < _; omega, by show base x + 65536 < _; omega, by show x.text.length < _; omega, by show x.text.length < _; omega, by show (4096 : Nat) < _; omega⟩, by show (5 : Nat) <= 7; omega, Nat.le_refl _, by show (pad 4096 (front2 x)).length + x.text.length <= _; omega, by show base x + 65536 + x.text.length <= _; omega, .inl rfl, fun _ => ⟨rfl, by show (pad 4096 (front2 x)).length % 4096 = (base x + 65536) % 4096; omega, h5⟩⟩
 ·cases hr
theorem data_in (hi : isData x = true) : (pad 4096 (out1 x)).length + x.data.length = (out2 x).length := by
 unfold out2
 rw [if_pos hi, List.length_append]
theorem data_g (h : Made x) : ∀ r ∈ rowData x, RowG x r := by
 intro r hr
 unfold rowData at hr
 split at hr
 ·rename_i hi
  rw [List.mem_singleton.1 hr]
  have := lens x
  have h2 := data_in hi
  have h3 := h.o2
  have h4 := pad_mod (out1 x)
  have h6 := h.ok.more
  have h5 : 0 < x.data.length + x.more := by unfold isData at hi; simp at hi; omega
  have hb := yJa x
  exact ⟨⟨by show (1 : Nat) < _; omega, by show (6 : Nat) < _; omega, by show (pad 4096 (out1 x)).length < _; omega, by show base x + 131072 < _; omega, by show x.data.length < _; omega, by show x.data.length + x.more < _; omega, by show (4096 : Nat) < _; omega⟩, by show (6 : Nat) <= 7; omega, Nat.le_add_right _ _, by show (pad 4096 (out1 x)).length + x.data.length <= _; omega, by show base x + 131072 + (x.data.length + x.more) <= _; omega, .inl rfl, fun _ => ⟨rfl, by show (pad 4096 (out1 x)).length % 4096 = (base x + 131072) % 4096; omega, h5⟩⟩
 ·cases hr
theorem rows_g (h : Made x) : ∀ r ∈ rows x, RowG x r := by
 intro r hr
 unfold rows at hr
 simp only [List.mem_append] at hr
 rcases hr with ((((hr | hr) | hr) | hr) | hr) | hr
 ·exact phdr_g h r hr
 ·exact interp_g h r hr
 ·exact first_g h r hr
 ·exact text_g h r hr
 ·exact data_g h r hr
 ·exact dyn_g h r hr
theorem loads_app (a b : List El.Sg) : El.loads (a ++ b) = El.loads a ++ El.loads b := by unfold El.loads; exact List.filter_append _ _
theorem xJ3 (x : Spec) : El.loads ((rows x).map sg) = (rowFirst x ++ rowText x ++ rowData x).map sg := by
 unfold rows
 simp only [List.map_append, loads_app]
 have e1 : El.loads ((rowPhdr x).map sg) = [] := rfl
 have e2 : El.loads ((rowInterp x).map sg) = [] := by unfold rowInterp; split <;> rfl
 have e3 : El.loads ((rowFirst x).map sg) = (rowFirst x).map sg := rfl
 have e4 : El.loads ((rowText x).map sg) = (rowText x).map sg := by unfold rowText; split <;> rfl
 have e5 : El.loads ((rowData x).map sg) = (rowData x).map sg := by unfold rowData; split <;> rfl
 have e6 : El.loads ((rowDyn x).map sg) = [] := by unfold rowDyn; split <;> rfl
 rw [e1, e2, e3, e4, e5, e6]
 simp
theorem rises_loads (l : List El.Sg) : ∀ t, El.rises l t = El.rises (El.loads l) t := by
 induction l with
 | nil => intro t; rfl
 | cons s r ih =>
  intro t
  unfold El.loads at ih ⊢
  by_cases e : El.isLoad s = true
  ·rw [List.filter_cons_of_pos e, El.rises, El.rises, if_pos e, if_pos e, ih]
  ·rw [List.filter_cons_of_neg e, El.rises, if_neg e, ih]
theorem up_le {a b : Nat} (h : a <= b) (hb : b % 4096 = 0) : El.up a <= b := by unfold El.up; omega
theorem rises_rows (h : Made x) : El.rises ((rows x).map sg) 0 = true := by
 rw [rises_loads, xJ3]
 have hb := yJa x
 have hf := h.f2
 have ht := h.ok.text
 have hm := h.ok.more
 have u1 : El.up (base x + 0 + (front2 x).length) <= base x + 65536 := up_le (by omega) (by omega)
 have u2 : El.up (base x + 65536 + x.text.length) <= base x + 131072 := up_le (by omega) (by omega)
 have first : ∀ l, El.rises ((rowFirst x).map sg ++ l) 0 = El.rises l (El.up (base x + 0 + (front2 x).length)) := by
  intro l
  show El.rises (sg (inRow x 1 0 (front2 x).length 4096) :: l) 0 = _
  rw [El.rises, if_pos (by rfl)]
  show (decide (0 <= _) && _) = _
  rw [decide_eq_true (Nat.zero_le _), Bool.true_and]
  rfl
 have text : ∀ l t, t <= base x + 65536 -> El.rises l (El.up (base x + 65536 + x.text.length)) = true -> El.rises ((⟨1, 5, (pad 4096 (front2 x)).length, base x + 65536, x.text.length, x.text.length⟩ : El.Sg) :: l) t = true := by
  intro l t h1 h2
  rw [El.rises, if_pos (by rfl)]
  show (decide (t <= base x + 65536) && _) = true
  rw [decide_eq_true h1, Bool.true_and]
  exact h2
 have data : ∀ t, t <= base x + 131072 -> El.rises [(⟨1, 6, (pad 4096 (out1 x)).length, base x + 131072, x.data.length, x.data.length + x.more⟩ : El.Sg)] t = true := by
  intro t h1
  rw [El.rises, if_pos (by rfl)]
  show (decide (t <= base x + 131072) && _) = true
  rw [decide_eq_true h1, Bool.true_and]
  rfl
 rw [List.map_append, List.map_append, List.append_assoc, first]
 unfold rowText rowData
 cases isText x <;> cases isData x
 ·rfl
 ·exact data _ (by omega)
 ·exact text _ _ u1 rfl
 ·exact text _ _ u1 (data _ u2)
end
end Go.Proofs.YtnbecdahfgkffaaGreat.Mk
namespace Go.Proofs.YtnbecdahfgkffaaGreat.Mk
open Cl (lb lb_len uJ6)
theorem w64_zero {a : Nat} (h : a < 18446744073709551616) : El.w64 a 0 = a := by unfold El.w64; omega
theorem w64_sub {a b : Nat} (h : a < 18446744073709551616) (hb : b <= a) : El.w64 a b = a - b := by unfold El.w64; omega
section
variable {x : Spec}
def hd (x : Spec) : El.Hd := ⟨x.type, x.entry, 64, (rows x).map sg⟩
theorem filled_in (h : Made x) {k off sz al : Nat} (hin : off + sz <= (front2 x).length) : El.filled (hd x) (sg (inRow x k off sz al)) = true := by
 have hf := h.f2
 have hb := yJa x
 have e1 : El.holds (sg (inRow x k off sz al)) (sg (inRow x 1 0 (front2 x).length 4096)) = true := by
  unfold El.holds
  show (decide (base x + 0 <= base x + off) && decide (base x + off - (base x + 0) + sz <= (front2 x).length)) = true
  rw [decide_eq_true (by omega), decide_eq_true (by omega)]
  rfl
 unfold El.filled
 have e2 : (El.loads (hd x).segs).find? (El.holds (sg (inRow x k off sz al))) = some (sg (inRow x 1 0 (front2 x).length 4096)) := by
  show (El.loads ((rows x).map sg)).find? _ = _
  rw [xJ3, List.map_append, List.map_append, List.append_assoc]
  show (sg (inRow x 1 0 (front2 x).length 4096) :: _).find? _ = _
  rw [List.find?_cons_of_pos e1]
 rw [e2]
 show (El.w64 off 0 == base x + off - (base x + 0)) = true
 rw [w64_zero (by omega), beq_iff_eq]
 omega
theorem chk_size {s : ByteArray} (h : Pth.chk s = 0) : s.size <= 200 := by
 unfold Pth.chk at h
 split at h
 ·cases h
 ·split at h
  ·cases h
  ·omega
theorem whole_seg (h : Made x) : ∀ r ∈ rows x, El.segWhole (hd x) (sg r) = true := by
 intro r hr
 have hl := lens x
 unfold rows at hr
 simp only [List.mem_append] at hr
 rcases hr with ((((hr | hr) | hr) | hr) | hr) | hr
 ·rw [List.mem_singleton.1 hr]
  unfold El.segWhole
  rw [if_pos (by rfl)]
  exact filled_in h (by omega)
 ·unfold rowInterp at hr
  split at hr
  ·rename_i hi
   rw [List.mem_singleton.1 hr]
   unfold El.segWhole
   show (if (false : Bool) = true then _ else if (true : Bool) = true then _ else _) = true
   rw [if_neg (by decide), if_pos rfl]
   have h1 := chk_size (h.ok.interp (by unfold isInterp at hi; simpa using hi))
   show (decide (0 < x.interp.size + 1) && decide (x.interp.size + 1 <= 201)) = true
   rw [decide_eq_true (by omega), decide_eq_true (by omega)]
   rfl
  ·cases hr
 ·rw [List.mem_singleton.1 hr]
  rfl
 ·unfold rowText at hr
  split at hr
  ·rw [List.mem_singleton.1 hr]; rfl
  ·cases hr
 ·unfold rowData at hr
  split at hr
  ·rw [List.mem_singleton.1 hr]; rfl
  ·cases hr
 ·unfold rowDyn at hr
  split at hr
  ·rename_i hd'
   rw [List.mem_singleton.1 hr]
   unfold El.segWhole
   rw [if_pos (by rfl)]
   exact filled_in h (uJt hd')
  ·cases hr
theorem count_app (a b : List El.Sg) (k : Nat) : El.countK (a ++ b) k = El.countK a k + El.countK b k := by unfold El.countK; rw [List.filter_append, List.length_append]
theorem counts (x : Spec) : 0 < El.countK ((rows x).map sg) 1 /\ El.countK ((rows x).map sg) 2 < 2 /\ El.countK ((rows x).map sg) 3 < 2 /\ El.countK ((rows x).map sg) 6 < 2 := by
 unfold rows
 simp only [List.map_append, count_app]
 have a1 : El.countK ((rowPhdr x).map sg) 1 = 0 /\ El.countK ((rowPhdr x).map sg) 2 = 0 /\ El.countK ((rowPhdr x).map sg) 3 = 0 /\ El.countK ((rowPhdr x).map sg) 6 = 1 := ⟨rfl, rfl, rfl, rfl⟩
 have a2 : El.countK ((rowInterp x).map sg) 1 = 0 /\ El.countK ((rowInterp x).map sg) 2 = 0 /\ El.countK ((rowInterp x).map sg) 3 <= 1 /\ El.countK ((rowInterp x).map sg) 6 = 0 := by
  unfold rowInterp
  split
  ·exact ⟨rfl, rfl, Nat.le_refl 1, rfl⟩
  ·exact ⟨rfl, rfl, Nat.zero_le 1, rfl⟩
 have a3 : El.countK ((rowFirst x).map sg) 1 = 1 /\ El.countK ((rowFirst x).map sg) 2 = 0 /\ El.countK ((rowFirst x).map sg) 3 = 0 /\ El.countK ((rowFirst x).map sg) 6 = 0 := ⟨rfl, rfl, rfl, rfl⟩
 have a4 : El.countK ((rowText x).map sg) 2 = 0 /\ El.countK ((rowText x).map sg) 3 = 0 /\ El.countK ((rowText x).map sg) 6 = 0 := by unfold rowText; split <;> exact ⟨rfl, rfl, rfl⟩
 have a5 : El.countK ((rowData x).map sg) 2 = 0 /\ El.countK ((rowData x).map sg) 3 = 0 /\ El.countK ((rowData x).map sg) 6 = 0 := by unfold rowData; split <;> exact ⟨rfl, rfl, rfl⟩
 have a6 : El.countK ((rowDyn x).map sg) 2 <= 1 /\ El.countK ((rowDyn x).map sg) 3 = 0 /\ El.countK ((rowDyn x).map sg) 6 = 0 := by
  unfold rowDyn
  split
  ·exact ⟨Nat.le_refl 1, rfl, rfl⟩
  ·exact ⟨Nat.zero_le 1, rfl, rfl⟩
 omega
theorem enters_hd (h : Made x) : El.enters (hd x) = true := by
 have h1 := h.ok.enters
 unfold Mk.enters at h1
 unfold El.enters
 rw [Bool.or_eq_true] at h1 ⊢
 rcases h1 with h1 | h1
 ·refine .inr ?_
  unfold within at h1
  rw [Bool.and_eq_true, decide_eq_true_eq, decide_eq_true_eq] at h1
  have hi : isText x = true := by unfold isText; exact decide_eq_true (by omega)
  have hr : (⟨1, 5, (pad 4096 (front2 x)).length, base x + 65536, x.text.length, x.text.length, 4096⟩ : Row) ∈ rows x := by
   unfold rows rowText
   rw [if_pos hi]
   simp
  rw [List.any_eq_true]
  refine ⟨sg _, List.mem_map.2 ⟨_, hr, rfl⟩, ?_⟩
  unfold El.entersBy
  have e9 : decide (El.w64 (hd x).entry (base x + 65536) < x.text.length) = true := by
   show decide (El.w64 x.entry (base x + 65536) < x.text.length) = true
   rw [w64_sub h.entry h1.1]
   exact decide_eq_true h1.2
  show (_ && (_ && decide (El.w64 (hd x).entry (base x + 65536) < x.text.length))) = true
  rw [e9]
  simp [sg, El.isLoad]
 ·refine .inl ?_
  rw [Bool.and_eq_true, decide_eq_true_eq, decide_eq_true_eq] at h1
  show (x.type == 3 && x.entry == 0) = true
  rw [h1.1, h1.2]
  rfl
theorem wholeOk_hd (h : Made x) : El.wholeOk (hd x) = true := by
 obtain ⟨c1, c2, c3, c4⟩ := counts x
 unfold El.wholeOk
 have e1 : (hd x).segs.all (El.segWhole (hd x)) = true := by
  rw [List.all_eq_true]
  intro s hs
  obtain ⟨r, hr, rfl⟩ := List.mem_map.1 hs
  exact whole_seg h r hr
 rw [e1]
 show (true && (decide (0 < El.countK ((rows x).map sg) 1) && decide (El.countK ((rows x).map sg) 2 < 2) && decide (El.countK ((rows x).map sg) 3 < 2) && decide (El.countK ((rows x).map sg) 6 < 2) && El.enters (hd x))) = true
 rw [decide_eq_true c1, decide_eq_true c2, decide_eq_true c3, decide_eq_true c4, enters_hd h]
 rfl
theorem segs_file {b S : List UInt8} (h : Made x) (hb : b = head x (rows x) ++ S) : El.segsOf b (rows x).length = (rows x).map sg := by
 have hty : x.type < 65536 := by have := h.ok.type; omega
 have hrl : (rows x).length < 65536 := by rw [yJd]; have := xJm x; omega
 obtain ⟨n1, n2, n3, n4, n5, n6, n7⟩ := head_nums hb hty h.entry hrl
 unfold El.segsOf
 rw [n5]
 apply List.ext_getElem?
 intro i
 rw [List.getElem?_map, List.getElem?_map]
 by_cases hi : i < (rows x).length
 ·have hr : (rows x)[i]? = some (rows x)[i] := List.getElem?_eq_getElem hi
  rw [List.getElem?_range hi, hr]
  have hg := rows_g h _ (List.getElem_mem hi)
  show some (El.segAt b (64 + i * 56)) = some (sg (rows x)[i])
  rw [(head_seg hb hr hg.fit).1]
 ·rw [List.getElem?_eq_none (by simpa using hi), List.getElem?_eq_none (by omega)]
  rfl
theorem parse_file (h : Made x) : El.parse (Mk.file x) = (0, hd x) := by
 have hb := file_head x
 obtain ⟨b, hbe⟩ : ∃ b, Mk.file x = b := ⟨_, rfl⟩
 obtain ⟨S, hS⟩ : ∃ S, (out2 x).drop (head x (rows x)).length = S := ⟨_, rfl⟩
 have hlen : b.length = (out2 x).length := by rw [<- hbe, file_len]
 rw [hbe, hS] at hb
 have hty : x.type < 65536 := by have := h.ok.type; omega
 have hmany := xJm x
 have hrn := yJd x
 have hrl : (rows x).length < 65536 := by omega
 obtain ⟨n1, n2, n3, n4, n5, n6, n7⟩ := head_nums hb hty h.entry hrl
 have hls := lens x
 have hhd : El.headOf b = hd x := by
  unfold El.headOf hd
  rw [n1, n4, n5, n7, segs_file h hb]
 have hh : El.hdrOk b = true := by
  unfold El.hdrOk
  rw [decide_eq_true (by omega), head_prefix hb, n1, n2, n3, n6, n7, decide_eq_true (by omega), decide_eq_true (by omega)]
  have ht := h.ok.type
  rcases ht with ht | ht <;> rw [ht] <;> rfl
 have hf : El.formOk b = true := by
  unfold El.formOk
  rw [n5, n7, segs_file h hb, rises_rows h, hhd, wholeOk_hd h, decide_eq_true (by omega), n1]
  have ha : (List.range (rows x).length).all (fun i => El.segOk b (64 + i * 56) x.type) = true := by
   rw [List.all_eq_true]
   intro i hi
   rw [List.mem_range] at hi
   have hr : (rows x)[i]? = some (rows x)[i] := List.getElem?_eq_getElem hi
   have hg := rows_g h _ (List.getElem_mem hi)
   obtain ⟨q1, q2⟩ := head_seg hb hr hg.fit
   unfold El.segOk
   rw [q1, q2]
   have g1 : El.flagsB (sg (rows x)[i]) = true := decide_eq_true hg.flags
   have g2 : El.insideB b.length (sg (rows x)[i]) = true := by
    unfold El.insideB
    rw [hlen]
    show (decide ((rows x)[i].fsz <= (rows x)[i].msz) && decide ((rows x)[i].off + (rows x)[i].fsz <= (out2 x).length)) = true
    rw [decide_eq_true hg.le, decide_eq_true hg.inn]
    rfl
   have g3 : El.endB x.type (sg (rows x)[i]) = true := by
    unfold El.endB
    have : (sg (rows x)[i]).addr + (sg (rows x)[i]).msz <= El.endOf x.type := by
     have := hg.end_
     unfold El.endOf
     show (rows x)[i].addr + (rows x)[i].msz <= _
     split <;> omega
    rw [decide_eq_true this, Bool.or_true]
   have g4 : El.alignB (rows x)[i].align (sg (rows x)[i]) = true := by
    unfold El.alignB
    by_cases e : (rows x)[i].kind = 1
    ·obtain ⟨l1, l2, l3⟩ := hg.load e
     show (!((rows x)[i].kind == 1) || ((rows x)[i].align == 4096 && (rows x)[i].off % 4096 == (rows x)[i].addr % 4096 && decide (0 < (rows x)[i].msz))) = true
     rw [l1, l2, decide_eq_true l3]
     simp
    ·show (!((rows x)[i].kind == 1) || _) = true
     rw [beq_eq_false_iff_ne.2 e]
     rfl
   rw [g1, g2, g3, g4]
   rfl
  rw [ha]
  rfl
 rw [hbe]
 unfold El.parse
 rw [hh, hf, if_pos rfl, if_pos rfl, hhd]
end
end Go.Proofs.YtnbecdahfgkffaaGreat.Mk
namespace Go.Proofs.YtnbecdahfgkffaaGreat
open Go.RowKit
theorem w64_eq (a b : Nat) (ha : a < 18446744073709551616) (hb : b < 18446744073709551616) : IntKind.u64.wrap ((a : Int) - (b : Int)) = ((El.w64 a b : Nat) : Int) := by
 rw [IntKind.wrap_u64]
 unfold El.w64
 omega
theorem loads_mem {l : List El.Sg} (h : ∀ s ∈ l, SgFit s) : ∀ s ∈ El.loads l, SgFit s := fun s hs => h s (List.mem_filter.1 hs).1
theorem loads_len (l : List El.Sg) : (El.loads l).length <= l.length := List.length_filter_le _ _
theorem yJz {α : Type} {p : α -> Bool} {l : List α} {k : Nat} {x : α} (h : (l.take k).find? p = none) (hx : l[k]? = some x) (hp : p x = false) : (l.take (k + 1)).find? p = none := by
 rw [List.take_add_one, hx, List.find?_append, h]
 simp [hp]
theorem find_hit {α : Type} {p : α -> Bool} {l : List α} {k : Nat} {x : α} (h : (l.take k).find? p = none) (hx : l[k]? = some x) (hp : p x = true) : l.find? p = some x := by
 have hk : k < l.length := (List.getElem?_eq_some_iff.1 hx).1
 have e : l = l.take k ++ x :: l.drop (k + 1) := by
  have e2 := List.drop_eq_getElem_cons hk
  have e3 : l[k] = x := (List.getElem?_eq_some_iff.1 hx).2
  rw [e3] at e2
  rw [<- e2, List.take_append_drop]
 rw [e, List.find?_append, h]
 simp [hp]
set_option maxHeartbeats 2000000 in
theorem filled_any (A : Option Addr) (n c B : Nat) (h : El.Hd) (s : El.Sg) (w : World) (hB : B <= w.heap.size) (hl : Rd w B 6 A n (segCells h.segs)) (hn : n <= 4294967296) (hf : ∀ x ∈ h.segs, SgFit x) (hs : SgFit s) :
  Calls Tryz.prog 94 #[.agg #[.int .u16 h.type, .int .u64 h.entry, .int .u64 h.phoff, .slice A n c], .agg #[.int .u32 s.kind, .int .u8 s.flags, .int .u64 s.off, .int .u64 s.addr, .int .u64 s.fsz, .int .u64 s.msz]] w fun e w' =>
   e = .returned (.bool (El.filled h s)) /\ Below w.heap.size w w' := by
 have hln : h.segs.length = n := by have := hl.1; rw [yJ4] at this; omega
 have hll := loads_len h.segs
 have hlf := loads_mem hf
 have hfd : El.filled h s = match (El.loads h.segs).find? (El.holds s) with
  | some l => El.w64 s.off l.off == s.addr - l.addr
  | none => false := rfl
 have hload := fun (w' : World) (hb : Below w.heap.size w w') => vJw A n c B h.segs h.type h.entry h.phoff w' (Nat.le_trans hB hb.size) (hl.below (hb.mono hB)) hn
 generalize El.loads h.segs = L at *
 generalize h.segs = SS at *
 obtain ⟨sk, sfl, so, sa, sf, sm⟩ := s
 obtain ⟨i1, i2, i3, i4, i5, i6⟩ := hs
 simp only at *
 have Hload := zJ2 hload
 have Hlf := zJ2 hlf
 have Hfd := zJ2 hfd
 clear hl hload hlf hfd hf
 go_enter Tryz.func94, Tryz.ntmps94
 go_wp2_with (go_at_call 17; refine ((zJ1 Hload) _ (((Below.refl _ _).alloc (Nat.le_refl _) _).alloc (by simp) _)).mono ?_; rintro e w1 ⟨A2, c2, rfl, hown, hb1⟩)
 have hb0 : Below w.heap.size w w1 := (((Below.refl _ _).alloc (Nat.le_refl _) _).alloc (by simp) _).trans (hb1.mono (by simp only [World.size_alloc]; omega))
 have hrd := Rd.of_own hown
 have Hrd := zJ2 hrd
 have hnb := (hb1.block (w.heap.size + 1) (by simp only [World.size_alloc]; omega)).trans (heap_alloc2_new _ _ _)
 have hnbl := lt_of_block hnb
 have Hnb := zJ2 hnb
 clear hrd hown hnb hb1
 have hb0s := hb0.size
 go_loopw [10] (fun i wr => ∃ k : Nat, k <= L.length /\ i = .int .i64 k /\ (L.take k).find? (El.holds ⟨sk, sfl, so, sa, sf, sm⟩) = none /\ Below w1.heap.size w1 wr) (fun i _ => L.length - (intOf i).toNat)
 case atStart => exact ⟨0, Nat.zero_le _, rfl, rfl, Below.refl _ _⟩
 case round =>
  obtain ⟨k, hk, rfl, hno, hb⟩ := hrel
  have Hno := zJ2 hno
  clear hno
  by_cases hlt : k < L.length
  ·obtain ⟨l, hlk⟩ : ∃ l, L[k]? = some l := ⟨_, List.getElem?_eq_getElem hlt⟩
   obtain ⟨b1, o1, rfl, hbb, c0, c1, c2', c3, c4, c5⟩ := wJz ((zJ1 Hrd).below hb) hlk
   obtain ⟨lk, lfl, lo, la, lf, lm⟩ := l
   obtain ⟨j1, j2, j3, j4, j5, j6⟩ := (zJ1 Hlf) _ (List.mem_of_getElem? hlk)
   simp only at j1 j2 j3 j4 j5 j6 c0 c1 c2' c3 c4 c5
   have hn2 := (hb.block _ hnbl).trans (zJ1 Hnb)
   have s2 := cell_of_row _ _ 2 _ _ _ hn2
   have s3 := cell_of_row _ _ 3 _ _ _ hn2
   have s4 := cell_of_row _ _ 4 _ _ _ hn2
   simp only [List.getElem?_toArray, List.getElem?_cons_zero, List.getElem?_cons_succ] at s2 s3 s4
   have hsr : w.heap.size + 1 < wr.heap.size := Nat.lt_of_lt_of_le hnbl hb.size
   have hbr : b1 < wr.heap.size := Nat.lt_of_lt_of_le hbb hb.size
   have hsz := hb.size
   have Hlk := zJ2 hlk
   have Hb := zJ2 hb
   clear hn2 hlk hb
   by_cases h1 : la <= sa
   ·have i1 : ((la : Nat) : Int) <= ((sa : Nat) : Int) := by omega
    by_cases h2 : sa - la + sf <= lf
    ·have i2 : decide (((sa : Nat) : Int) - ((la : Nat) : Int) + ((sf : Nat) : Int) <= ((lf : Nat) : Int)) = true := by simp; omega
     have hhit : El.filled h ⟨sk, sfl, so, sa, sf, sm⟩ = (El.w64 so lo == sa - la) := by
      rw [zJ1 Hfd, find_hit (zJ1 Hno) (zJ1 Hlk) (by simp [El.holds, h1, h2])]
     have Hhit := zJ2 hhit
     clear hhit h2
     go_wp2_with (go_at_call 46; refine (zJk _ _ _ _ (by omega) (by omega) (by omega) (by omega) (by omega)).mono ?_; rintro e w1 ⟨rfl, rfl⟩)
     go_ret
     refine ⟨?_, hb0.trans (((zJ1 Hb).alloc hsz _).mono hb0s)⟩
     rw [zJ1 Hhit]
     refine yJq ?_
     rw [w64_eq _ _ i3 j3, Bool.eq_iff_iff, beq_iff_eq, beq_iff_eq]
     omega
    ·have i2 : decide (((sa : Nat) : Int) - ((la : Nat) : Int) + ((sf : Nat) : Int) <= ((lf : Nat) : Int)) = false := by simp; omega
     have hno2 := yJz (zJ1 Hno) (zJ1 Hlk) (by simp [El.holds, h2])
     have Hno2 := zJ2 hno2
     clear hno2 h2
     go_wp2_with (go_at_call 46; refine (zJk _ _ _ _ (by omega) (by omega) (by omega) (by omega) (by omega)).mono ?_; rintro e w1 ⟨rfl, rfl⟩)
     go_roundw
     case rel => exact ⟨k + 1, by omega, by go_num, zJ1 Hno2, (zJ1 Hb).alloc hsz _⟩
     case measure => simp [intOf]; omega
   ·have i1 : decide (la <= sa) = false := by simp; omega
    have i1' : ¬ ((la : Nat) : Int) <= ((sa : Nat) : Int) := by omega
    have hno2 := yJz (zJ1 Hno) (zJ1 Hlk) (by simp [El.holds, h1])
    have Hno2 := zJ2 hno2
    clear hno2 h1
    go_wp2
    go_roundw
    case rel => exact ⟨k + 1, by omega, by go_num, zJ1 Hno2, (zJ1 Hb).alloc hsz _⟩
    case measure => simp [intOf]; omega
  ·have hno2 : L.find? (El.holds ⟨sk, sfl, so, sa, sf, sm⟩) = none := by
    have := zJ1 Hno
    rwa [List.take_of_length_le (by omega)] at this
   have hfin : El.filled h ⟨sk, sfl, so, sa, sf, sm⟩ = false := by rw [zJ1 Hfd, hno2]
   have Hfin := zJ2 hfin
   clear hfin hno2
   go_wp2
   go_ret
   exact ⟨by rw [zJ1 Hfin]; rfl, hb0.trans (hb.mono hb0s)⟩
end Go.Proofs.YtnbecdahfgkffaaGreat
namespace Go.Proofs.YtnbecdahfgkffaaGreat
open Go.RowKit Go.Maps
def CM (D : DataW Unit) (l : List El.Sg) : Prop := IsMap D /\ ∀ q : Nat, D.atKey (.int .u32 q) (.lit (.int .i64 0)) = .lit (.int .i64 (El.countK l q))
theorem CM.nil : CM (.map []) [] := ⟨isMap_empty, fun q => rfl⟩
theorem CM.step {D : DataW Unit} {l : List El.Sg} (h : CM D l) (s : El.Sg) : CM (D.put (.int .u32 s.kind) (.lit (.int .i64 ((El.countK l s.kind : Nat) + 1)))) (l ++ [s]) := by
 refine ⟨h.1.put _ _, fun q => ?_⟩
 by_cases e : q = s.kind
 ·subst e
  rw [atKey_put_same h.1 (by simp [WideAt.IsKeyLit])]
  simp [El.countK]
 ·rw [atKey_put_other (by simp only [ne_eq, Lit.int.injEq, true_and]; omega), h.2 q]
  have e2 : (s.kind == q) = false := by simp; exact fun h => e h.symm
  simp [El.countK, List.filter_append, List.filter_cons, e2]
theorem CM.read {D : DataW Unit} {l : List El.Sg} (h : CM D l) {q : Nat} {c : Int} (hat : D.atKey (.int .u32 q) (.lit (.int .i64 0)) = .lit (.int .i64 c)) : c = (El.countK l q : Nat) := by
 rw [h.2 q] at hat
 injection hat with h1
 injection h1 with _ h2
 exact h2.symm
theorem count_le (l : List El.Sg) (q : Nat) : El.countK l q <= l.length := List.length_filter_le _ _
theorem zJ9 : Keyed Tryz.prog 56 := int_keyed Tryz.underlying56
theorem wf_u32 {n : Nat} (h : n < 4294967296) : (Lit.int .u32 (n : Int)).wf = true := WalkArith.wf_u32 (by omega)
theorem wf_i64 {n : Int} (h0 : 0 <= n) (h : n <= 4294967297) : (Lit.int .i64 n).wf = true := WalkArith.wf_i64 (by omega)
theorem xJw (n : Nat) (h : n < 256) : bits .and .u8 (n : Int) 1 = ((n % 2 : Nat) : Int) := by
 have e : (1 : Int) = ((1 : Nat) : Int) := rfl
 rw [e, u8_and_nat n 1 h (by omega), nat_mask1]
theorem zJa {w wr w1 : World} {A : Option Addr} {n c : Nat} {ty en ph : Int} {S : Obj} (hg : (wr.alloc S).grownBy w1 (some (w.heap.size + 1)))
  (hb : wr.heap[w.heap.size]? = some (.cells #[.int .u16 ty, .int .u64 en, .int .u64 ph, .slice A n c] 44)) (hsz : w.heap.size + 1 < wr.heap.size) :
  w1.heap[w.heap.size]? = some (.cells #[.int .u16 ty, .int .u64 en, .int .u64 ph, .slice A n c] 44) /\ w1.heap[wr.heap.size]? = some S /\ w.heap.size < w1.heap.size /\ wr.heap.size < w1.heap.size /\ w.heap.size + 1 < w1.heap.size := by
 have hs := hg.size
 simp only [World.size_alloc] at hs
 refine ⟨?_, ?_, by omega, by omega, by omega⟩
 ·exact (hg.block w.heap.size (by simp; omega) (by simp)).trans ((Below.heap_alloc _ _ _ (by omega)).trans hb)
 ·exact (hg.block wr.heap.size (by simp) (by simp; omega)).trans (heap_alloc_new _ _)
theorem zJc {w : World} {g : Nat} {a b c d : Value} {t : TypeId} (h : w.heap[g]? = some (.cells #[a, b, c, d] t)) : w.cell? ⟨g, 0, none⟩ = some a /\ w.cell? ⟨g, 1, none⟩ = some b /\ w.cell? ⟨g, 2, none⟩ = some c /\ w.cell? ⟨g, 3, none⟩ = some d :=
 ⟨cell_of_row _ _ 0 _ _ _ h, cell_of_row _ _ 1 _ _ _ h, cell_of_row _ _ 2 _ _ _ h, cell_of_row _ _ 3 _ _ _ h⟩
theorem zJf {w : World} {g : Nat} {a b c d e f : Value} {t : TypeId} (h : w.heap[g]? = some (.cells #[a, b, c, d, e, f] t)) : w.cell? ⟨g, 0, none⟩ = some a /\ w.cell? ⟨g, 1, none⟩ = some b /\ w.cell? ⟨g, 2, none⟩ = some c /\ w.cell? ⟨g, 3, none⟩ = some d /\ w.cell? ⟨g, 4, none⟩ = some e /\ w.cell? ⟨g, 5, none⟩ = some f :=
 ⟨cell_of_row _ _ 0 _ _ _ h, cell_of_row _ _ 1 _ _ _ h, cell_of_row _ _ 2 _ _ _ h, cell_of_row _ _ 3 _ _ _ h, cell_of_row _ _ 4 _ _ _ h, cell_of_row _ _ 5 _ _ _ h⟩
theorem zJb {w wr w1 : World} {S : Obj} (hb : Below w.heap.size w wr) (hg : (wr.alloc S).grownBy w1 (some (w.heap.size + 1))) : Below w.heap.size w w1 :=
 (hb.alloc hb.size _).grown hg (by have := hb.size; simp; omega) (fun k hk => by injection hk with hk; omega)
theorem yJe {P : Program} {k : TypeId} {R : Value -> Option (DataW Unit × List MemPlace)} {b n : Nat} {D : DataW Unit} {w w' : World} (h : w.ownsMap P k R b n D) (hb : Below w.heap.size w w') : w'.ownsMap P k R b n D :=
 h.kept (row := none) ⟨hb.os, hb.tape, hb.output, hb.size, fun i hi _ => hb.block i hi⟩ (by simp)
def Or3 (c : Bool) (a b : Ending) : Ending := if c then a else b
theorem cnt_pos {c : Int} {n : Nat} (e : c = (n : Nat)) : decide (0 < n) = decide ((0 : Int) < c) := by rw [e, decide_eq_decide]; omega
theorem cnt_lt {c : Int} {n : Nat} (e : c = (n : Nat)) : decide (n < 2) = decide (c < 2) := by rw [e, decide_eq_decide]; omega
theorem map_made2 (w : World) (o : Obj) : ((w.alloc o).alloc (.map #[] 0)).ownsMap Tryz.prog 56 (plainElem (H := Unit) Tryz.prog 3) (w.heap.size + 1) 0 (.map []) := by
 have := World.ownsMap_made (w.alloc o) Tryz.prog 56 (plainElem (H := Unit) Tryz.prog 3)
 simpa using this
theorem yJo {h : El.Hd} {s : El.Sg} (hs : s ∈ h.segs) (hn : El.segWhole h s = false) : El.wholeOk h = false := by
 unfold El.wholeOk
 rw [show h.segs.all (El.segWhole h) = false from by
  rw [Bool.eq_false_iff]
  intro ha
  have := List.all_eq_true.1 ha s hs
  rw [hn] at this
  cases this]
 rfl
set_option maxRecDepth 100000 in
set_option maxHeartbeats 8000000 in
theorem whole_any (A : Option Addr) (n c B : Nat) (h : El.Hd) (w : World) (hB : B <= w.heap.size) (hl : Rd w B 6 A n (segCells h.segs)) (hn : n <= 4294967296) (hf : ∀ x ∈ h.segs, SgFit x) (hty : h.type < 65536) (hen : h.entry < 18446744073709551616) :
  Calls Tryz.prog 49 #[.agg #[.int .u16 h.type, .int .u64 h.entry, .int .u64 h.phoff, .slice A n c]] w fun e w' =>
   e = Or3 (El.wholeOk h) (.returned (.tuple #[])) (wrongs 25) /\ Below w.heap.size w w' := by
 have hln : h.segs.length = n := by have := hl.1; rw [yJ4] at this; omega
 have hmm := @run_makeMap Tryz.prog
 have hfil := fun (s : El.Sg) (hs : SgFit s) (w' : World) (hb : Below w.heap.size w w') => filled_any A n c B h s w' (Nat.le_trans hB hb.size) (hl.below (hb.mono hB)) hn hf hs
 have Hl := zJ2 hl
 have Hf := zJ2 hf
 have Hfil := zJ2 hfil
 have Hln := zJ2 hln
 clear hl hf hfil hln
 have e0 : El.enters h = ((h.type == 3 && h.entry == 0) || h.segs.any (El.entersBy h)) := rfl
 have E0 := zJ2 e0
 clear e0
 generalize hee : (h.type == 3 && h.entry == 0) = ee at *
 have Hee := zJ2 hee
 have t1 : (((h.type : Nat) : Int) == 3) = (h.type == 3) := by rw [Bool.eq_iff_iff, beq_iff_eq, beq_iff_eq]; omega
 have t2 : (((h.entry : Nat) : Int) == 0) = (h.entry == 0) := by rw [Bool.eq_iff_iff, beq_iff_eq, beq_iff_eq]; omega
 have cases3 : ((((h.type : Nat) : Int) == 3) = true /\ (((h.entry : Nat) : Int) == 0) = ee) \/ ((((h.type : Nat) : Int) == 3) = false /\ ee = false) := by
  rw [t1, t2, <- hee]
  cases h.type == 3
  ·exact .inr ⟨rfl, rfl⟩
  ·exact .inl ⟨rfl, by simp⟩
 clear t1 t2 hee
 rcases cases3 with ⟨t1, t2⟩ | ⟨t1, rfl⟩
 ·go_enter Tryz.func49, Tryz.ntmps49
  go_wp2
  go_loopw [3, 18] (fun e3 i wr => ∃ (k : Nat) (D : DataW Unit), k <= n /\ i = .int .i64 k /\ e3 = .bool (ee || (h.segs.take k).any (El.entersBy h)) /\ (h.segs.take k).all (El.segWhole h) = true /\ CM D (h.segs.take k) /\ wr.ownsMap Tryz.prog 56 (plainElem Tryz.prog 3) (w.heap.size + 1) k D /\ Below w.heap.size w wr /\ wr.heap[w.heap.size]? = some (.cells #[.int .u16 h.type, .int .u64 h.entry, .int .u64 h.phoff, .slice A n c] 44) /\ w.heap.size + 1 < wr.heap.size) (fun _ i _ => n - (intOf i).toNat)
  case atStart => exact ⟨0, .map [], Nat.zero_le _, rfl, by simp, rfl, CM.nil, map_made2 _ _, ((Below.refl _ _).alloc (Nat.le_refl _) _).alloc (by simp) _, (Below.heap_alloc _ _ _ (by simp)).trans (heap_alloc_new _ _), by simp⟩
  case round =>
  obtain ⟨k, D, hk, rfl, rfl, hall, hcm, hown, hb, hbox, hsz⟩ := hrel
  have Hall := zJ2 hall
  have Hcm := zJ2 hcm
  have Hb := zJ2 hb
  have Hbox := zJ2 hbox
  clear hall hcm hbox
  rcases Nat.lt_or_ge k n with hlt | hge
  case inr =>
   obtain rfl : k = n := by omega
   have htk : h.segs.take k = h.segs := List.take_of_length_le (by rw [zJ1 Hln]; exact Nat.le_refl _)
   rw [htk]
   have hall := zJ1 Hall
   rw [htk] at hall
   have hcm := zJ1 Hcm
   rw [htk] at hcm
   have hent : El.enters h = (ee || h.segs.any (El.entersBy h)) := zJ1 E0
   rw [<- hent]
   obtain ⟨c1, r1, a1, _⟩ := hown.lookup_int zJ9 Tryz.underlying171 Tryz.underlying3 (zJg _) (key := .int .u32 1) (kl := .int .u32 ((1 : Nat) : Int)) (keyOf_int_mk Tryz.underlying56 (by decide))
   have e1 := hcm.read a1
   obtain ⟨c2, r2, a2, _⟩ := hown.lookup_int zJ9 Tryz.underlying171 Tryz.underlying3 (zJg _) (key := .int .u32 2) (kl := .int .u32 ((2 : Nat) : Int)) (keyOf_int_mk Tryz.underlying56 (by decide))
   have e2 := hcm.read a2
   obtain ⟨c3, r3, a3, _⟩ := hown.lookup_int zJ9 Tryz.underlying171 Tryz.underlying3 (zJg _) (key := .int .u32 3) (kl := .int .u32 ((3 : Nat) : Int)) (keyOf_int_mk Tryz.underlying56 (by decide))
   have e3 := hcm.read a3
   obtain ⟨c6, r6, a6, _⟩ := hown.lookup_int zJ9 Tryz.underlying171 Tryz.underlying3 (zJg _) (key := .int .u32 6) (kl := .int .u32 ((6 : Nat) : Int)) (keyOf_int_mk Tryz.underlying56 (by decide))
   have e6 := hcm.read a6
   have hwo : El.wholeOk h = (decide (0 < c1) && decide (c2 < 2) && decide (c3 < 2) && decide (c6 < 2) && El.enters h) := by
    unfold El.wholeOk
    rw [hall, Bool.true_and, cnt_pos e1, cnt_lt e2, cnt_lt e3, cnt_lt e6]
   have Hwo := zJ2 hwo
   clear hwo hent hall hcm a1 a2 a3 a6 e1 e2 e3 e6 hown hge htk
   generalize El.enters h = eb at *
   by_cases d1 : 0 < c1
   case neg =>
    have d1' : decide (0 < c1) = false := by simp; omega
    go_wp2_with (first
     | (go_at_call_of 45 (Value.bool true); refine (zJ8 _ _).mono ?_; rintro e w3 ⟨rfl, rfl⟩)
     | (go_at_call_of 45 (Value.bool false); refine (zJe _ _).mono ?_; rintro e w3 ⟨rfl, rfl⟩))
    all_goals exact ⟨rfl, by first | rfl | (rw [zJ1 Hwo]; simp [Or3, *]), hb⟩
   by_cases d2 : c2 < 2
   case neg =>
    have d2' : decide (c2 < 2) = false := by simp; omega
    go_wp2_with (first
     | (go_at_call_of 45 (Value.bool true); refine (zJ8 _ _).mono ?_; rintro e w3 ⟨rfl, rfl⟩)
     | (go_at_call_of 45 (Value.bool false); refine (zJe _ _).mono ?_; rintro e w3 ⟨rfl, rfl⟩))
    all_goals exact ⟨rfl, by first | rfl | (rw [zJ1 Hwo]; simp [Or3, *]), hb⟩
   by_cases d3 : c3 < 2
   case neg =>
    have d3' : decide (c3 < 2) = false := by simp; omega
    go_wp2_with (first
     | (go_at_call_of 45 (Value.bool true); refine (zJ8 _ _).mono ?_; rintro e w3 ⟨rfl, rfl⟩)
     | (go_at_call_of 45 (Value.bool false); refine (zJe _ _).mono ?_; rintro e w3 ⟨rfl, rfl⟩))
    all_goals exact ⟨rfl, by first | rfl | (rw [zJ1 Hwo]; simp [Or3, *]), hb⟩
   by_cases d6 : c6 < 2
   case neg =>
    have d6' : decide (c6 < 2) = false := by simp; omega
    go_wp2_with (first
     | (go_at_call_of 45 (Value.bool true); refine (zJ8 _ _).mono ?_; rintro e w3 ⟨rfl, rfl⟩)
     | (go_at_call_of 45 (Value.bool false); refine (zJe _ _).mono ?_; rintro e w3 ⟨rfl, rfl⟩))
    all_goals exact ⟨rfl, by first | rfl | (rw [zJ1 Hwo]; simp [Or3, *]), hb⟩
   cases eb
   case false =>
    go_wp2_with (first
     | (go_at_call_of 45 (Value.bool true); refine (zJ8 _ _).mono ?_; rintro e w3 ⟨rfl, rfl⟩)
     | (go_at_call_of 45 (Value.bool false); refine (zJe _ _).mono ?_; rintro e w3 ⟨rfl, rfl⟩))
    all_goals exact ⟨rfl, by first | rfl | (rw [zJ1 Hwo]; simp [Or3, *]), hb⟩
   case true =>
    go_wp2_with (first
     | (go_at_call_of 45 (Value.bool true); refine (zJ8 _ _).mono ?_; rintro e w3 ⟨rfl, rfl⟩)
     | (go_at_call_of 45 (Value.bool false); refine (zJe _ _).mono ?_; rintro e w3 ⟨rfl, rfl⟩))
    go_end0
    exact ⟨by first | rfl | (rw [zJ1 Hwo]; simp [Or3, *]), hb⟩
  obtain ⟨s, hs⟩ : ∃ s, h.segs[k]? = some s := ⟨_, List.getElem?_eq_getElem (by rw [zJ1 Hln]; exact hlt)⟩
  obtain ⟨b1', o1, rfl, hbb, c0, c1, c2', c3, c4, c5⟩ := wJz ((zJ1 Hl).below (hb.mono hB)) hs
  have hfit := (zJ1 Hf) _ (List.mem_of_getElem? hs)
  have hcl := count_le (h.segs.take k) s.kind
  have hcl2 : (h.segs.take k).length <= k := List.length_take_le _ _
  have hcm2 := CM.step (zJ1 Hcm) s
  have Hcm2 : Hid (CM (D.put (.int .u32 (s.kind : Nat)) (.lit (.int .i64 ((El.countK (h.segs.take k) s.kind : Nat) + 1)))) (h.segs.take (k + 1))) := by rw [List.take_add_one, hs]; exact zJ2 hcm2
  obtain ⟨sk, sfl, so, sa, sf, sm⟩ := s
  have Hfit := zJ2 hfit
  obtain ⟨i1, i2, i3, i4, i5, i6⟩ := hfit
  simp only at i1 i2 i3 i4 i5 i6 c0 c1 c2' c3 c4 c5 hcl
  have hsz1 : w.heap.size + 1 < wr.heap.size := hsz
  have hkey : keyOf Tryz.prog 56 (.int .u32 ((sk : Nat) : Int)) = some (.int .u32 ((sk : Nat) : Int)) := keyOf_int_mk Tryz.underlying56 (wf_u32 i1)
  have hwf : (Lit.int .i64 (((El.countK (h.segs.take k) sk : Nat) : Int) + 1)).wf = true := wf_i64 (by omega) (by omega)
  have Hkey := zJ2 hkey
  have Hwf := zJ2 hwf
  have Hs := zJ2 hs
  clear hkey hwf hs hcm2 hb
  by_cases hk1 : sk = 1
  ·rcases Bool.eq_false_or_eq_true (ee || (h.segs.take k).any (El.entersBy h)) with heb | heb
   ·have heb2 := heb
    have b1 : (((sk : Nat) : Int) == 1) = true := by simp; omega
    have hsw : El.segWhole h ⟨sk, sfl, so, sa, sf, sm⟩ = true := by simp [El.segWhole, hk1]
    have hall2 : (h.segs.take (k + 1)).all (El.segWhole h) = true := by rw [List.take_add_one, zJ1 Hs, List.all_append, zJ1 Hall]; simp [hsw]
    have Hall2 := zJ2 hall2
    have hany2 : (ee || (h.segs.take (k + 1)).any (El.entersBy h)) = true := by rw [List.take_add_one, List.any_append, <- Bool.or_assoc, heb]; rfl
    have Hany2 := zJ2 hany2
    clear hall2 hany2 hsw heb2 hk1
    rw [heb]
    clear heb
    go_wp2_with (first
     | (at_lookup; refine wpList_lookup_own_int _ rfl _ _ 171 rfl 56 3 .i64 zJ9 Tryz.underlying171 Tryz.underlying3 (zJg _) (w.heap.size + 1) k _ rfl (hown.alloc _) _ _ rfl (zJ1 Hkey) ?_; intro c hat hwc; obtain rfl := (zJ1 Hcm).read hat; clear hat hwc)
     | (at_mapUpdate; refine wpList_mapUpdate_own _ rfl _ _ _ 171 rfl 56 3 zJ9 Tryz.underlying171 _ (w.heap.size + 1) k _ rfl (hown.alloc _) (by unfold maxLen; omega) _ _ _ rfl rfl (zJ1 Hkey) _ [] (plainElem_int Tryz.underlying3 (zJ1 Hwf)) ?_; intro w1 hown1 hgrow1; have g1 := zJa hgrow1 (zJ1 Hbox) hsz1; obtain ⟨g1a, g1b, g1c⟩ := g1; obtain ⟨q0, q1, q2, q3⟩ := zJc g1a; obtain ⟨p0, p1, p2, p3, p4, p5⟩ := zJf g1b; have G1a := zJ2 g1a; have Hown1 := zJ2 hown1; have Hbl := zJ2 (zJb (zJ1 Hb) hgrow1); clear g1a g1b hown1 hgrow1 hown)
     | (go_at_call_of 45 (Value.bool true); refine (zJ8 _ _).mono ?_; rintro e w3 ⟨rfl, rfl⟩)
     | (go_at_call_of 45 (Value.bool false); refine (zJe _ _).mono ?_; rintro e w3 ⟨rfl, rfl⟩))
    go_roundw
    case rel =>
     refine ⟨k + 1, _, by omega, by go_num, by rw [zJ1 Hany2], zJ1 Hall2, (zJ1 Hcm2), zJ1 Hown1, zJ1 Hbl, zJ1 G1a, by omega⟩
    case measure => simp [intOf]; omega
   ·have Heb := zJ2 heb
    rw [heb]
    clear heb
    by_cases hfl : sfl % 2 = 1
    ·have hfb : bits .and .u8 ((sfl : Nat) : Int) 1 = 1 := by rw [xJw _ i2, hfl]; rfl
     by_cases hlt2 : El.w64 h.entry sa < sm
     ·have hw := w64_eq h.entry sa hen i4
      have b1 : (((sk : Nat) : Int) == 1) = true := by simp; omega
      have hlt3 : (IntKind.u64.wrap (((h.entry : Nat) : Int) - ((sa : Nat) : Int))) < ((sm : Nat) : Int) := by rw [hw]; omega
      have hsw : El.segWhole h ⟨sk, sfl, so, sa, sf, sm⟩ = true := by simp [El.segWhole, hk1]
      have hent : El.entersBy h ⟨sk, sfl, so, sa, sf, sm⟩ = true := by simp [El.entersBy, El.isLoad, hk1, hfl, hlt2]
      have hall2 : (h.segs.take (k + 1)).all (El.segWhole h) = true := by rw [List.take_add_one, zJ1 Hs, List.all_append, zJ1 Hall]; simp [hsw]
      have Hall2 := zJ2 hall2
      clear hall2
      have hany2 : (h.segs.take (k + 1)).any (El.entersBy h) = ((h.segs.take k).any (El.entersBy h) || El.entersBy h ⟨sk, sfl, so, sa, sf, sm⟩) := by rw [List.take_add_one, zJ1 Hs, List.any_append]; simp
      rw [hent] at hany2
      have Hany2 := zJ2 hany2
      clear hany2 hent hsw
      clear hk1 hfl hlt2 hw
      go_wp2_with (first
       | (at_lookup; refine wpList_lookup_own_int _ rfl _ _ 171 rfl 56 3 .i64 zJ9 Tryz.underlying171 Tryz.underlying3 (zJg _) (w.heap.size + 1) k _ rfl (hown.alloc _) _ _ rfl (zJ1 Hkey) ?_; intro c hat hwc; obtain rfl := (zJ1 Hcm).read hat; clear hat hwc)
       | (at_mapUpdate; refine wpList_mapUpdate_own _ rfl _ _ _ 171 rfl 56 3 zJ9 Tryz.underlying171 _ (w.heap.size + 1) k _ rfl (hown.alloc _) (by unfold maxLen; omega) _ _ _ rfl rfl (zJ1 Hkey) _ [] (plainElem_int Tryz.underlying3 (zJ1 Hwf)) ?_; intro w1 hown1 hgrow1; have g1 := zJa hgrow1 (zJ1 Hbox) hsz1; obtain ⟨g1a, g1b, g1c⟩ := g1; obtain ⟨q0, q1, q2, q3⟩ := zJc g1a; obtain ⟨p0, p1, p2, p3, p4, p5⟩ := zJf g1b; have G1a := zJ2 g1a; have Hown1 := zJ2 hown1; have Hbl := zJ2 (zJb (zJ1 Hb) hgrow1); clear g1a g1b hown1 hgrow1 hown)
       | (go_at_call_of 45 (Value.bool true); refine (zJ8 _ _).mono ?_; rintro e w3 ⟨rfl, rfl⟩)
       | (go_at_call_of 45 (Value.bool false); refine (zJe _ _).mono ?_; rintro e w3 ⟨rfl, rfl⟩))
      go_roundw
      case rel =>
       refine ⟨k + 1, _, by omega, by go_num, by rw [zJ1 Hany2]; simp, zJ1 Hall2, (zJ1 Hcm2), zJ1 Hown1, zJ1 Hbl, zJ1 G1a, by omega⟩
      case measure => simp [intOf]; omega
     ·have hw := w64_eq h.entry sa hen i4
      have b1 : (((sk : Nat) : Int) == 1) = true := by simp; omega
      have hlt3 : decide ((IntKind.u64.wrap (((h.entry : Nat) : Int) - ((sa : Nat) : Int))) < ((sm : Nat) : Int)) = false := by rw [hw]; simp; omega
      have hsw : El.segWhole h ⟨sk, sfl, so, sa, sf, sm⟩ = true := by simp [El.segWhole, hk1]
      have hent : El.entersBy h ⟨sk, sfl, so, sa, sf, sm⟩ = false := by simp [El.entersBy, El.isLoad, hk1, hfl, hlt2]
      have hall2 : (h.segs.take (k + 1)).all (El.segWhole h) = true := by rw [List.take_add_one, zJ1 Hs, List.all_append, zJ1 Hall]; simp [hsw]
      have Hall2 := zJ2 hall2
      clear hall2
      have hany2 : (h.segs.take (k + 1)).any (El.entersBy h) = ((h.segs.take k).any (El.entersBy h) || El.entersBy h ⟨sk, sfl, so, sa, sf, sm⟩) := by rw [List.take_add_one, zJ1 Hs, List.any_append]; simp
      rw [hent] at hany2
      have Hany2 := zJ2 hany2
      clear hany2 hent hsw
      clear hk1 hfl hlt2 hw
      go_wp2_with (first
       | (at_lookup; refine wpList_lookup_own_int _ rfl _ _ 171 rfl 56 3 .i64 zJ9 Tryz.underlying171 Tryz.underlying3 (zJg _) (w.heap.size + 1) k _ rfl (hown.alloc _) _ _ rfl (zJ1 Hkey) ?_; intro c hat hwc; obtain rfl := (zJ1 Hcm).read hat; clear hat hwc)
       | (at_mapUpdate; refine wpList_mapUpdate_own _ rfl _ _ _ 171 rfl 56 3 zJ9 Tryz.underlying171 _ (w.heap.size + 1) k _ rfl (hown.alloc _) (by unfold maxLen; omega) _ _ _ rfl rfl (zJ1 Hkey) _ [] (plainElem_int Tryz.underlying3 (zJ1 Hwf)) ?_; intro w1 hown1 hgrow1; have g1 := zJa hgrow1 (zJ1 Hbox) hsz1; obtain ⟨g1a, g1b, g1c⟩ := g1; obtain ⟨q0, q1, q2, q3⟩ := zJc g1a; obtain ⟨p0, p1, p2, p3, p4, p5⟩ := zJf g1b; have G1a := zJ2 g1a; have Hown1 := zJ2 hown1; have Hbl := zJ2 (zJb (zJ1 Hb) hgrow1); clear g1a g1b hown1 hgrow1 hown)
       | (go_at_call_of 45 (Value.bool true); refine (zJ8 _ _).mono ?_; rintro e w3 ⟨rfl, rfl⟩)
       | (go_at_call_of 45 (Value.bool false); refine (zJe _ _).mono ?_; rintro e w3 ⟨rfl, rfl⟩))
      go_roundw
      case rel =>
       refine ⟨k + 1, _, by omega, by go_num, by rw [zJ1 Hany2, Bool.or_false, zJ1 Heb], zJ1 Hall2, (zJ1 Hcm2), zJ1 Hown1, zJ1 Hbl, zJ1 G1a, by omega⟩
      case measure => simp [intOf]; omega
    ·have hfl0 : sfl % 2 = 0 := by omega
     have hfb : bits .and .u8 ((sfl : Nat) : Int) 1 = 0 := by rw [xJw _ i2, hfl0]; rfl
     have b1 : (((sk : Nat) : Int) == 1) = true := by simp; omega
     have hsw : El.segWhole h ⟨sk, sfl, so, sa, sf, sm⟩ = true := by simp [El.segWhole, hk1]
     have hent : El.entersBy h ⟨sk, sfl, so, sa, sf, sm⟩ = false := by simp [El.entersBy, El.isLoad, hk1, hfl0]
     have hall2 : (h.segs.take (k + 1)).all (El.segWhole h) = true := by rw [List.take_add_one, zJ1 Hs, List.all_append, zJ1 Hall]; simp [hsw]
     have Hall2 := zJ2 hall2
     clear hall2
     have hany2 : (h.segs.take (k + 1)).any (El.entersBy h) = ((h.segs.take k).any (El.entersBy h) || El.entersBy h ⟨sk, sfl, so, sa, sf, sm⟩) := by rw [List.take_add_one, zJ1 Hs, List.any_append]; simp
     rw [hent] at hany2
     have Hany2 := zJ2 hany2
     clear hany2 hent hsw
     clear hk1 hfl hfl0
     go_wp2_with (first
      | (at_lookup; refine wpList_lookup_own_int _ rfl _ _ 171 rfl 56 3 .i64 zJ9 Tryz.underlying171 Tryz.underlying3 (zJg _) (w.heap.size + 1) k _ rfl (hown.alloc _) _ _ rfl (zJ1 Hkey) ?_; intro c hat hwc; obtain rfl := (zJ1 Hcm).read hat; clear hat hwc)
      | (at_mapUpdate; refine wpList_mapUpdate_own _ rfl _ _ _ 171 rfl 56 3 zJ9 Tryz.underlying171 _ (w.heap.size + 1) k _ rfl (hown.alloc _) (by unfold maxLen; omega) _ _ _ rfl rfl (zJ1 Hkey) _ [] (plainElem_int Tryz.underlying3 (zJ1 Hwf)) ?_; intro w1 hown1 hgrow1; have g1 := zJa hgrow1 (zJ1 Hbox) hsz1; obtain ⟨g1a, g1b, g1c⟩ := g1; obtain ⟨q0, q1, q2, q3⟩ := zJc g1a; obtain ⟨p0, p1, p2, p3, p4, p5⟩ := zJf g1b; have G1a := zJ2 g1a; have Hown1 := zJ2 hown1; have Hbl := zJ2 (zJb (zJ1 Hb) hgrow1); clear g1a g1b hown1 hgrow1 hown)
      | (go_at_call_of 45 (Value.bool true); refine (zJ8 _ _).mono ?_; rintro e w3 ⟨rfl, rfl⟩)
      | (go_at_call_of 45 (Value.bool false); refine (zJe _ _).mono ?_; rintro e w3 ⟨rfl, rfl⟩))
     go_roundw
     case rel =>
      refine ⟨k + 1, _, by omega, by go_num, by rw [zJ1 Hany2, Bool.or_false, zJ1 Heb], zJ1 Hall2, (zJ1 Hcm2), zJ1 Hown1, zJ1 Hbl, zJ1 G1a, by omega⟩
     case measure => simp [intOf]; omega
  ·have Hk1 := zJ2 hk1
   generalize heb : (ee || (h.segs.take k).any (El.entersBy h)) = eb at *
   have Heb := zJ2 heb
   clear heb
   by_cases hk2 : sk = 2
   ·by_cases hfd : El.filled h ⟨sk, sfl, so, sa, sf, sm⟩ = true
    ·have Hfd := zJ2 hfd
     have b1 : (((sk : Nat) : Int) == 1) = false := by simp; omega
     have b2 : (((sk : Nat) : Int) == 2) = true := by simp; omega
     have hsw : El.segWhole h ⟨sk, sfl, so, sa, sf, sm⟩ = true := by subst hk2; simp [El.segWhole, hfd]
     have hent : El.entersBy h ⟨sk, sfl, so, sa, sf, sm⟩ = false := by simp [El.entersBy, El.isLoad, hk1]
     have hall2 : (h.segs.take (k + 1)).all (El.segWhole h) = true := by rw [List.take_add_one, zJ1 Hs, List.all_append, zJ1 Hall]; simp [hsw]
     have Hall2 := zJ2 hall2
     clear hall2
     have hany2 : (h.segs.take (k + 1)).any (El.entersBy h) = ((h.segs.take k).any (El.entersBy h) || El.entersBy h ⟨sk, sfl, so, sa, sf, sm⟩) := by rw [List.take_add_one, zJ1 Hs, List.any_append]; simp
     rw [hent] at hany2
     have Hany2 := zJ2 hany2
     clear hany2 hent hsw
     clear hk1 hk2 hfd
     go_wp2_with (first
      | (at_lookup; refine wpList_lookup_own_int _ rfl _ _ 171 rfl 56 3 .i64 zJ9 Tryz.underlying171 Tryz.underlying3 (zJg _) (w.heap.size + 1) k _ rfl (hown.alloc _) _ _ rfl (zJ1 Hkey) ?_; intro c hat hwc; obtain rfl := (zJ1 Hcm).read hat; clear hat hwc)
      | (at_mapUpdate; refine wpList_mapUpdate_own _ rfl _ _ _ 171 rfl 56 3 zJ9 Tryz.underlying171 _ (w.heap.size + 1) k _ rfl (hown.alloc _) (by unfold maxLen; omega) _ _ _ rfl rfl (zJ1 Hkey) _ [] (plainElem_int Tryz.underlying3 (zJ1 Hwf)) ?_; intro w1 hown1 hgrow1; have g1 := zJa hgrow1 (zJ1 Hbox) hsz1; obtain ⟨g1a, g1b, g1c⟩ := g1; obtain ⟨q0, q1, q2, q3⟩ := zJc g1a; obtain ⟨p0, p1, p2, p3, p4, p5⟩ := zJf g1b; have G1a := zJ2 g1a; have Hown1 := zJ2 hown1; have Hbl := zJ2 (zJb (zJ1 Hb) hgrow1); clear g1a g1b hown1 hgrow1 hown)
      | (go_at_call_of 45 (Value.bool true); refine (zJ8 _ _).mono ?_; rintro e w3 ⟨rfl, rfl⟩)
      | (go_at_call_of 45 (Value.bool false); refine (zJe _ _).mono ?_; rintro e w3 ⟨rfl, rfl⟩)
      | (go_at_call 94; refine ((zJ1 Hfil) ⟨sk, sfl, so, sa, sf, sm⟩ (zJ1 Hfit) _ (zJ1 Hbl)).mono ?_; rintro e w2 ⟨rfl, hb2⟩; rw [zJ1 Hfd]; have Hb2 := zJ2 hb2; have hq := (hb2.block _ g1c.1).trans (zJ1 G1a); have HQ := zJ2 hq; have hz2 := hb2.size; clear hb2 hq))
     go_roundw
     case rel =>
      refine ⟨k + 1, _, by omega, by go_num, by rw [zJ1 Hany2, Bool.or_false, zJ1 Heb], zJ1 Hall2, (zJ1 Hcm2), yJe (zJ1 Hown1) (zJ1 Hb2), (zJ1 Hbl).trans ((zJ1 Hb2).mono (zJ1 Hbl).size), zJ1 HQ, by omega⟩
     case measure => simp [intOf]; omega
    ·rw [Bool.not_eq_true] at hfd
     have Hfd := zJ2 hfd
     have b1 : (((sk : Nat) : Int) == 1) = false := by simp; omega
     have b2 : (((sk : Nat) : Int) == 2) = true := by simp; omega
     have hbad : El.wholeOk h = false := yJo (List.mem_of_getElem? (zJ1 Hs)) (by subst hk2; simp [El.segWhole, hfd])
     have Hbad := zJ2 hbad
     clear hbad
     clear hk1 hk2 hfd
     go_wp2_with (first
      | (at_lookup; refine wpList_lookup_own_int _ rfl _ _ 171 rfl 56 3 .i64 zJ9 Tryz.underlying171 Tryz.underlying3 (zJg _) (w.heap.size + 1) k _ rfl (hown.alloc _) _ _ rfl (zJ1 Hkey) ?_; intro c hat hwc; obtain rfl := (zJ1 Hcm).read hat; clear hat hwc)
      | (at_mapUpdate; refine wpList_mapUpdate_own _ rfl _ _ _ 171 rfl 56 3 zJ9 Tryz.underlying171 _ (w.heap.size + 1) k _ rfl (hown.alloc _) (by unfold maxLen; omega) _ _ _ rfl rfl (zJ1 Hkey) _ [] (plainElem_int Tryz.underlying3 (zJ1 Hwf)) ?_; intro w1 hown1 hgrow1; have g1 := zJa hgrow1 (zJ1 Hbox) hsz1; obtain ⟨g1a, g1b, g1c⟩ := g1; obtain ⟨q0, q1, q2, q3⟩ := zJc g1a; obtain ⟨p0, p1, p2, p3, p4, p5⟩ := zJf g1b; have G1a := zJ2 g1a; have Hown1 := zJ2 hown1; have Hbl := zJ2 (zJb (zJ1 Hb) hgrow1); clear g1a g1b hown1 hgrow1 hown)
      | (go_at_call_of 45 (Value.bool true); refine (zJ8 _ _).mono ?_; rintro e w3 ⟨rfl, rfl⟩)
      | (go_at_call_of 45 (Value.bool false); refine (zJe _ _).mono ?_; rintro e w3 ⟨rfl, rfl⟩)
      | (go_at_call 94; refine ((zJ1 Hfil) ⟨sk, sfl, so, sa, sf, sm⟩ (zJ1 Hfit) _ (zJ1 Hbl)).mono ?_; rintro e w2 ⟨rfl, hb2⟩; rw [zJ1 Hfd]; have Hb2 := zJ2 hb2; have hq := (hb2.block _ g1c.1).trans (zJ1 G1a); have HQ := zJ2 hq; have hz2 := hb2.size; clear hb2 hq))
     exact ⟨rfl, by rw [zJ1 Hbad]; rfl, (zJ1 Hbl).trans ((zJ1 Hb2).mono (zJ1 Hbl).size)⟩
   by_cases hk6 : sk = 6
   ·by_cases hfd : El.filled h ⟨sk, sfl, so, sa, sf, sm⟩ = true
    ·have Hfd := zJ2 hfd
     have b1 : (((sk : Nat) : Int) == 1) = false := by simp; omega
     have b2 : (((sk : Nat) : Int) == 2) = false := by simp; omega
     have b6 : (((sk : Nat) : Int) == 6) = true := by simp; omega
     have hsw : El.segWhole h ⟨sk, sfl, so, sa, sf, sm⟩ = true := by subst hk6; simp [El.segWhole, hfd]
     have hent : El.entersBy h ⟨sk, sfl, so, sa, sf, sm⟩ = false := by simp [El.entersBy, El.isLoad, hk1]
     have hall2 : (h.segs.take (k + 1)).all (El.segWhole h) = true := by rw [List.take_add_one, zJ1 Hs, List.all_append, zJ1 Hall]; simp [hsw]
     have Hall2 := zJ2 hall2
     clear hall2
     have hany2 : (h.segs.take (k + 1)).any (El.entersBy h) = ((h.segs.take k).any (El.entersBy h) || El.entersBy h ⟨sk, sfl, so, sa, sf, sm⟩) := by rw [List.take_add_one, zJ1 Hs, List.any_append]; simp
     rw [hent] at hany2
     have Hany2 := zJ2 hany2
     clear hany2 hent hsw
     clear hk1 hk6 hfd hk2
     go_wp2_with (first
      | (at_lookup; refine wpList_lookup_own_int _ rfl _ _ 171 rfl 56 3 .i64 zJ9 Tryz.underlying171 Tryz.underlying3 (zJg _) (w.heap.size + 1) k _ rfl (hown.alloc _) _ _ rfl (zJ1 Hkey) ?_; intro c hat hwc; obtain rfl := (zJ1 Hcm).read hat; clear hat hwc)
      | (at_mapUpdate; refine wpList_mapUpdate_own _ rfl _ _ _ 171 rfl 56 3 zJ9 Tryz.underlying171 _ (w.heap.size + 1) k _ rfl (hown.alloc _) (by unfold maxLen; omega) _ _ _ rfl rfl (zJ1 Hkey) _ [] (plainElem_int Tryz.underlying3 (zJ1 Hwf)) ?_; intro w1 hown1 hgrow1; have g1 := zJa hgrow1 (zJ1 Hbox) hsz1; obtain ⟨g1a, g1b, g1c⟩ := g1; obtain ⟨q0, q1, q2, q3⟩ := zJc g1a; obtain ⟨p0, p1, p2, p3, p4, p5⟩ := zJf g1b; have G1a := zJ2 g1a; have Hown1 := zJ2 hown1; have Hbl := zJ2 (zJb (zJ1 Hb) hgrow1); clear g1a g1b hown1 hgrow1 hown)
      | (go_at_call_of 45 (Value.bool true); refine (zJ8 _ _).mono ?_; rintro e w3 ⟨rfl, rfl⟩)
      | (go_at_call_of 45 (Value.bool false); refine (zJe _ _).mono ?_; rintro e w3 ⟨rfl, rfl⟩)
      | (go_at_call 94; refine ((zJ1 Hfil) ⟨sk, sfl, so, sa, sf, sm⟩ (zJ1 Hfit) _ (zJ1 Hbl)).mono ?_; rintro e w2 ⟨rfl, hb2⟩; rw [zJ1 Hfd]; have Hb2 := zJ2 hb2; have hq := (hb2.block _ g1c.1).trans (zJ1 G1a); have HQ := zJ2 hq; have hz2 := hb2.size; clear hb2 hq))
     go_roundw
     case rel =>
      refine ⟨k + 1, _, by omega, by go_num, by rw [zJ1 Hany2, Bool.or_false, zJ1 Heb], zJ1 Hall2, (zJ1 Hcm2), yJe (zJ1 Hown1) (zJ1 Hb2), (zJ1 Hbl).trans ((zJ1 Hb2).mono (zJ1 Hbl).size), zJ1 HQ, by omega⟩
     case measure => simp [intOf]; omega
    ·rw [Bool.not_eq_true] at hfd
     have Hfd := zJ2 hfd
     have b1 : (((sk : Nat) : Int) == 1) = false := by simp; omega
     have b2 : (((sk : Nat) : Int) == 2) = false := by simp; omega
     have b6 : (((sk : Nat) : Int) == 6) = true := by simp; omega
     have hbad : El.wholeOk h = false := yJo (List.mem_of_getElem? (zJ1 Hs)) (by subst hk6; simp [El.segWhole, hfd])
     have Hbad := zJ2 hbad
     clear hbad
     clear hk1 hk6 hfd hk2
     go_wp2_with (first
      | (at_lookup; refine wpList_lookup_own_int _ rfl _ _ 171 rfl 56 3 .i64 zJ9 Tryz.underlying171 Tryz.underlying3 (zJg _) (w.heap.size + 1) k _ rfl (hown.alloc _) _ _ rfl (zJ1 Hkey) ?_; intro c hat hwc; obtain rfl := (zJ1 Hcm).read hat; clear hat hwc)
      | (at_mapUpdate; refine wpList_mapUpdate_own _ rfl _ _ _ 171 rfl 56 3 zJ9 Tryz.underlying171 _ (w.heap.size + 1) k _ rfl (hown.alloc _) (by unfold maxLen; omega) _ _ _ rfl rfl (zJ1 Hkey) _ [] (plainElem_int Tryz.underlying3 (zJ1 Hwf)) ?_; intro w1 hown1 hgrow1; have g1 := zJa hgrow1 (zJ1 Hbox) hsz1; obtain ⟨g1a, g1b, g1c⟩ := g1; obtain ⟨q0, q1, q2, q3⟩ := zJc g1a; obtain ⟨p0, p1, p2, p3, p4, p5⟩ := zJf g1b; have G1a := zJ2 g1a; have Hown1 := zJ2 hown1; have Hbl := zJ2 (zJb (zJ1 Hb) hgrow1); clear g1a g1b hown1 hgrow1 hown)
      | (go_at_call_of 45 (Value.bool true); refine (zJ8 _ _).mono ?_; rintro e w3 ⟨rfl, rfl⟩)
      | (go_at_call_of 45 (Value.bool false); refine (zJe _ _).mono ?_; rintro e w3 ⟨rfl, rfl⟩)
      | (go_at_call 94; refine ((zJ1 Hfil) ⟨sk, sfl, so, sa, sf, sm⟩ (zJ1 Hfit) _ (zJ1 Hbl)).mono ?_; rintro e w2 ⟨rfl, hb2⟩; rw [zJ1 Hfd]; have Hb2 := zJ2 hb2; have hq := (hb2.block _ g1c.1).trans (zJ1 G1a); have HQ := zJ2 hq; have hz2 := hb2.size; clear hb2 hq))
     exact ⟨rfl, by rw [zJ1 Hbad]; rfl, (zJ1 Hbl).trans ((zJ1 Hb2).mono (zJ1 Hbl).size)⟩
   by_cases hk3 : sk = 3
   ·by_cases hf1 : 0 < sf
    ·by_cases hf2 : sf <= 201
     ·have f1 : decide (0 < sf) = true := by simp; omega
      have f2 : decide (((sf : Nat) : Int) <= 201) = true := by simp; omega
      clear i3 i4 i6
      have b1 : (((sk : Nat) : Int) == 1) = false := by simp; omega
      have b2 : (((sk : Nat) : Int) == 2) = false := by simp; omega
      have b6 : (((sk : Nat) : Int) == 6) = false := by simp; omega
      have b3 : (((sk : Nat) : Int) == 3) = true := by simp; omega
      have hsw : El.segWhole h ⟨sk, sfl, so, sa, sf, sm⟩ = true := by simp [El.segWhole, hk3, hf1, hf2]
      have hent : El.entersBy h ⟨sk, sfl, so, sa, sf, sm⟩ = false := by simp [El.entersBy, El.isLoad, hk1]
      have hall2 : (h.segs.take (k + 1)).all (El.segWhole h) = true := by rw [List.take_add_one, zJ1 Hs, List.all_append, zJ1 Hall]; simp [hsw]
      have Hall2 := zJ2 hall2
      clear hall2
      have hany2 : (h.segs.take (k + 1)).any (El.entersBy h) = ((h.segs.take k).any (El.entersBy h) || El.entersBy h ⟨sk, sfl, so, sa, sf, sm⟩) := by rw [List.take_add_one, zJ1 Hs, List.any_append]; simp
      rw [hent] at hany2
      have Hany2 := zJ2 hany2
      clear hany2 hent hsw
      clear hk1 hk2 hk6 hk3 hf1 hf2
      go_wp2_with (first
       | (at_lookup; refine wpList_lookup_own_int _ rfl _ _ 171 rfl 56 3 .i64 zJ9 Tryz.underlying171 Tryz.underlying3 (zJg _) (w.heap.size + 1) k _ rfl (hown.alloc _) _ _ rfl (zJ1 Hkey) ?_; intro c hat hwc; obtain rfl := (zJ1 Hcm).read hat; clear hat hwc)
       | (at_mapUpdate; refine wpList_mapUpdate_own _ rfl _ _ _ 171 rfl 56 3 zJ9 Tryz.underlying171 _ (w.heap.size + 1) k _ rfl (hown.alloc _) (by unfold maxLen; omega) _ _ _ rfl rfl (zJ1 Hkey) _ [] (plainElem_int Tryz.underlying3 (zJ1 Hwf)) ?_; intro w1 hown1 hgrow1; have g1 := zJa hgrow1 (zJ1 Hbox) hsz1; obtain ⟨g1a, g1b, g1c⟩ := g1; obtain ⟨q0, q1, q2, q3⟩ := zJc g1a; obtain ⟨p0, p1, p2, p3, p4, p5⟩ := zJf g1b; have G1a := zJ2 g1a; have Hown1 := zJ2 hown1; have Hbl := zJ2 (zJb (zJ1 Hb) hgrow1); clear g1a g1b hown1 hgrow1 hown)
       | (go_at_call_of 45 (Value.bool true); refine (zJ8 _ _).mono ?_; rintro e w3 ⟨rfl, rfl⟩)
       | (go_at_call_of 45 (Value.bool false); refine (zJe _ _).mono ?_; rintro e w3 ⟨rfl, rfl⟩))
      go_roundw
      case rel =>
       refine ⟨k + 1, _, by omega, by go_num, by rw [zJ1 Hany2, Bool.or_false, zJ1 Heb], zJ1 Hall2, (zJ1 Hcm2), zJ1 Hown1, zJ1 Hbl, zJ1 G1a, by omega⟩
      case measure => simp [intOf]; omega
     ·have f1 : decide (0 < sf) = true := by simp; omega
      clear i3 i4 i6
      have f2 : decide (((sf : Nat) : Int) <= 201) = false := by simp; omega
      have b1 : (((sk : Nat) : Int) == 1) = false := by simp; omega
      have b2 : (((sk : Nat) : Int) == 2) = false := by simp; omega
      have b6 : (((sk : Nat) : Int) == 6) = false := by simp; omega
      have b3 : (((sk : Nat) : Int) == 3) = true := by simp; omega
      have hbad : El.wholeOk h = false := yJo (List.mem_of_getElem? (zJ1 Hs)) (by simp [El.segWhole, hk3, hf2])
      have Hbad := zJ2 hbad
      clear hbad
      clear hk1 hk2 hk6 hk3 hf1 hf2
      go_wp2_with (first
       | (at_lookup; refine wpList_lookup_own_int _ rfl _ _ 171 rfl 56 3 .i64 zJ9 Tryz.underlying171 Tryz.underlying3 (zJg _) (w.heap.size + 1) k _ rfl (hown.alloc _) _ _ rfl (zJ1 Hkey) ?_; intro c hat hwc; obtain rfl := (zJ1 Hcm).read hat; clear hat hwc)
       | (at_mapUpdate; refine wpList_mapUpdate_own _ rfl _ _ _ 171 rfl 56 3 zJ9 Tryz.underlying171 _ (w.heap.size + 1) k _ rfl (hown.alloc _) (by unfold maxLen; omega) _ _ _ rfl rfl (zJ1 Hkey) _ [] (plainElem_int Tryz.underlying3 (zJ1 Hwf)) ?_; intro w1 hown1 hgrow1; have g1 := zJa hgrow1 (zJ1 Hbox) hsz1; obtain ⟨g1a, g1b, g1c⟩ := g1; obtain ⟨q0, q1, q2, q3⟩ := zJc g1a; obtain ⟨p0, p1, p2, p3, p4, p5⟩ := zJf g1b; have G1a := zJ2 g1a; have Hown1 := zJ2 hown1; have Hbl := zJ2 (zJb (zJ1 Hb) hgrow1); clear g1a g1b hown1 hgrow1 hown)
       | (go_at_call_of 45 (Value.bool true); refine (zJ8 _ _).mono ?_; rintro e w3 ⟨rfl, rfl⟩)
       | (go_at_call_of 45 (Value.bool false); refine (zJe _ _).mono ?_; rintro e w3 ⟨rfl, rfl⟩))
      exact ⟨rfl, by rw [zJ1 Hbad]; rfl, zJ1 Hbl⟩
    ·have f1 : ¬ (0 : Int) < ((sf : Nat) : Int) := by omega
     have f1' : decide (0 < sf) = false := by simp; omega
     have b1 : (((sk : Nat) : Int) == 1) = false := by simp; omega
     have b2 : (((sk : Nat) : Int) == 2) = false := by simp; omega
     have b6 : (((sk : Nat) : Int) == 6) = false := by simp; omega
     have b3 : (((sk : Nat) : Int) == 3) = true := by simp; omega
     have hbad : El.wholeOk h = false := yJo (List.mem_of_getElem? (zJ1 Hs)) (by simp [El.segWhole, hk3, hf1])
     have Hbad := zJ2 hbad
     clear hbad
     clear hk1 hk2 hk6 hk3 hf1
     go_wp2_with (first
      | (at_lookup; refine wpList_lookup_own_int _ rfl _ _ 171 rfl 56 3 .i64 zJ9 Tryz.underlying171 Tryz.underlying3 (zJg _) (w.heap.size + 1) k _ rfl (hown.alloc _) _ _ rfl (zJ1 Hkey) ?_; intro c hat hwc; obtain rfl := (zJ1 Hcm).read hat; clear hat hwc)
      | (at_mapUpdate; refine wpList_mapUpdate_own _ rfl _ _ _ 171 rfl 56 3 zJ9 Tryz.underlying171 _ (w.heap.size + 1) k _ rfl (hown.alloc _) (by unfold maxLen; omega) _ _ _ rfl rfl (zJ1 Hkey) _ [] (plainElem_int Tryz.underlying3 (zJ1 Hwf)) ?_; intro w1 hown1 hgrow1; have g1 := zJa hgrow1 (zJ1 Hbox) hsz1; obtain ⟨g1a, g1b, g1c⟩ := g1; obtain ⟨q0, q1, q2, q3⟩ := zJc g1a; obtain ⟨p0, p1, p2, p3, p4, p5⟩ := zJf g1b; have G1a := zJ2 g1a; have Hown1 := zJ2 hown1; have Hbl := zJ2 (zJb (zJ1 Hb) hgrow1); clear g1a g1b hown1 hgrow1 hown)
      | (go_at_call_of 45 (Value.bool true); refine (zJ8 _ _).mono ?_; rintro e w3 ⟨rfl, rfl⟩)
      | (go_at_call_of 45 (Value.bool false); refine (zJe _ _).mono ?_; rintro e w3 ⟨rfl, rfl⟩))
     exact ⟨rfl, by rw [zJ1 Hbad]; rfl, zJ1 Hbl⟩
   have b1 : (((sk : Nat) : Int) == 1) = false := by simp; omega
   have b2 : (((sk : Nat) : Int) == 2) = false := by simp; omega
   have b6 : (((sk : Nat) : Int) == 6) = false := by simp; omega
   have b3 : (((sk : Nat) : Int) == 3) = false := by simp; omega
   have hsw : El.segWhole h ⟨sk, sfl, so, sa, sf, sm⟩ = true := by simp [El.segWhole, hk2, hk6, hk3]
   have hent : El.entersBy h ⟨sk, sfl, so, sa, sf, sm⟩ = false := by simp [El.entersBy, El.isLoad, hk1]
   have hall2 : (h.segs.take (k + 1)).all (El.segWhole h) = true := by rw [List.take_add_one, zJ1 Hs, List.all_append, zJ1 Hall]; simp [hsw]
   have Hall2 := zJ2 hall2
   clear hall2
   have hany2 : (h.segs.take (k + 1)).any (El.entersBy h) = ((h.segs.take k).any (El.entersBy h) || El.entersBy h ⟨sk, sfl, so, sa, sf, sm⟩) := by rw [List.take_add_one, zJ1 Hs, List.any_append]; simp
   rw [hent] at hany2
   have Hany2 := zJ2 hany2
   clear hany2 hent hsw
   clear hk1 hk2 hk6 hk3
   go_wp2_with (first
    | (at_lookup; refine wpList_lookup_own_int _ rfl _ _ 171 rfl 56 3 .i64 zJ9 Tryz.underlying171 Tryz.underlying3 (zJg _) (w.heap.size + 1) k _ rfl (hown.alloc _) _ _ rfl (zJ1 Hkey) ?_; intro c hat hwc; obtain rfl := (zJ1 Hcm).read hat; clear hat hwc)
    | (at_mapUpdate; refine wpList_mapUpdate_own _ rfl _ _ _ 171 rfl 56 3 zJ9 Tryz.underlying171 _ (w.heap.size + 1) k _ rfl (hown.alloc _) (by unfold maxLen; omega) _ _ _ rfl rfl (zJ1 Hkey) _ [] (plainElem_int Tryz.underlying3 (zJ1 Hwf)) ?_; intro w1 hown1 hgrow1; have g1 := zJa hgrow1 (zJ1 Hbox) hsz1; obtain ⟨g1a, g1b, g1c⟩ := g1; obtain ⟨q0, q1, q2, q3⟩ := zJc g1a; obtain ⟨p0, p1, p2, p3, p4, p5⟩ := zJf g1b; have G1a := zJ2 g1a; have Hown1 := zJ2 hown1; have Hbl := zJ2 (zJb (zJ1 Hb) hgrow1); clear g1a g1b hown1 hgrow1 hown)
    | (go_at_call_of 45 (Value.bool true); refine (zJ8 _ _).mono ?_; rintro e w3 ⟨rfl, rfl⟩)
    | (go_at_call_of 45 (Value.bool false); refine (zJe _ _).mono ?_; rintro e w3 ⟨rfl, rfl⟩))
   go_roundw
   case rel =>
    refine ⟨k + 1, _, by omega, by go_num, by rw [zJ1 Hany2, Bool.or_false, zJ1 Heb], zJ1 Hall2, (zJ1 Hcm2), zJ1 Hown1, zJ1 Hbl, zJ1 G1a, by omega⟩
   case measure => simp [intOf]; omega
 ·go_enter Tryz.func49, Tryz.ntmps49
  go_wp2
  go_loopw [3, 18] (fun e3 i wr => ∃ (k : Nat) (D : DataW Unit), k <= n /\ i = .int .i64 k /\ e3 = .bool (false || (h.segs.take k).any (El.entersBy h)) /\ (h.segs.take k).all (El.segWhole h) = true /\ CM D (h.segs.take k) /\ wr.ownsMap Tryz.prog 56 (plainElem Tryz.prog 3) (w.heap.size + 1) k D /\ Below w.heap.size w wr /\ wr.heap[w.heap.size]? = some (.cells #[.int .u16 h.type, .int .u64 h.entry, .int .u64 h.phoff, .slice A n c] 44) /\ w.heap.size + 1 < wr.heap.size) (fun _ i _ => n - (intOf i).toNat)
  case atStart => exact ⟨0, .map [], Nat.zero_le _, rfl, by simp, rfl, CM.nil, map_made2 _ _, ((Below.refl _ _).alloc (Nat.le_refl _) _).alloc (by simp) _, (Below.heap_alloc _ _ _ (by simp)).trans (heap_alloc_new _ _), by simp⟩
  case round =>
  obtain ⟨k, D, hk, rfl, rfl, hall, hcm, hown, hb, hbox, hsz⟩ := hrel
  have Hall := zJ2 hall
  have Hcm := zJ2 hcm
  have Hb := zJ2 hb
  have Hbox := zJ2 hbox
  clear hall hcm hbox
  rcases Nat.lt_or_ge k n with hlt | hge
  case inr =>
   obtain rfl : k = n := by omega
   have htk : h.segs.take k = h.segs := List.take_of_length_le (by rw [zJ1 Hln]; exact Nat.le_refl _)
   rw [htk]
   have hall := zJ1 Hall
   rw [htk] at hall
   have hcm := zJ1 Hcm
   rw [htk] at hcm
   have hent : El.enters h = (false || h.segs.any (El.entersBy h)) := zJ1 E0
   rw [<- hent]
   obtain ⟨c1, r1, a1, _⟩ := hown.lookup_int zJ9 Tryz.underlying171 Tryz.underlying3 (zJg _) (key := .int .u32 1) (kl := .int .u32 ((1 : Nat) : Int)) (keyOf_int_mk Tryz.underlying56 (by decide))
   have e1 := hcm.read a1
   obtain ⟨c2, r2, a2, _⟩ := hown.lookup_int zJ9 Tryz.underlying171 Tryz.underlying3 (zJg _) (key := .int .u32 2) (kl := .int .u32 ((2 : Nat) : Int)) (keyOf_int_mk Tryz.underlying56 (by decide))
   have e2 := hcm.read a2
   obtain ⟨c3, r3, a3, _⟩ := hown.lookup_int zJ9 Tryz.underlying171 Tryz.underlying3 (zJg _) (key := .int .u32 3) (kl := .int .u32 ((3 : Nat) : Int)) (keyOf_int_mk Tryz.underlying56 (by decide))
   have e3 := hcm.read a3
   obtain ⟨c6, r6, a6, _⟩ := hown.lookup_int zJ9 Tryz.underlying171 Tryz.underlying3 (zJg _) (key := .int .u32 6) (kl := .int .u32 ((6 : Nat) : Int)) (keyOf_int_mk Tryz.underlying56 (by decide))
   have e6 := hcm.read a6
   have hwo : El.wholeOk h = (decide (0 < c1) && decide (c2 < 2) && decide (c3 < 2) && decide (c6 < 2) && El.enters h) := by
    unfold El.wholeOk
    rw [hall, Bool.true_and, cnt_pos e1, cnt_lt e2, cnt_lt e3, cnt_lt e6]
   have Hwo := zJ2 hwo
   clear hwo hent hall hcm a1 a2 a3 a6 e1 e2 e3 e6 hown hge htk
   generalize El.enters h = eb at *
   by_cases d1 : 0 < c1
   case neg =>
    have d1' : decide (0 < c1) = false := by simp; omega
    go_wp2_with (first
     | (go_at_call_of 45 (Value.bool true); refine (zJ8 _ _).mono ?_; rintro e w3 ⟨rfl, rfl⟩)
     | (go_at_call_of 45 (Value.bool false); refine (zJe _ _).mono ?_; rintro e w3 ⟨rfl, rfl⟩))
    all_goals exact ⟨rfl, by first | rfl | (rw [zJ1 Hwo]; simp [Or3, *]), hb⟩
   by_cases d2 : c2 < 2
   case neg =>
    have d2' : decide (c2 < 2) = false := by simp; omega
    go_wp2_with (first
     | (go_at_call_of 45 (Value.bool true); refine (zJ8 _ _).mono ?_; rintro e w3 ⟨rfl, rfl⟩)
     | (go_at_call_of 45 (Value.bool false); refine (zJe _ _).mono ?_; rintro e w3 ⟨rfl, rfl⟩))
    all_goals exact ⟨rfl, by first | rfl | (rw [zJ1 Hwo]; simp [Or3, *]), hb⟩
   by_cases d3 : c3 < 2
   case neg =>
    have d3' : decide (c3 < 2) = false := by simp; omega
    go_wp2_with (first
     | (go_at_call_of 45 (Value.bool true); refine (zJ8 _ _).mono ?_; rintro e w3 ⟨rfl, rfl⟩)
     | (go_at_call_of 45 (Value.bool false); refine (zJe _ _).mono ?_; rintro e w3 ⟨rfl, rfl⟩))
    all_goals exact ⟨rfl, by first | rfl | (rw [zJ1 Hwo]; simp [Or3, *]), hb⟩
   by_cases d6 : c6 < 2
   case neg =>
    have d6' : decide (c6 < 2) = false := by simp; omega
    go_wp2_with (first
     | (go_at_call_of 45 (Value.bool true); refine (zJ8 _ _).mono ?_; rintro e w3 ⟨rfl, rfl⟩)
     | (go_at_call_of 45 (Value.bool false); refine (zJe _ _).mono ?_; rintro e w3 ⟨rfl, rfl⟩))
    all_goals exact ⟨rfl, by first | rfl | (rw [zJ1 Hwo]; simp [Or3, *]), hb⟩
   cases eb
   case false =>
    go_wp2_with (first
     | (go_at_call_of 45 (Value.bool true); refine (zJ8 _ _).mono ?_; rintro e w3 ⟨rfl, rfl⟩)
     | (go_at_call_of 45 (Value.bool false); refine (zJe _ _).mono ?_; rintro e w3 ⟨rfl, rfl⟩))
    all_goals exact ⟨rfl, by first | rfl | (rw [zJ1 Hwo]; simp [Or3, *]), hb⟩
   case true =>
    go_wp2_with (first
     | (go_at_call_of 45 (Value.bool true); refine (zJ8 _ _).mono ?_; rintro e w3 ⟨rfl, rfl⟩)
     | (go_at_call_of 45 (Value.bool false); refine (zJe _ _).mono ?_; rintro e w3 ⟨rfl, rfl⟩))
    go_end0
    exact ⟨by first | rfl | (rw [zJ1 Hwo]; simp [Or3, *]), hb⟩
  obtain ⟨s, hs⟩ : ∃ s, h.segs[k]? = some s := ⟨_, List.getElem?_eq_getElem (by rw [zJ1 Hln]; exact hlt)⟩
  obtain ⟨b1', o1, rfl, hbb, c0, c1, c2', c3, c4, c5⟩ := wJz ((zJ1 Hl).below (hb.mono hB)) hs
  have hfit := (zJ1 Hf) _ (List.mem_of_getElem? hs)
  have hcl := count_le (h.segs.take k) s.kind
  have hcl2 : (h.segs.take k).length <= k := List.length_take_le _ _
  have hcm2 := CM.step (zJ1 Hcm) s
  have Hcm2 : Hid (CM (D.put (.int .u32 (s.kind : Nat)) (.lit (.int .i64 ((El.countK (h.segs.take k) s.kind : Nat) + 1)))) (h.segs.take (k + 1))) := by rw [List.take_add_one, hs]; exact zJ2 hcm2
  obtain ⟨sk, sfl, so, sa, sf, sm⟩ := s
  have Hfit := zJ2 hfit
  obtain ⟨i1, i2, i3, i4, i5, i6⟩ := hfit
  simp only at i1 i2 i3 i4 i5 i6 c0 c1 c2' c3 c4 c5 hcl
  have hsz1 : w.heap.size + 1 < wr.heap.size := hsz
  have hkey : keyOf Tryz.prog 56 (.int .u32 ((sk : Nat) : Int)) = some (.int .u32 ((sk : Nat) : Int)) := keyOf_int_mk Tryz.underlying56 (wf_u32 i1)
  have hwf : (Lit.int .i64 (((El.countK (h.segs.take k) sk : Nat) : Int) + 1)).wf = true := wf_i64 (by omega) (by omega)
  have Hkey := zJ2 hkey
  have Hwf := zJ2 hwf
  have Hs := zJ2 hs
  clear hkey hwf hs hcm2 hb
  by_cases hk1 : sk = 1
  ·rcases Bool.eq_false_or_eq_true (false || (h.segs.take k).any (El.entersBy h)) with heb | heb
   ·have heb2 := heb
    have b1 : (((sk : Nat) : Int) == 1) = true := by simp; omega
    have hsw : El.segWhole h ⟨sk, sfl, so, sa, sf, sm⟩ = true := by simp [El.segWhole, hk1]
    have hall2 : (h.segs.take (k + 1)).all (El.segWhole h) = true := by rw [List.take_add_one, zJ1 Hs, List.all_append, zJ1 Hall]; simp [hsw]
    have Hall2 := zJ2 hall2
    have hany2 : (false || (h.segs.take (k + 1)).any (El.entersBy h)) = true := by rw [List.take_add_one, List.any_append, <- Bool.or_assoc, heb]; rfl
    have Hany2 := zJ2 hany2
    clear hall2 hany2 hsw heb2 hk1
    rw [heb]
    clear heb
    go_wp2_with (first
     | (at_lookup; refine wpList_lookup_own_int _ rfl _ _ 171 rfl 56 3 .i64 zJ9 Tryz.underlying171 Tryz.underlying3 (zJg _) (w.heap.size + 1) k _ rfl (hown.alloc _) _ _ rfl (zJ1 Hkey) ?_; intro c hat hwc; obtain rfl := (zJ1 Hcm).read hat; clear hat hwc)
     | (at_mapUpdate; refine wpList_mapUpdate_own _ rfl _ _ _ 171 rfl 56 3 zJ9 Tryz.underlying171 _ (w.heap.size + 1) k _ rfl (hown.alloc _) (by unfold maxLen; omega) _ _ _ rfl rfl (zJ1 Hkey) _ [] (plainElem_int Tryz.underlying3 (zJ1 Hwf)) ?_; intro w1 hown1 hgrow1; have g1 := zJa hgrow1 (zJ1 Hbox) hsz1; obtain ⟨g1a, g1b, g1c⟩ := g1; obtain ⟨q0, q1, q2, q3⟩ := zJc g1a; obtain ⟨p0, p1, p2, p3, p4, p5⟩ := zJf g1b; have G1a := zJ2 g1a; have Hown1 := zJ2 hown1; have Hbl := zJ2 (zJb (zJ1 Hb) hgrow1); clear g1a g1b hown1 hgrow1 hown)
     | (go_at_call_of 45 (Value.bool true); refine (zJ8 _ _).mono ?_; rintro e w3 ⟨rfl, rfl⟩)
     | (go_at_call_of 45 (Value.bool false); refine (zJe _ _).mono ?_; rintro e w3 ⟨rfl, rfl⟩))
    go_roundw
    case rel =>
     refine ⟨k + 1, _, by omega, by go_num, by rw [zJ1 Hany2], zJ1 Hall2, (zJ1 Hcm2), zJ1 Hown1, zJ1 Hbl, zJ1 G1a, by omega⟩
    case measure => simp [intOf]; omega
   ·have Heb := zJ2 heb
    rw [heb]
    clear heb
    by_cases hfl : sfl % 2 = 1
    ·have hfb : bits .and .u8 ((sfl : Nat) : Int) 1 = 1 := by rw [xJw _ i2, hfl]; rfl
     by_cases hlt2 : El.w64 h.entry sa < sm
     ·have hw := w64_eq h.entry sa hen i4
      have b1 : (((sk : Nat) : Int) == 1) = true := by simp; omega
      have hlt3 : (IntKind.u64.wrap (((h.entry : Nat) : Int) - ((sa : Nat) : Int))) < ((sm : Nat) : Int) := by rw [hw]; omega
      have hsw : El.segWhole h ⟨sk, sfl, so, sa, sf, sm⟩ = true := by simp [El.segWhole, hk1]
      have hent : El.entersBy h ⟨sk, sfl, so, sa, sf, sm⟩ = true := by simp [El.entersBy, El.isLoad, hk1, hfl, hlt2]
      have hall2 : (h.segs.take (k + 1)).all (El.segWhole h) = true := by rw [List.take_add_one, zJ1 Hs, List.all_append, zJ1 Hall]; simp [hsw]
      have Hall2 := zJ2 hall2
      clear hall2
      have hany2 : (h.segs.take (k + 1)).any (El.entersBy h) = ((h.segs.take k).any (El.entersBy h) || El.entersBy h ⟨sk, sfl, so, sa, sf, sm⟩) := by rw [List.take_add_one, zJ1 Hs, List.any_append]; simp
      rw [hent] at hany2
      have Hany2 := zJ2 hany2
      clear hany2 hent hsw
      clear hk1 hfl hlt2 hw
      go_wp2_with (first
       | (at_lookup; refine wpList_lookup_own_int _ rfl _ _ 171 rfl 56 3 .i64 zJ9 Tryz.underlying171 Tryz.underlying3 (zJg _) (w.heap.size + 1) k _ rfl (hown.alloc _) _ _ rfl (zJ1 Hkey) ?_; intro c hat hwc; obtain rfl := (zJ1 Hcm).read hat; clear hat hwc)
       | (at_mapUpdate; refine wpList_mapUpdate_own _ rfl _ _ _ 171 rfl 56 3 zJ9 Tryz.underlying171 _ (w.heap.size + 1) k _ rfl (hown.alloc _) (by unfold maxLen; omega) _ _ _ rfl rfl (zJ1 Hkey) _ [] (plainElem_int Tryz.underlying3 (zJ1 Hwf)) ?_; intro w1 hown1 hgrow1; have g1 := zJa hgrow1 (zJ1 Hbox) hsz1; obtain ⟨g1a, g1b, g1c⟩ := g1; obtain ⟨q0, q1, q2, q3⟩ := zJc g1a; obtain ⟨p0, p1, p2, p3, p4, p5⟩ := zJf g1b; have G1a := zJ2 g1a; have Hown1 := zJ2 hown1; have Hbl := zJ2 (zJb (zJ1 Hb) hgrow1); clear g1a g1b hown1 hgrow1 hown)
       | (go_at_call_of 45 (Value.bool true); refine (zJ8 _ _).mono ?_; rintro e w3 ⟨rfl, rfl⟩)
       | (go_at_call_of 45 (Value.bool false); refine (zJe _ _).mono ?_; rintro e w3 ⟨rfl, rfl⟩))
      go_roundw
      case rel =>
       refine ⟨k + 1, _, by omega, by go_num, by rw [zJ1 Hany2]; simp, zJ1 Hall2, (zJ1 Hcm2), zJ1 Hown1, zJ1 Hbl, zJ1 G1a, by omega⟩
      case measure => simp [intOf]; omega
     ·have hw := w64_eq h.entry sa hen i4
      have b1 : (((sk : Nat) : Int) == 1) = true := by simp; omega
      have hlt3 : decide ((IntKind.u64.wrap (((h.entry : Nat) : Int) - ((sa : Nat) : Int))) < ((sm : Nat) : Int)) = false := by rw [hw]; simp; omega
      have hsw : El.segWhole h ⟨sk, sfl, so, sa, sf, sm⟩ = true := by simp [El.segWhole, hk1]
      have hent : El.entersBy h ⟨sk, sfl, so, sa, sf, sm⟩ = false := by simp [El.entersBy, El.isLoad, hk1, hfl, hlt2]
      have hall2 : (h.segs.take (k + 1)).all (El.segWhole h) = true := by rw [List.take_add_one, zJ1 Hs, List.all_append, zJ1 Hall]; simp [hsw]
      have Hall2 := zJ2 hall2
      clear hall2
      have hany2 : (h.segs.take (k + 1)).any (El.entersBy h) = ((h.segs.take k).any (El.entersBy h) || El.entersBy h ⟨sk, sfl, so, sa, sf, sm⟩) := by rw [List.take_add_one, zJ1 Hs, List.any_append]; simp
      rw [hent] at hany2
      have Hany2 := zJ2 hany2
      clear hany2 hent hsw
      clear hk1 hfl hlt2 hw
      go_wp2_with (first
       | (at_lookup; refine wpList_lookup_own_int _ rfl _ _ 171 rfl 56 3 .i64 zJ9 Tryz.underlying171 Tryz.underlying3 (zJg _) (w.heap.size + 1) k _ rfl (hown.alloc _) _ _ rfl (zJ1 Hkey) ?_; intro c hat hwc; obtain rfl := (zJ1 Hcm).read hat; clear hat hwc)
       | (at_mapUpdate; refine wpList_mapUpdate_own _ rfl _ _ _ 171 rfl 56 3 zJ9 Tryz.underlying171 _ (w.heap.size + 1) k _ rfl (hown.alloc _) (by unfold maxLen; omega) _ _ _ rfl rfl (zJ1 Hkey) _ [] (plainElem_int Tryz.underlying3 (zJ1 Hwf)) ?_; intro w1 hown1 hgrow1; have g1 := zJa hgrow1 (zJ1 Hbox) hsz1; obtain ⟨g1a, g1b, g1c⟩ := g1; obtain ⟨q0, q1, q2, q3⟩ := zJc g1a; obtain ⟨p0, p1, p2, p3, p4, p5⟩ := zJf g1b; have G1a := zJ2 g1a; have Hown1 := zJ2 hown1; have Hbl := zJ2 (zJb (zJ1 Hb) hgrow1); clear g1a g1b hown1 hgrow1 hown)
       | (go_at_call_of 45 (Value.bool true); refine (zJ8 _ _).mono ?_; rintro e w3 ⟨rfl, rfl⟩)
       | (go_at_call_of 45 (Value.bool false); refine (zJe _ _).mono ?_; rintro e w3 ⟨rfl, rfl⟩))
      go_roundw
      case rel =>
       refine ⟨k + 1, _, by omega, by go_num, by rw [zJ1 Hany2, Bool.or_false, zJ1 Heb], zJ1 Hall2, (zJ1 Hcm2), zJ1 Hown1, zJ1 Hbl, zJ1 G1a, by omega⟩
      case measure => simp [intOf]; omega
    ·have hfl0 : sfl % 2 = 0 := by omega
     have hfb : bits .and .u8 ((sfl : Nat) : Int) 1 = 0 := by rw [xJw _ i2, hfl0]; rfl
     have b1 : (((sk : Nat) : Int) == 1) = true := by simp; omega
     have hsw : El.segWhole h ⟨sk, sfl, so, sa, sf, sm⟩ = true := by simp [El.segWhole, hk1]
     have hent : El.entersBy h ⟨sk, sfl, so, sa, sf, sm⟩ = false := by simp [El.entersBy, El.isLoad, hk1, hfl0]
     have hall2 : (h.segs.take (k + 1)).all (El.segWhole h) = true := by rw [List.take_add_one, zJ1 Hs, List.all_append, zJ1 Hall]; simp [hsw]
     have Hall2 := zJ2 hall2
     clear hall2
     have hany2 : (h.segs.take (k + 1)).any (El.entersBy h) = ((h.segs.take k).any (El.entersBy h) || El.entersBy h ⟨sk, sfl, so, sa, sf, sm⟩) := by rw [List.take_add_one, zJ1 Hs, List.any_append]; simp
     rw [hent] at hany2
     have Hany2 := zJ2 hany2
     clear hany2 hent hsw
     clear hk1 hfl hfl0
     go_wp2_with (first
      | (at_lookup; refine wpList_lookup_own_int _ rfl _ _ 171 rfl 56 3 .i64 zJ9 Tryz.underlying171 Tryz.underlying3 (zJg _) (w.heap.size + 1) k _ rfl (hown.alloc _) _ _ rfl (zJ1 Hkey) ?_; intro c hat hwc; obtain rfl := (zJ1 Hcm).read hat; clear hat hwc)
      | (at_mapUpdate; refine wpList_mapUpdate_own _ rfl _ _ _ 171 rfl 56 3 zJ9 Tryz.underlying171 _ (w.heap.size + 1) k _ rfl (hown.alloc _) (by unfold maxLen; omega) _ _ _ rfl rfl (zJ1 Hkey) _ [] (plainElem_int Tryz.underlying3 (zJ1 Hwf)) ?_; intro w1 hown1 hgrow1; have g1 := zJa hgrow1 (zJ1 Hbox) hsz1; obtain ⟨g1a, g1b, g1c⟩ := g1; obtain ⟨q0, q1, q2, q3⟩ := zJc g1a; obtain ⟨p0, p1, p2, p3, p4, p5⟩ := zJf g1b; have G1a := zJ2 g1a; have Hown1 := zJ2 hown1; have Hbl := zJ2 (zJb (zJ1 Hb) hgrow1); clear g1a g1b hown1 hgrow1 hown)
      | (go_at_call_of 45 (Value.bool true); refine (zJ8 _ _).mono ?_; rintro e w3 ⟨rfl, rfl⟩)
      | (go_at_call_of 45 (Value.bool false); refine (zJe _ _).mono ?_; rintro e w3 ⟨rfl, rfl⟩))
     go_roundw
     case rel =>
      refine ⟨k + 1, _, by omega, by go_num, by rw [zJ1 Hany2, Bool.or_false, zJ1 Heb], zJ1 Hall2, (zJ1 Hcm2), zJ1 Hown1, zJ1 Hbl, zJ1 G1a, by omega⟩
     case measure => simp [intOf]; omega
  ·have Hk1 := zJ2 hk1
   generalize heb : (false || (h.segs.take k).any (El.entersBy h)) = eb at *
   have Heb := zJ2 heb
   clear heb
   by_cases hk2 : sk = 2
   ·by_cases hfd : El.filled h ⟨sk, sfl, so, sa, sf, sm⟩ = true
    ·have Hfd := zJ2 hfd
     have b1 : (((sk : Nat) : Int) == 1) = false := by simp; omega
     have b2 : (((sk : Nat) : Int) == 2) = true := by simp; omega
     have hsw : El.segWhole h ⟨sk, sfl, so, sa, sf, sm⟩ = true := by subst hk2; simp [El.segWhole, hfd]
     have hent : El.entersBy h ⟨sk, sfl, so, sa, sf, sm⟩ = false := by simp [El.entersBy, El.isLoad, hk1]
     have hall2 : (h.segs.take (k + 1)).all (El.segWhole h) = true := by rw [List.take_add_one, zJ1 Hs, List.all_append, zJ1 Hall]; simp [hsw]
     have Hall2 := zJ2 hall2
     clear hall2
     have hany2 : (h.segs.take (k + 1)).any (El.entersBy h) = ((h.segs.take k).any (El.entersBy h) || El.entersBy h ⟨sk, sfl, so, sa, sf, sm⟩) := by rw [List.take_add_one, zJ1 Hs, List.any_append]; simp
     rw [hent] at hany2
     have Hany2 := zJ2 hany2
     clear hany2 hent hsw
     clear hk1 hk2 hfd
     go_wp2_with (first
      | (at_lookup; refine wpList_lookup_own_int _ rfl _ _ 171 rfl 56 3 .i64 zJ9 Tryz.underlying171 Tryz.underlying3 (zJg _) (w.heap.size + 1) k _ rfl (hown.alloc _) _ _ rfl (zJ1 Hkey) ?_; intro c hat hwc; obtain rfl := (zJ1 Hcm).read hat; clear hat hwc)
      | (at_mapUpdate; refine wpList_mapUpdate_own _ rfl _ _ _ 171 rfl 56 3 zJ9 Tryz.underlying171 _ (w.heap.size + 1) k _ rfl (hown.alloc _) (by unfold maxLen; omega) _ _ _ rfl rfl (zJ1 Hkey) _ [] (plainElem_int Tryz.underlying3 (zJ1 Hwf)) ?_; intro w1 hown1 hgrow1; have g1 := zJa hgrow1 (zJ1 Hbox) hsz1; obtain ⟨g1a, g1b, g1c⟩ := g1; obtain ⟨q0, q1, q2, q3⟩ := zJc g1a; obtain ⟨p0, p1, p2, p3, p4, p5⟩ := zJf g1b; have G1a := zJ2 g1a; have Hown1 := zJ2 hown1; have Hbl := zJ2 (zJb (zJ1 Hb) hgrow1); clear g1a g1b hown1 hgrow1 hown)
      | (go_at_call_of 45 (Value.bool true); refine (zJ8 _ _).mono ?_; rintro e w3 ⟨rfl, rfl⟩)
      | (go_at_call_of 45 (Value.bool false); refine (zJe _ _).mono ?_; rintro e w3 ⟨rfl, rfl⟩)
      | (go_at_call 94; refine ((zJ1 Hfil) ⟨sk, sfl, so, sa, sf, sm⟩ (zJ1 Hfit) _ (zJ1 Hbl)).mono ?_; rintro e w2 ⟨rfl, hb2⟩; rw [zJ1 Hfd]; have Hb2 := zJ2 hb2; have hq := (hb2.block _ g1c.1).trans (zJ1 G1a); have HQ := zJ2 hq; have hz2 := hb2.size; clear hb2 hq))
     go_roundw
     case rel =>
      refine ⟨k + 1, _, by omega, by go_num, by rw [zJ1 Hany2, Bool.or_false, zJ1 Heb], zJ1 Hall2, (zJ1 Hcm2), yJe (zJ1 Hown1) (zJ1 Hb2), (zJ1 Hbl).trans ((zJ1 Hb2).mono (zJ1 Hbl).size), zJ1 HQ, by omega⟩
     case measure => simp [intOf]; omega
    ·rw [Bool.not_eq_true] at hfd
     have Hfd := zJ2 hfd
     have b1 : (((sk : Nat) : Int) == 1) = false := by simp; omega
     have b2 : (((sk : Nat) : Int) == 2) = true := by simp; omega
     have hbad : El.wholeOk h = false := yJo (List.mem_of_getElem? (zJ1 Hs)) (by subst hk2; simp [El.segWhole, hfd])
     have Hbad := zJ2 hbad
     clear hbad
     clear hk1 hk2 hfd
     go_wp2_with (first
      | (at_lookup; refine wpList_lookup_own_int _ rfl _ _ 171 rfl 56 3 .i64 zJ9 Tryz.underlying171 Tryz.underlying3 (zJg _) (w.heap.size + 1) k _ rfl (hown.alloc _) _ _ rfl (zJ1 Hkey) ?_; intro c hat hwc; obtain rfl := (zJ1 Hcm).read hat; clear hat hwc)
      | (at_mapUpdate; refine wpList_mapUpdate_own _ rfl _ _ _ 171 rfl 56 3 zJ9 Tryz.underlying171 _ (w.heap.size + 1) k _ rfl (hown.alloc _) (by unfold maxLen; omega) _ _ _ rfl rfl (zJ1 Hkey) _ [] (plainElem_int Tryz.underlying3 (zJ1 Hwf)) ?_; intro w1 hown1 hgrow1; have g1 := zJa hgrow1 (zJ1 Hbox) hsz1; obtain ⟨g1a, g1b, g1c⟩ := g1; obtain ⟨q0, q1, q2, q3⟩ := zJc g1a; obtain ⟨p0, p1, p2, p3, p4, p5⟩ := zJf g1b; have G1a := zJ2 g1a; have Hown1 := zJ2 hown1; have Hbl := zJ2 (zJb (zJ1 Hb) hgrow1); clear g1a g1b hown1 hgrow1 hown)
      | (go_at_call_of 45 (Value.bool true); refine (zJ8 _ _).mono ?_; rintro e w3 ⟨rfl, rfl⟩)
      | (go_at_call_of 45 (Value.bool false); refine (zJe _ _).mono ?_; rintro e w3 ⟨rfl, rfl⟩)
      | (go_at_call 94; refine ((zJ1 Hfil) ⟨sk, sfl, so, sa, sf, sm⟩ (zJ1 Hfit) _ (zJ1 Hbl)).mono ?_; rintro e w2 ⟨rfl, hb2⟩; rw [zJ1 Hfd]; have Hb2 := zJ2 hb2; have hq := (hb2.block _ g1c.1).trans (zJ1 G1a); have HQ := zJ2 hq; have hz2 := hb2.size; clear hb2 hq))
     exact ⟨rfl, by rw [zJ1 Hbad]; rfl, (zJ1 Hbl).trans ((zJ1 Hb2).mono (zJ1 Hbl).size)⟩
   by_cases hk6 : sk = 6
   ·by_cases hfd : El.filled h ⟨sk, sfl, so, sa, sf, sm⟩ = true
    ·have Hfd := zJ2 hfd
     have b1 : (((sk : Nat) : Int) == 1) = false := by simp; omega
     have b2 : (((sk : Nat) : Int) == 2) = false := by simp; omega
     have b6 : (((sk : Nat) : Int) == 6) = true := by simp; omega
     have hsw : El.segWhole h ⟨sk, sfl, so, sa, sf, sm⟩ = true := by subst hk6; simp [El.segWhole, hfd]
     have hent : El.entersBy h ⟨sk, sfl, so, sa, sf, sm⟩ = false := by simp [El.entersBy, El.isLoad, hk1]
     have hall2 : (h.segs.take (k + 1)).all (El.segWhole h) = true := by rw [List.take_add_one, zJ1 Hs, List.all_append, zJ1 Hall]; simp [hsw]
     have Hall2 := zJ2 hall2
     clear hall2
     have hany2 : (h.segs.take (k + 1)).any (El.entersBy h) = ((h.segs.take k).any (El.entersBy h) || El.entersBy h ⟨sk, sfl, so, sa, sf, sm⟩) := by rw [List.take_add_one, zJ1 Hs, List.any_append]; simp
     rw [hent] at hany2
     have Hany2 := zJ2 hany2
     clear hany2 hent hsw
     clear hk1 hk6 hfd hk2
     go_wp2_with (first
      | (at_lookup; refine wpList_lookup_own_int _ rfl _ _ 171 rfl 56 3 .i64 zJ9 Tryz.underlying171 Tryz.underlying3 (zJg _) (w.heap.size + 1) k _ rfl (hown.alloc _) _ _ rfl (zJ1 Hkey) ?_; intro c hat hwc; obtain rfl := (zJ1 Hcm).read hat; clear hat hwc)
      | (at_mapUpdate; refine wpList_mapUpdate_own _ rfl _ _ _ 171 rfl 56 3 zJ9 Tryz.underlying171 _ (w.heap.size + 1) k _ rfl (hown.alloc _) (by unfold maxLen; omega) _ _ _ rfl rfl (zJ1 Hkey) _ [] (plainElem_int Tryz.underlying3 (zJ1 Hwf)) ?_; intro w1 hown1 hgrow1; have g1 := zJa hgrow1 (zJ1 Hbox) hsz1; obtain ⟨g1a, g1b, g1c⟩ := g1; obtain ⟨q0, q1, q2, q3⟩ := zJc g1a; obtain ⟨p0, p1, p2, p3, p4, p5⟩ := zJf g1b; have G1a := zJ2 g1a; have Hown1 := zJ2 hown1; have Hbl := zJ2 (zJb (zJ1 Hb) hgrow1); clear g1a g1b hown1 hgrow1 hown)
      | (go_at_call_of 45 (Value.bool true); refine (zJ8 _ _).mono ?_; rintro e w3 ⟨rfl, rfl⟩)
      | (go_at_call_of 45 (Value.bool false); refine (zJe _ _).mono ?_; rintro e w3 ⟨rfl, rfl⟩)
      | (go_at_call 94; refine ((zJ1 Hfil) ⟨sk, sfl, so, sa, sf, sm⟩ (zJ1 Hfit) _ (zJ1 Hbl)).mono ?_; rintro e w2 ⟨rfl, hb2⟩; rw [zJ1 Hfd]; have Hb2 := zJ2 hb2; have hq := (hb2.block _ g1c.1).trans (zJ1 G1a); have HQ := zJ2 hq; have hz2 := hb2.size; clear hb2 hq))
     go_roundw
     case rel =>
      refine ⟨k + 1, _, by omega, by go_num, by rw [zJ1 Hany2, Bool.or_false, zJ1 Heb], zJ1 Hall2, (zJ1 Hcm2), yJe (zJ1 Hown1) (zJ1 Hb2), (zJ1 Hbl).trans ((zJ1 Hb2).mono (zJ1 Hbl).size), zJ1 HQ, by omega⟩
     case measure => simp [intOf]; omega
    ·rw [Bool.not_eq_true] at hfd
     have Hfd := zJ2 hfd
     have b1 : (((sk : Nat) : Int) == 1) = false := by simp; omega
     have b2 : (((sk : Nat) : Int) == 2) = false := by simp; omega
     have b6 : (((sk : Nat) : Int) == 6) = true := by simp; omega
     have hbad : El.wholeOk h = false := yJo (List.mem_of_getElem? (zJ1 Hs)) (by subst hk6; simp [El.segWhole, hfd])
     have Hbad := zJ2 hbad
     clear hbad
     clear hk1 hk6 hfd hk2
     go_wp2_with (first
      | (at_lookup; refine wpList_lookup_own_int _ rfl _ _ 171 rfl 56 3 .i64 zJ9 Tryz.underlying171 Tryz.underlying3 (zJg _) (w.heap.size + 1) k _ rfl (hown.alloc _) _ _ rfl (zJ1 Hkey) ?_; intro c hat hwc; obtain rfl := (zJ1 Hcm).read hat; clear hat hwc)
      | (at_mapUpdate; refine wpList_mapUpdate_own _ rfl _ _ _ 171 rfl 56 3 zJ9 Tryz.underlying171 _ (w.heap.size + 1) k _ rfl (hown.alloc _) (by unfold maxLen; omega) _ _ _ rfl rfl (zJ1 Hkey) _ [] (plainElem_int Tryz.underlying3 (zJ1 Hwf)) ?_; intro w1 hown1 hgrow1; have g1 := zJa hgrow1 (zJ1 Hbox) hsz1; obtain ⟨g1a, g1b, g1c⟩ := g1; obtain ⟨q0, q1, q2, q3⟩ := zJc g1a; obtain ⟨p0, p1, p2, p3, p4, p5⟩ := zJf g1b; have G1a := zJ2 g1a; have Hown1 := zJ2 hown1; have Hbl := zJ2 (zJb (zJ1 Hb) hgrow1); clear g1a g1b hown1 hgrow1 hown)
      | (go_at_call_of 45 (Value.bool true); refine (zJ8 _ _).mono ?_; rintro e w3 ⟨rfl, rfl⟩)
      | (go_at_call_of 45 (Value.bool false); refine (zJe _ _).mono ?_; rintro e w3 ⟨rfl, rfl⟩)
      | (go_at_call 94; refine ((zJ1 Hfil) ⟨sk, sfl, so, sa, sf, sm⟩ (zJ1 Hfit) _ (zJ1 Hbl)).mono ?_; rintro e w2 ⟨rfl, hb2⟩; rw [zJ1 Hfd]; have Hb2 := zJ2 hb2; have hq := (hb2.block _ g1c.1).trans (zJ1 G1a); have HQ := zJ2 hq; have hz2 := hb2.size; clear hb2 hq))
     exact ⟨rfl, by rw [zJ1 Hbad]; rfl, (zJ1 Hbl).trans ((zJ1 Hb2).mono (zJ1 Hbl).size)⟩
   by_cases hk3 : sk = 3
   ·by_cases hf1 : 0 < sf
    ·by_cases hf2 : sf <= 201
     ·have f1 : decide (0 < sf) = true := by simp; omega
      have f2 : decide (((sf : Nat) : Int) <= 201) = true := by simp; omega
      clear i3 i4 i6
      have b1 : (((sk : Nat) : Int) == 1) = false := by simp; omega
      have b2 : (((sk : Nat) : Int) == 2) = false := by simp; omega
      have b6 : (((sk : Nat) : Int) == 6) = false := by simp; omega
      have b3 : (((sk : Nat) : Int) == 3) = true := by simp; omega
      have hsw : El.segWhole h ⟨sk, sfl, so, sa, sf, sm⟩ = true := by simp [El.segWhole, hk3, hf1, hf2]
      have hent : El.entersBy h ⟨sk, sfl, so, sa, sf, sm⟩ = false := by simp [El.entersBy, El.isLoad, hk1]
      have hall2 : (h.segs.take (k + 1)).all (El.segWhole h) = true := by rw [List.take_add_one, zJ1 Hs, List.all_append, zJ1 Hall]; simp [hsw]
      have Hall2 := zJ2 hall2
      clear hall2
      have hany2 : (h.segs.take (k + 1)).any (El.entersBy h) = ((h.segs.take k).any (El.entersBy h) || El.entersBy h ⟨sk, sfl, so, sa, sf, sm⟩) := by rw [List.take_add_one, zJ1 Hs, List.any_append]; simp
      rw [hent] at hany2
      have Hany2 := zJ2 hany2
      clear hany2 hent hsw
      clear hk1 hk2 hk6 hk3 hf1 hf2
      go_wp2_with (first
       | (at_lookup; refine wpList_lookup_own_int _ rfl _ _ 171 rfl 56 3 .i64 zJ9 Tryz.underlying171 Tryz.underlying3 (zJg _) (w.heap.size + 1) k _ rfl (hown.alloc _) _ _ rfl (zJ1 Hkey) ?_; intro c hat hwc; obtain rfl := (zJ1 Hcm).read hat; clear hat hwc)
       | (at_mapUpdate; refine wpList_mapUpdate_own _ rfl _ _ _ 171 rfl 56 3 zJ9 Tryz.underlying171 _ (w.heap.size + 1) k _ rfl (hown.alloc _) (by unfold maxLen; omega) _ _ _ rfl rfl (zJ1 Hkey) _ [] (plainElem_int Tryz.underlying3 (zJ1 Hwf)) ?_; intro w1 hown1 hgrow1; have g1 := zJa hgrow1 (zJ1 Hbox) hsz1; obtain ⟨g1a, g1b, g1c⟩ := g1; obtain ⟨q0, q1, q2, q3⟩ := zJc g1a; obtain ⟨p0, p1, p2, p3, p4, p5⟩ := zJf g1b; have G1a := zJ2 g1a; have Hown1 := zJ2 hown1; have Hbl := zJ2 (zJb (zJ1 Hb) hgrow1); clear g1a g1b hown1 hgrow1 hown)
       | (go_at_call_of 45 (Value.bool true); refine (zJ8 _ _).mono ?_; rintro e w3 ⟨rfl, rfl⟩)
       | (go_at_call_of 45 (Value.bool false); refine (zJe _ _).mono ?_; rintro e w3 ⟨rfl, rfl⟩))
      go_roundw
      case rel =>
       refine ⟨k + 1, _, by omega, by go_num, by rw [zJ1 Hany2, Bool.or_false, zJ1 Heb], zJ1 Hall2, (zJ1 Hcm2), zJ1 Hown1, zJ1 Hbl, zJ1 G1a, by omega⟩
      case measure => simp [intOf]; omega
     ·have f1 : decide (0 < sf) = true := by simp; omega
      clear i3 i4 i6
      have f2 : decide (((sf : Nat) : Int) <= 201) = false := by simp; omega
      have b1 : (((sk : Nat) : Int) == 1) = false := by simp; omega
      have b2 : (((sk : Nat) : Int) == 2) = false := by simp; omega
      have b6 : (((sk : Nat) : Int) == 6) = false := by simp; omega
      have b3 : (((sk : Nat) : Int) == 3) = true := by simp; omega
      have hbad : El.wholeOk h = false := yJo (List.mem_of_getElem? (zJ1 Hs)) (by simp [El.segWhole, hk3, hf2])
      have Hbad := zJ2 hbad
      clear hbad
      clear hk1 hk2 hk6 hk3 hf1 hf2
      go_wp2_with (first
       | (at_lookup; refine wpList_lookup_own_int _ rfl _ _ 171 rfl 56 3 .i64 zJ9 Tryz.underlying171 Tryz.underlying3 (zJg _) (w.heap.size + 1) k _ rfl (hown.alloc _) _ _ rfl (zJ1 Hkey) ?_; intro c hat hwc; obtain rfl := (zJ1 Hcm).read hat; clear hat hwc)
       | (at_mapUpdate; refine wpList_mapUpdate_own _ rfl _ _ _ 171 rfl 56 3 zJ9 Tryz.underlying171 _ (w.heap.size + 1) k _ rfl (hown.alloc _) (by unfold maxLen; omega) _ _ _ rfl rfl (zJ1 Hkey) _ [] (plainElem_int Tryz.underlying3 (zJ1 Hwf)) ?_; intro w1 hown1 hgrow1; have g1 := zJa hgrow1 (zJ1 Hbox) hsz1; obtain ⟨g1a, g1b, g1c⟩ := g1; obtain ⟨q0, q1, q2, q3⟩ := zJc g1a; obtain ⟨p0, p1, p2, p3, p4, p5⟩ := zJf g1b; have G1a := zJ2 g1a; have Hown1 := zJ2 hown1; have Hbl := zJ2 (zJb (zJ1 Hb) hgrow1); clear g1a g1b hown1 hgrow1 hown)
       | (go_at_call_of 45 (Value.bool true); refine (zJ8 _ _).mono ?_; rintro e w3 ⟨rfl, rfl⟩)
       | (go_at_call_of 45 (Value.bool false); refine (zJe _ _).mono ?_; rintro e w3 ⟨rfl, rfl⟩))
      exact ⟨rfl, by rw [zJ1 Hbad]; rfl, zJ1 Hbl⟩
    ·have f1 : ¬ (0 : Int) < ((sf : Nat) : Int) := by omega
     have f1' : decide (0 < sf) = false := by simp; omega
     have b1 : (((sk : Nat) : Int) == 1) = false := by simp; omega
     have b2 : (((sk : Nat) : Int) == 2) = false := by simp; omega
     have b6 : (((sk : Nat) : Int) == 6) = false := by simp; omega
     have b3 : (((sk : Nat) : Int) == 3) = true := by simp; omega
     have hbad : El.wholeOk h = false := yJo (List.mem_of_getElem? (zJ1 Hs)) (by simp [El.segWhole, hk3, hf1])
     have Hbad := zJ2 hbad
     clear hbad
     clear hk1 hk2 hk6 hk3 hf1
     go_wp2_with (first
      | (at_lookup; refine wpList_lookup_own_int _ rfl _ _ 171 rfl 56 3 .i64 zJ9 Tryz.underlying171 Tryz.underlying3 (zJg _) (w.heap.size + 1) k _ rfl (hown.alloc _) _ _ rfl (zJ1 Hkey) ?_; intro c hat hwc; obtain rfl := (zJ1 Hcm).read hat; clear hat hwc)
      | (at_mapUpdate; refine wpList_mapUpdate_own _ rfl _ _ _ 171 rfl 56 3 zJ9 Tryz.underlying171 _ (w.heap.size + 1) k _ rfl (hown.alloc _) (by unfold maxLen; omega) _ _ _ rfl rfl (zJ1 Hkey) _ [] (plainElem_int Tryz.underlying3 (zJ1 Hwf)) ?_; intro w1 hown1 hgrow1; have g1 := zJa hgrow1 (zJ1 Hbox) hsz1; obtain ⟨g1a, g1b, g1c⟩ := g1; obtain ⟨q0, q1, q2, q3⟩ := zJc g1a; obtain ⟨p0, p1, p2, p3, p4, p5⟩ := zJf g1b; have G1a := zJ2 g1a; have Hown1 := zJ2 hown1; have Hbl := zJ2 (zJb (zJ1 Hb) hgrow1); clear g1a g1b hown1 hgrow1 hown)
      | (go_at_call_of 45 (Value.bool true); refine (zJ8 _ _).mono ?_; rintro e w3 ⟨rfl, rfl⟩)
      | (go_at_call_of 45 (Value.bool false); refine (zJe _ _).mono ?_; rintro e w3 ⟨rfl, rfl⟩))
     exact ⟨rfl, by rw [zJ1 Hbad]; rfl, zJ1 Hbl⟩
   have b1 : (((sk : Nat) : Int) == 1) = false := by simp; omega
   have b2 : (((sk : Nat) : Int) == 2) = false := by simp; omega
   have b6 : (((sk : Nat) : Int) == 6) = false := by simp; omega
   have b3 : (((sk : Nat) : Int) == 3) = false := by simp; omega
   have hsw : El.segWhole h ⟨sk, sfl, so, sa, sf, sm⟩ = true := by simp [El.segWhole, hk2, hk6, hk3]
   have hent : El.entersBy h ⟨sk, sfl, so, sa, sf, sm⟩ = false := by simp [El.entersBy, El.isLoad, hk1]
   have hall2 : (h.segs.take (k + 1)).all (El.segWhole h) = true := by rw [List.take_add_one, zJ1 Hs, List.all_append, zJ1 Hall]; simp [hsw]
   have Hall2 := zJ2 hall2
   clear hall2
   have hany2 : (h.segs.take (k + 1)).any (El.entersBy h) = ((h.segs.take k).any (El.entersBy h) || El.entersBy h ⟨sk, sfl, so, sa, sf, sm⟩) := by rw [List.take_add_one, zJ1 Hs, List.any_append]; simp
   rw [hent] at hany2
   have Hany2 := zJ2 hany2
   clear hany2 hent hsw
   clear hk1 hk2 hk6 hk3
   go_wp2_with (first
    | (at_lookup; refine wpList_lookup_own_int _ rfl _ _ 171 rfl 56 3 .i64 zJ9 Tryz.underlying171 Tryz.underlying3 (zJg _) (w.heap.size + 1) k _ rfl (hown.alloc _) _ _ rfl (zJ1 Hkey) ?_; intro c hat hwc; obtain rfl := (zJ1 Hcm).read hat; clear hat hwc)
    | (at_mapUpdate; refine wpList_mapUpdate_own _ rfl _ _ _ 171 rfl 56 3 zJ9 Tryz.underlying171 _ (w.heap.size + 1) k _ rfl (hown.alloc _) (by unfold maxLen; omega) _ _ _ rfl rfl (zJ1 Hkey) _ [] (plainElem_int Tryz.underlying3 (zJ1 Hwf)) ?_; intro w1 hown1 hgrow1; have g1 := zJa hgrow1 (zJ1 Hbox) hsz1; obtain ⟨g1a, g1b, g1c⟩ := g1; obtain ⟨q0, q1, q2, q3⟩ := zJc g1a; obtain ⟨p0, p1, p2, p3, p4, p5⟩ := zJf g1b; have G1a := zJ2 g1a; have Hown1 := zJ2 hown1; have Hbl := zJ2 (zJb (zJ1 Hb) hgrow1); clear g1a g1b hown1 hgrow1 hown)
    | (go_at_call_of 45 (Value.bool true); refine (zJ8 _ _).mono ?_; rintro e w3 ⟨rfl, rfl⟩)
    | (go_at_call_of 45 (Value.bool false); refine (zJe _ _).mono ?_; rintro e w3 ⟨rfl, rfl⟩))
   go_roundw
   case rel =>
    refine ⟨k + 1, _, by omega, by go_num, by rw [zJ1 Hany2, Bool.or_false, zJ1 Heb], zJ1 Hall2, (zJ1 Hcm2), zJ1 Hown1, zJ1 Hbl, zJ1 G1a, by omega⟩
   case measure => simp [intOf]; omega
end Go.Proofs.YtnbecdahfgkffaaGreat
namespace Go.Proofs.YtnbecdahfgkffaaGreat
open Go.RowKit
structure PW (w : World) (a b c d e : Value) (w' : World) : Prop where
 below : Below w.heap.size w w'
 head : w'.heap[w.heap.size]? = some (.cells #[a, b, c, d] 44 (0, 0))
 err : w'.heap[w.heap.size + 1]? = some (.cells #[e] 35 (0, 0))
theorem PW.start (w : World) : PW w (.int .u16 0) (.int .u64 0) (.int .u64 0) (.slice none 0 0) (.int .i64 0) ((w.alloc (.cells #[.int .u16 0, .int .u64 0, .int .u64 0, .slice none 0 0] 44)).alloc (.cells #[.int .i64 0] 35)) :=
 ⟨((Below.refl _ _).alloc (Nat.le_refl _) _).alloc (by simp) _, (Below.heap_alloc _ _ _ (by simp)).trans (heap_alloc_new _ _), heap_alloc2_new _ _ _⟩
theorem PW.later {w0 w w' : World} {a b c d e : Value} (h : PW w0 a b c d e w) (hb : Below w.heap.size w w') : PW w0 a b c d e w' :=
 ⟨h.below.trans (hb.mono h.below.size), (hb.block _ (lt_of_block h.head)).trans h.head, (hb.block _ (lt_of_block h.err)).trans h.err⟩
theorem PW.setHead {w0 w : World} {a b c d e a' b' c' d' : Value} (h : PW w0 a b c d e w) : PW w0 a' b' c' d' e (w.setRow w0.heap.size #[a', b', c', d']) :=
 ⟨below_setRow h.below (Nat.le_refl _) _, setRow_heap _ _ _ _ _ _ h.head, (setRow_other _ _ _ _ (by simp)).trans h.err⟩
theorem PW.setErr {w0 w : World} {a b c d e e' : Value} (h : PW w0 a b c d e w) : PW w0 a b c d e' (w.setCell ⟨w0.heap.size + 1, 0, none⟩ e') :=
 ⟨h.below.setCell (by simp) _, (Below.heap_setCell _ _ _ _ (by simp)).trans h.head, one_setCell h.err⟩
theorem PW.reset {w0 w : World} {a b c d e0 : Value} (h : PW w0 a b c d e0 w) (e : Int) : PW w0 (.int .u16 0) (.int .u64 0) (.int .u64 0) (.slice none 0 0) (.int .i64 e) ((w.setRow w0.heap.size #[.int .u16 0, .int .u64 0, .int .u64 0, .slice none 0 0]).setCell ⟨w0.heap.size + 1, 0, none⟩ (.int .i64 e)) := h.setHead.setErr
theorem wJg : (Tryz.prog.info? 44).map (·.size) = some 4 := by kernel_rfl
theorem tJ5 (a b c : Int) (A : Option Addr) (n cp : Nat) : (#[.int .u16 a, .int .u64 b, .int .u64 c, .slice A n cp] : Array Value).all (·.oneCell') = true := by simp [Value.oneCell']
set_option maxRecDepth 100000 in
theorem uJ2 (w0 : World) (a b c d e0 : Value) (e : Int) (w : World) (h : PW w0 a b c d e0 w) :
  CallsD Tryz.prog 42 #[.pointer (some ⟨w0.heap.size, 0, none⟩), .pointer (some ⟨w0.heap.size + 1, 0, none⟩)] (.panicking [{ v := .iface 102 (.int .i64 e), recovered := false }]) w fun r u' w' =>
   r = .returned (.tuple #[]) /\ u' = .panicking [{ v := .iface 102 (.int .i64 e), recovered := true }] /\ PW w0 (.int .u16 0) (.int .u64 0) (.int .u64 0) (.slice none 0 0) (.int .i64 e) w' := by
 refine callsD_of_wpS Tryz.func42 rfl fun c₀ cs hu => ?_
 have hta : ∀ w, (Instr.typeAssert (.iface 102 (.int .i64 e)) 20 102 true).run Tryz.prog w = .ok (.tuple #[.int .i64 e, .bool true]) w := fun _ => by kernel_rfl
 have h3 := cell_of_one h.err
 have h4 := free_of_one h.err
 have h5 : (w.setRow w0.heap.size #[.int .u16 0, .int .u64 0, .int .u64 0, .slice none 0 0]).cell? ⟨w0.heap.size + 1, 0, none⟩ = some e0 := by
  rw [cell_setRow_other _ _ _ _ (by simp)]
  exact h3
 have h6 : (w.setRow w0.heap.size #[.int .u16 0, .int .u64 0, .int .u64 0, .slice none 0 0]).frozen? ⟨w0.heap.size + 1, 0, none⟩ = false := by
  rw [World.frozen?_of_block (setRow_other _ _ _ _ (by simp))]
  exact h4
 have H := zJ2 h
 clear h h3 h4
 simp only [Tryz.ntmps42, List.size_toArray, List.length_cons, List.length_nil, Nat.reduceAdd, Nat.reduceSub, Array.replicate_succ, Array.replicate_zero, List.push_toArray, List.append_toArray, List.nil_append, List.cons_append]
 apply wpS_seq
 apply wpS_region
 simp [wpOpsS, go_sem, recoverD, hu, Exit.thenS]
 refine wpS_of_wp ?_
 go_wp2_with ((with_reducible refine (@id (wpList _ _ _ (Oper.mk none (Op.store 44 (.tmp 0) (.tmp 11)) _ _ _ none :: _) _ _) ?_)); refine wpList_store_row rfl 44 (.tmp 0) (.tmp 11) rfl w0.heap.size #[.int .u16 0, .int .u64 0, .int .u64 0, .slice none 0 0] rfl rfl 44 _ (zJ1 H).head wJg rfl (tJ5 _ _ _ _ _ _) ?_)
 simp [bodyPostS, results, Tryz.results42]
 exact (zJ1 H).reset e
set_option maxRecDepth 100000 in
theorem catch_idle (p q : Addr) (w : World) :
  CallsD Tryz.prog 42 #[.pointer (some p), .pointer (some q)] .returning w fun r u' w' => r = .returned (.tuple #[]) /\ u' = .returning /\ w' = w := by
 refine callsD_of_wpS Tryz.func42 rfl fun c₀ cs hu => ?_
 simp only [Tryz.ntmps42, List.size_toArray, List.length_cons, List.length_nil, Nat.reduceAdd, Nat.reduceSub, Array.replicate_succ, Array.replicate_zero, List.push_toArray, List.append_toArray, List.nil_append, List.cons_append]
 apply wpS_seq
 apply wpS_region
 simp [wpOpsS, go_sem, recoverD, hu, Exit.thenS]
 refine wpS_of_wp ?_
 go_wp2
 cases c₀
 simp_all [bodyPostS, results, Tryz.results42]
abbrev noHead : Value := .agg #[.int .u16 0, .int .u64 0, .int .u64 0, .slice none 0 0]
theorem wJ8 {w0 w1 : World} {tmps : Array Value} {a b c d e : Value} (h : PW w0 a b c d e w1) (h2 : tmps.getD 2 undef = .pointer (some ⟨w0.heap.size, 0, none⟩)) (h3 : tmps.getD 3 undef = .pointer (some ⟨w0.heap.size + 1, 0, none⟩)) :
  (results Tryz.f14 tmps).run Tryz.prog w1 = .ok (.tuple #[.agg #[a, b, c, d], e]) w1 := by
 obtain ⟨q0, q1, q2, q3⟩ := zJc h.head
 have q4 := cell_of_one h.err
 have h2' : tmps[2]?.getD undef = .pointer (some ⟨w0.heap.size, 0, none⟩) := by simpa using h2
 have h3' : tmps[3]?.getD undef = .pointer (some ⟨w0.heap.size + 1, 0, none⟩) := by simpa using h3
 simp [results, Tryz.results14, go_sem, h2', h3', q0, q1, q2, q3, q4]
theorem wJl {R : Ending -> World -> Prop} {w0 w1 : World} {tmps : Array Value} {a b c d e0 : Value} {e : Int} (h : PW w0 a b c d e0 w1) (h2 : tmps.getD 2 undef = .pointer (some ⟨w0.heap.size, 0, none⟩)) (h3 : tmps.getD 3 undef = .pointer (some ⟨w0.heap.size + 1, 0, none⟩))
  (hR : ∀ w', Below w0.heap.size w0 w' -> R (.returned (.tuple #[noHead, .int .i64 e])) w') :
  bodyPostD Tryz.prog Tryz.f14 R (Exit.panic [{ v := .iface 102 (.int .i64 e), recovered := false }])
   { tmps := tmps, defers := [{ target := Target.fn (Fn.func 42) #[.pointer (some ⟨w0.heap.size, 0, none⟩), .pointer (some ⟨w0.heap.size + 1, 0, none⟩)], args := #[] }] } w1 := by
 refine leaves_cons (f := 42) (args := #[.pointer (some ⟨w0.heap.size, 0, none⟩), .pointer (some ⟨w0.heap.size + 1, 0, none⟩)]) (by simp) (by simp [go_sem]) ?_
 refine (uJ2 w0 a b c d e0 e w1 h).mono ?_
 rintro e u' w'' ⟨rfl, rfl, hp⟩
 exact ⟨_, wJ8 hp h2 h3, hR _ hp.below⟩
theorem door_ok {R : Ending -> World -> Prop} {w0 w1 : World} {tmps : Array Value} {a b c d e : Value} (h : PW w0 a b c d e w1) (h2 : tmps.getD 2 undef = .pointer (some ⟨w0.heap.size, 0, none⟩)) (h3 : tmps.getD 3 undef = .pointer (some ⟨w0.heap.size + 1, 0, none⟩))
  (hR : R (.returned (.tuple #[.agg #[a, b, c, d], e])) w1) :
  bodyPostD Tryz.prog Tryz.f14 R Exit.ret
   { tmps := tmps, defers := [{ target := Target.fn (Fn.func 42) #[.pointer (some ⟨w0.heap.size, 0, none⟩), .pointer (some ⟨w0.heap.size + 1, 0, none⟩)], args := #[] }] } w1 := by
 refine leaves_cons (f := 42) (args := #[.pointer (some ⟨w0.heap.size, 0, none⟩), .pointer (some ⟨w0.heap.size + 1, 0, none⟩)]) (by simp) (by simp [go_sem]) ?_
 refine (catch_idle _ _ _).mono ?_
 rintro e u' w'' ⟨rfl, rfl, rfl⟩
 exact ⟨_, wJ8 h h2 h3, hR⟩
set_option maxHeartbeats 1600000 in
set_option maxRecDepth 100000 in
theorem parse_nohdr (A : Option Addr) (m c : Nat) (b : List UInt8) (w : World) (hb : Rd w w.heap.size 1 A m (u8s b)) (hm : m <= 4294967296) (hmc : m <= c) (hh : El.hdrOk b = false) :
  Calls Tryz.prog 14 #[.slice A m c] w fun e w' => e = .returned (.tuple #[noHead, .int .i64 13]) /\ Below w.heap.size w w' := by
 have hmf : ∀ (fn : Fn) (first cap : Array Value) (w : World), (Instr.makeFunc fn first cap).run Tryz.prog w = .ok (.func fn first cap) w := fun _ _ _ _ => rfl
 have hpw : PW w (.int .u16 0) (.int .u64 0) (.int .u64 0) (.slice none 0 0) (.int .i64 0) ((w.alloc (.cells #[.int .u16 0, .int .u64 0, .int .u64 0, .slice none 0 0] 44)).alloc (.cells #[.int .i64 0] 35)) := PW.start w
 have Hpw := zJ2 hpw
 clear hpw
 go_enter_defers Tryz.func14, Tryz.ntmps14
 go_wp2_with (go_at_call 43; refine (header_bad A m c w.heap.size b _ (by simp; omega) ((hb.alloc (Nat.le_refl _) _).alloc (by simp) _) (by unfold maxLen; omega) hmc hh).mono ?_; rintro e w1 ⟨rfl, hb1⟩)
 exact wJl ((zJ1 Hpw).later hb1) rfl rfl fun w' hb => ⟨rfl, hb⟩
end Go.Proofs.YtnbecdahfgkffaaGreat
namespace Go.Proofs.YtnbecdahfgkffaaGreat.El
open Go.Proofs.YtnbecdahfgkffaaGreat
def topOf : List Sg -> Nat -> Nat
 | [], t => t
 | s :: r, t => if isLoad s then topOf r (up (s.addr + s.msz)) else topOf r t
theorem wJ5 (a r : List Sg) : ∀ t, rises (a ++ r) t = (rises a t && rises r (topOf a t)) := by
 induction a with
 | nil => intro t; simp [rises, topOf]
 | cons s a ih =>
  intro t
  simp only [List.cons_append, rises, topOf]
  cases isLoad s
  ·simp [ih]
  ·simp [ih, Bool.and_assoc]
theorem uJa (a : List Sg) (s : Sg) : ∀ t, topOf (a ++ [s]) t = if isLoad s then up (s.addr + s.msz) else topOf a t := by
 induction a with
 | nil => intro t; simp [topOf]
 | cons x a ih =>
  intro t
  simp only [List.cons_append, topOf]
  cases isLoad x
  ·simp [ih]
  ·simp only [if_true, ih]
theorem segsOf_succ (b : List UInt8) (k : Nat) : segsOf b (k + 1) = segsOf b k ++ [segAt b (Wd.num b 32 8 + k * 56)] := by simp [segsOf, List.range_succ]
theorem segsOf_len (b : List UInt8) (k : Nat) : (segsOf b k).length = k := by simp [segsOf]
theorem segsOf_take (b : List UInt8) {k n : Nat} (h : k <= n) : ∃ r, segsOf b n = segsOf b k ++ r := by
 obtain ⟨d, rfl⟩ := Nat.exists_eq_add_of_le h
 exact ⟨_, by unfold segsOf; rw [List.range_add, List.map_append]⟩
def readOk (b : List UInt8) (k : Nat) : Bool := (List.range k).all (fun i => segOk b (Wd.num b 32 8 + i * 56) (Wd.num b 16 2)) && rises (segsOf b k) 0
def topAt (b : List UInt8) (k : Nat) : Nat := topOf (segsOf b k) 0
theorem readOk_load {b : List UInt8} {k : Nat} (h : readOk b k = true) (hs : segOk b (Wd.num b 32 8 + k * 56) (Wd.num b 16 2) = true) (h1 : (segAt b (Wd.num b 32 8 + k * 56)).kind = 1) (ht : topAt b k <= (segAt b (Wd.num b 32 8 + k * 56)).addr) :
  readOk b (k + 1) = true /\ topAt b (k + 1) = up ((segAt b (Wd.num b 32 8 + k * 56)).addr + (segAt b (Wd.num b 32 8 + k * 56)).msz) := by
 simp only [readOk, Bool.and_eq_true] at h
 have hl : isLoad (segAt b (Wd.num b 32 8 + k * 56)) = true := by simp [isLoad, h1]
 refine ⟨?_, ?_⟩
 ·simp only [readOk, segsOf_succ, wJ5, List.range_succ, List.all_append, List.all_cons, List.all_nil, hs, h.1, h.2, Bool.true_and, Bool.and_true, rises, hl, if_true]
  exact decide_eq_true ht
 ·rw [topAt, segsOf_succ, uJa, hl]; simp
theorem readOk_other {b : List UInt8} {k : Nat} (h : readOk b k = true) (hs : segOk b (Wd.num b 32 8 + k * 56) (Wd.num b 16 2) = true) (h1 : ¬ (segAt b (Wd.num b 32 8 + k * 56)).kind = 1) :
  readOk b (k + 1) = true /\ topAt b (k + 1) = topAt b k := by
 simp only [readOk, Bool.and_eq_true] at h
 have hl : isLoad (segAt b (Wd.num b 32 8 + k * 56)) = false := by simp [isLoad, h1]
 refine ⟨?_, ?_⟩
 ·simp only [readOk, segsOf_succ, wJ5, List.range_succ, List.all_append, List.all_cons, List.all_nil, hs, h.1, h.2, Bool.true_and, Bool.and_true, rises, hl]
  simp
 ·rw [topAt, segsOf_succ, uJa, hl]; simp [topAt]
theorem wJj (b : List UInt8) : formOk b = (decide (Wd.num b 32 8 + Wd.num b 56 2 * 56 <= b.length) && readOk b (Wd.num b 56 2) && wholeOk (headOf b)) := by
 simp only [formOk, readOk, Bool.and_assoc]
theorem readOk_mono {b : List UInt8} {k n : Nat} (hk : k <= n) (h : readOk b k = false) : readOk b n = false := by
 rw [Bool.eq_false_iff] at h ⊢
 intro hn
 apply h
 simp only [readOk, Bool.and_eq_true, List.all_eq_true, List.mem_range] at hn ⊢
 refine ⟨fun i hi => hn.1 i (by omega), ?_⟩
 obtain ⟨r, hr⟩ := segsOf_take b hk
 have := hn.2
 rw [hr, wJ5, Bool.and_eq_true] at this
 exact this.1
theorem xJi {b : List UInt8} (hh : hdrOk b = true) (hf : formOk b = false) : parse b = (25, ⟨0, 0, 0, []⟩) := by simp [parse, hh, hf]
theorem parse_notin {b : List UInt8} (hh : hdrOk b = true) (h : ¬ Wd.num b 32 8 + Wd.num b 56 2 * 56 <= b.length) : parse b = (25, ⟨0, 0, 0, []⟩) := xJi hh (by simp [wJj, h])
theorem vJ2 {b : List UInt8} (hh : hdrOk b = true) {k : Nat} (hk : k <= Wd.num b 56 2) (h : readOk b k = false) : parse b = (25, ⟨0, 0, 0, []⟩) := xJi hh (by simp [wJj, readOk_mono hk h])
theorem parse_badseg {b : List UInt8} (hh : hdrOk b = true) {k : Nat} (hk : k < Wd.num b 56 2) (h : segOk b (Wd.num b 32 8 + k * 56) (Wd.num b 16 2) = false) : parse b = (25, ⟨0, 0, 0, []⟩) :=
 vJ2 hh hk (by simp [readOk, List.range_succ, h])
theorem parse_norise {b : List UInt8} (hh : hdrOk b = true) {k : Nat} (hk : k < Wd.num b 56 2) (h1 : (segAt b (Wd.num b 32 8 + k * 56)).kind = 1) (ht : ¬ topAt b k <= (segAt b (Wd.num b 32 8 + k * 56)).addr) : parse b = (25, ⟨0, 0, 0, []⟩) := by
 refine vJ2 hh (k := k + 1) hk ?_
 have hl : isLoad (segAt b (Wd.num b 32 8 + k * 56)) = true := by simp [isLoad, h1]
 have ht' : ¬ topOf (segsOf b k) 0 <= (segAt b (Wd.num b 32 8 + k * 56)).addr := ht
 simp [readOk, segsOf_succ, wJ5, rises, hl, ht']
theorem parse_unwhole {b : List UInt8} (hh : hdrOk b = true) (h : wholeOk (headOf b) = false) : parse b = (25, ⟨0, 0, 0, []⟩) := xJi hh (by simp [wJj, h])
theorem parse_good {b : List UInt8} (hh : hdrOk b = true) (h1 : Wd.num b 32 8 + Wd.num b 56 2 * 56 <= b.length) (h2 : readOk b (Wd.num b 56 2) = true) (h : wholeOk (headOf b) = true) : parse b = (0, headOf b) := by simp [parse, hh, wJj, h1, h2, h]
theorem load_end {b : List UInt8} {p ty : Nat} (hs : segOk b p ty = true) (h1 : (segAt b p).kind = 1) : (segAt b p).addr + (segAt b p).msz <= 140737488355328 := by
 simp only [segOk, Bool.and_eq_true] at hs
 have h := hs.1.2
 have hk : knownB (segAt b p).kind = true := by rw [h1]; rfl
 have he : endOf ty <= 140737488355328 := by unfold endOf; split <;> omega
 simp only [endB, hk, Bool.not_true, Bool.false_or, decide_eq_true_eq] at h
 omega
theorem segAt_fit {b : List UInt8} {p ty : Nat} (hs : segOk b p ty = true) : SgFit (segAt b p) := by
 simp only [segOk, Bool.and_eq_true] at hs
 have h := hs.1.1.1
 simp only [flagsB, decide_eq_true_eq] at h
 exact ⟨Wd.num_lt _ _ 4, by omega, Wd.num_lt _ _ 8, Wd.num_lt _ _ 8, Wd.num_lt _ _ 8, Wd.num_lt _ _ 8⟩
theorem readOk_fit {b : List UInt8} {k : Nat} (h : readOk b k = true) : ∀ x ∈ segsOf b k, SgFit x := by
 intro x hx
 simp only [readOk, Bool.and_eq_true, List.all_eq_true, List.mem_range] at h
 simp only [segsOf, List.mem_map, List.mem_range] at hx
 obtain ⟨i, hi, rfl⟩ := hx
 exact segAt_fit (h.1 i hi)
end Go.Proofs.YtnbecdahfgkffaaGreat.El
namespace Go.Proofs.YtnbecdahfgkffaaGreat
open Go.RowKit
theorem PW.later2 {w0 w w' : World} {a b c d e : Value} (h : PW w0 a b c d e w) (hb : Below (w0.heap.size + 2) w w') : PW w0 a b c d e w' :=
 ⟨h.below.trans (hb.mono (by omega)), (hb.block _ (by omega)).trans h.head, (hb.block _ (by omega)).trans h.err⟩
theorem PW.sz {w0 w : World} {a b c d e : Value} (h : PW w0 a b c d e w) : w0.heap.size + 2 <= w.heap.size := by have := lt_of_block h.err; omega
theorem PW.own {w0 w : World} {a b c d e : Value} (h : PW w0 a b c d e w) : World.ownsRow w (w0.heap.size + 2) 58 6 (.slice none 0 0) 0 [] := World.ownsRow_nil _ _ _ _
theorem PW.setSegs {w0 w : World} {a b c d e d' : Value} (h : PW w0 a b c d e w) : PW w0 a b c d' e (w.setCell ⟨w0.heap.size, 3, none⟩ d') :=
 ⟨h.below.setCell (by simp) _, by simpa using (heap_setCell_same _ _ 3 _ _ d' h.head), (Below.heap_setCell _ _ _ _ (by simp)).trans h.err⟩
def ParseEnd (b : List UInt8) (w : World) (e : Ending) (w' : World) : Prop :=
 ∃ A' c', e = .returned (.tuple #[.agg #[.int .u16 (El.parse b).2.type, .int .u64 (El.parse b).2.entry, .int .u64 (El.parse b).2.phoff, .slice A' (El.parse b).2.segs.length c'], .int .i64 (El.parse b).1]) /\
  w'.ownsRow w.heap.size 58 6 (.slice A' (El.parse b).2.segs.length c') (El.parse b).2.segs.length (segCells (El.parse b).2.segs) /\ Below w.heap.size w w'
theorem tJa {b : List UInt8} {w w' : World} (h : El.parse b = (25, ⟨0, 0, 0, []⟩)) (hb : Below w.heap.size w w') : ParseEnd b w (.returned (.tuple #[noHead, .int .i64 25])) w' := by
 unfold ParseEnd
 rw [h]
 exact ⟨none, 0, rfl, World.ownsRow_nil _ _ _ _, hb⟩
theorem wJ9 {w w' : World} {base : Nat} {e : TypeId} {size n : Nat} {v : Value} {xs : List Value} (h : w.ownsRow base e size v n xs) (hk : ∀ g, base <= g -> g < w.heap.size -> w'.heap[g]? = w.heap[g]?) : w'.ownsRow base e size v n xs := by
 refine ⟨h.1, ?_⟩
 rcases h.2 with hn | ⟨g, cap, cur, hv, hb, hg, rest⟩
 ·exact .inl hn
 ·exact .inr ⟨g, cap, cur, hv, hb, (hk g hb (lt_of_block hg)).trans hg, rest⟩
theorem end_good {b : List UInt8} {w w' : World} {ty en ph n c' : Nat} {A' : Option Addr} {l : List El.Sg} (h : El.parse b = (0, El.headOf b)) (hd : El.headOf b = ⟨ty, en, ph, l⟩) (hl : l.length = n) (hown : w'.ownsRow (w.heap.size + 2) 58 6 (.slice A' n c') n (segCells l)) (hb : Below w.heap.size w w') :
  ParseEnd b w (.returned (.tuple #[.agg #[.int .u16 ty, .int .u64 en, .int .u64 ph, .slice A' n c'], .int .i64 0])) w' := by
 unfold ParseEnd
 rw [h, hd]
 subst hl
 exact ⟨A', c', rfl, zJh hown (by omega), hb⟩
set_option maxHeartbeats 4000000 in
set_option maxRecDepth 100000 in
theorem parse_notin (A : Option Addr) (m c : Nat) (b : List UInt8) (w : World) (hb : Rd w w.heap.size 1 A m (u8s b)) (hm : m <= 4294967296) (hmc : m <= c) (hh : El.hdrOk b = true) (hin : ¬ Wd.num b 32 8 + Wd.num b 56 2 * 56 <= m) :
  Calls Tryz.prog 14 #[.slice A m c] w (ParseEnd b w) := by
 have hmf : ∀ (fn : Fn) (first cap : Array Value) (w : World), (Instr.makeFunc fn first cap).run Tryz.prog w = .ok (.func fn first cap) w := fun _ _ _ _ => rfl
 have hpw : PW w (.int .u16 0) (.int .u64 0) (.int .u64 0) (.slice none 0 0) (.int .i64 0) ((w.alloc (.cells #[.int .u16 0, .int .u64 0, .int .u64 0, .slice none 0 0] 44)).alloc (.cells #[.int .i64 0] 35)) := PW.start w
 have hbl : b.length = m := by simpa using hb.len1
 have hpar := El.parse_notin hh (by rw [hbl]; exact hin)
 have h64 : 64 <= m := by
  have hh2 := hh
  unfold El.hdrOk at hh2
  simp only [Bool.and_eq_true, decide_eq_true_eq] at hh2
  omega
 have h8 : Wd.num b 56 2 <= 8 := by
  have hh2 := hh
  unfold El.hdrOk at hh2
  simp only [Bool.and_eq_true, decide_eq_true_eq] at hh2
  exact hh2.2.2
 have GH := zJ2 (fun (w' : World) (h : Below w.heap.size w w') => header_ok A m c w.heap.size b w' h.size (hb.below h) (by unfold maxLen; omega) hmc hh)
 have G1 := zJ2 (fun (w' : World) (h : Below w.heap.size w w') => wJn A m c w.heap.size b 16 2 2 rfl w' h.size (hb.below h) (by unfold maxLen; omega) (by omega) (by omega))
 have G2 := zJ2 (fun (w' : World) (h : Below w.heap.size w w') => wJn A m c w.heap.size b 24 8 8 rfl w' h.size (hb.below h) (by unfold maxLen; omega) (by omega) (by omega))
 have G3 := zJ2 (fun (w' : World) (h : Below w.heap.size w w') => wJn A m c w.heap.size b 32 8 8 rfl w' h.size (hb.below h) (by unfold maxLen; omega) (by omega) (by omega))
 have l0 : Wd.num b 16 2 < 65536 := Wd.num_lt _ _ _
 have l1 : Wd.num b 24 8 < 18446744073709551616 := Wd.num_lt _ _ _
 have l2 : Wd.num b 32 8 < 18446744073709551616 := Wd.num_lt _ _ _
 have Hpar := zJ2 hpar
 have Hpw := zJ2 hpw
 clear hpw hpar hh hb hbl
 generalize Wd.num b 16 2 = ty at *
 generalize Wd.num b 24 8 = en at *
 generalize Wd.num b 32 8 = ph at *
 generalize Wd.num b 56 2 = n at *
 have i1 : decide (((ph : Nat) : Int) + ((n : Nat) : Int) * 56 <= ((m : Nat) : Int)) = false := by simp; omega
 go_enter_defers Tryz.func14, Tryz.ntmps14
 go_wp2_with (first
  | (go_at_call 43; refine ((zJ1 GH) _ (zJ1 Hpw).below).mono ?_; rintro e w1 ⟨rfl, hx⟩; replace Hpw := zJ2 ((zJ1 Hpw).later hx); clear hx)
  | (go_at_call_of 44 (Value.int IntKind.u64 16); refine ((zJ1 G1) _ (zJ1 Hpw).below).mono ?_; rintro e w1 ⟨rfl, hx⟩; replace Hpw := zJ2 ((zJ1 Hpw).later hx); clear hx)
  | (go_at_call_of 44 (Value.int IntKind.u64 24); refine ((zJ1 G2) _ (zJ1 Hpw).below).mono ?_; rintro e w1 ⟨rfl, hx⟩; replace Hpw := zJ2 ((zJ1 Hpw).later hx); clear hx)
  | (go_at_call_of 44 (Value.int IntKind.u64 32); refine ((zJ1 G3) _ (zJ1 Hpw).below).mono ?_; rintro e w1 ⟨rfl, hx⟩; replace Hpw := zJ2 ((zJ1 Hpw).later hx); clear hx)
  | (go_at_call_of 45 (Value.bool true); refine (zJ8 _ _).mono ?_; rintro e w1 ⟨rfl, rfl⟩)
  | (go_at_call_of 45 (Value.bool false); refine (zJe _ _).mono ?_; rintro e w1 ⟨rfl, rfl⟩)
  | (go_at_call 46; refine (zJk _ _ _ _ (by omega) (by omega) (by omega) (by omega) (by omega)).mono ?_; rintro e w1 ⟨rfl, rfl⟩)
  | ((with_reducible refine (@id (wpList _ _ _ (Oper.mk none (Op.store 44 (.tmp 2) (.tmp 20)) _ _ _ none :: _) _ _) ?_)); refine wpList_store_row rfl 44 (.tmp 2) (.tmp 20) rfl w.heap.size #[.int .u16 ty, .int .u64 en, .int .u64 ph, .slice none 0 0] rfl rfl 44 _ (zJ1 Hpw).head wJg rfl (tJ5 _ _ _ _ _ _) ?_; replace Hpw := zJ2 ((zJ1 Hpw).setHead (a' := .int .u16 ty) (b' := .int .u64 en) (c' := .int .u64 ph) (d' := .slice none 0 0)); obtain ⟨q0, q1, q2, q3⟩ := zJc (zJ1 Hpw).head))
 all_goals exact wJl (zJ1 Hpw) rfl rfl fun w' hb => tJa (zJ1 Hpar) hb
set_option maxHeartbeats 8000000 in
set_option maxRecDepth 100000 in
theorem parse_in (A : Option Addr) (m c : Nat) (b : List UInt8) (w : World) (hb : Rd w w.heap.size 1 A m (u8s b)) (hm : m <= 4294967296) (hmc : m <= c) (hh : El.hdrOk b = true) (hin : Wd.num b 32 8 + Wd.num b 56 2 * 56 <= m) :
  Calls Tryz.prog 14 #[.slice A m c] w (ParseEnd b w) := by
 have hmf : ∀ (fn : Fn) (first cap : Array Value) (w : World), (Instr.makeFunc fn first cap).run Tryz.prog w = .ok (.func fn first cap) w := fun _ _ _ _ => rfl
 have hpw : PW w (.int .u16 0) (.int .u64 0) (.int .u64 0) (.slice none 0 0) (.int .i64 0) ((w.alloc (.cells #[.int .u16 0, .int .u64 0, .int .u64 0, .slice none 0 0] 44)).alloc (.cells #[.int .i64 0] 35)) := PW.start w
 have hbl : b.length = m := by simpa using hb.len1
 have h64 : 64 <= m := by
  have hh2 := hh
  unfold El.hdrOk at hh2
  simp only [Bool.and_eq_true, decide_eq_true_eq] at hh2
  omega
 have h8 : Wd.num b 56 2 <= 8 := by
  have hh2 := hh
  unfold El.hdrOk at hh2
  simp only [Bool.and_eq_true, decide_eq_true_eq] at hh2
  exact hh2.2.2
 have l0 : Wd.num b 16 2 < 65536 := Wd.num_lt _ _ _
 have l1 : Wd.num b 24 8 < 18446744073709551616 := Wd.num_lt _ _ _
 have l2 : Wd.num b 32 8 < 18446744073709551616 := Wd.num_lt _ _ _
 have GH := zJ2 (fun (w' : World) (h : Below w.heap.size w w') => header_ok A m c w.heap.size b w' h.size (hb.below h) (by unfold maxLen; omega) hmc hh)
 have G1 := zJ2 (fun (w' : World) (h : Below w.heap.size w w') => wJn A m c w.heap.size b 16 2 2 rfl w' h.size (hb.below h) (by unfold maxLen; omega) (by omega) (by omega))
 have G2 := zJ2 (fun (w' : World) (h : Below w.heap.size w w') => wJn A m c w.heap.size b 24 8 8 rfl w' h.size (hb.below h) (by unfold maxLen; omega) (by omega) (by omega))
 have G3 := zJ2 (fun (w' : World) (h : Below w.heap.size w w') => wJn A m c w.heap.size b 32 8 8 rfl w' h.size (hb.below h) (by unfold maxLen; omega) (by omega) (by omega))
 have GS := zJ2 (fun (k : Nat) (hk : k < Wd.num b 56 2) (w' : World) (h : Below w.heap.size w w') => segment_any A m c w.heap.size b (Wd.num b 32 8 + k * 56) (Wd.num b 16 2) w' h.size (hb.below h) (by unfold maxLen; omega) (by omega) (by omega) l0)
 have GW : Hid (∀ (A' : Option Addr) (c' B : Nat) (hr : El.readOk b (Wd.num b 56 2) = true) (w' : World) (hB : B <= w'.heap.size) (hl : Rd w' B 6 A' (Wd.num b 56 2) (segCells (El.segsOf b (Wd.num b 56 2)))),
   Calls Tryz.prog 49 #[.agg #[.int .u16 (Wd.num b 16 2), .int .u64 (Wd.num b 24 8), .int .u64 (Wd.num b 32 8), .slice A' (Wd.num b 56 2) c']] w' fun e w'' => e = Or3 (El.wholeOk (El.headOf b)) (.returned (.tuple #[])) (wrongs 25) /\ Below w'.heap.size w' w'') :=
  zJ2 fun A' c' B hr w' hB hl => whole_any A' (Wd.num b 56 2) c' B (El.headOf b) w' hB hl (by omega) (El.readOk_fit hr) l0 l1
 have P1 := zJ2 (fun (k : Nat) (hk : k < Wd.num b 56 2) (h : El.segOk b (Wd.num b 32 8 + k * 56) (Wd.num b 16 2) = false) => El.parse_badseg hh hk h)
 have P2 := zJ2 (fun (k : Nat) (hk : k < Wd.num b 56 2) (h1 : (El.segAt b (Wd.num b 32 8 + k * 56)).kind = 1) (ht : ¬ El.topAt b k <= (El.segAt b (Wd.num b 32 8 + k * 56)).addr) => El.parse_norise hh hk h1 ht)
 have P3 := zJ2 (El.parse_unwhole hh)
 have P4 := zJ2 (El.parse_good hh (by rw [hbl]; exact hin))
 have SS := zJ2 (fun k => El.segsOf_succ b k)
 have RL := zJ2 (fun (k : Nat) => El.readOk_load (b := b) (k := k))
 have RO := zJ2 (fun (k : Nat) => El.readOk_other (b := b) (k := k))
 have LE := zJ2 (fun (k : Nat) => El.load_end (b := b) (p := Wd.num b 32 8 + k * 56) (ty := Wd.num b 16 2))
 have FT := zJ2 (fun (k : Nat) => El.segAt_fit (b := b) (p := Wd.num b 32 8 + k * 56) (ty := Wd.num b 16 2))
 have SL := zJ2 (El.segsOf_len b (Wd.num b 56 2))
 have HD : Hid (El.headOf b = ⟨Wd.num b 16 2, Wd.num b 24 8, Wd.num b 32 8, El.segsOf b (Wd.num b 56 2)⟩) := zJ2 rfl
 have Hpw := zJ2 hpw
 clear hpw hh hb hbl
 generalize Wd.num b 16 2 = ty at *
 generalize Wd.num b 24 8 = en at *
 generalize Wd.num b 32 8 = ph at *
 generalize Wd.num b 56 2 = n at *
 have i1 : decide (((ph : Nat) : Int) + ((n : Nat) : Int) * 56 <= ((m : Nat) : Int)) = true := by simp; omega
 go_enter_defers Tryz.func14, Tryz.ntmps14
 go_wp2_with (first
  | (go_at_call 43; refine ((zJ1 GH) _ (zJ1 Hpw).below).mono ?_; rintro e w1 ⟨rfl, hx⟩; replace Hpw := zJ2 ((zJ1 Hpw).later hx); clear hx)
  | (go_at_call_of 44 (Value.int IntKind.u64 16); refine ((zJ1 G1) _ (zJ1 Hpw).below).mono ?_; rintro e w1 ⟨rfl, hx⟩; replace Hpw := zJ2 ((zJ1 Hpw).later hx); clear hx)
  | (go_at_call_of 44 (Value.int IntKind.u64 24); refine ((zJ1 G2) _ (zJ1 Hpw).below).mono ?_; rintro e w1 ⟨rfl, hx⟩; replace Hpw := zJ2 ((zJ1 Hpw).later hx); clear hx)
  | (go_at_call_of 44 (Value.int IntKind.u64 32); refine ((zJ1 G3) _ (zJ1 Hpw).below).mono ?_; rintro e w1 ⟨rfl, hx⟩; replace Hpw := zJ2 ((zJ1 Hpw).later hx); clear hx)
  | (go_at_call_of 45 (Value.bool true); refine (zJ8 _ _).mono ?_; rintro e w1 ⟨rfl, rfl⟩)
  | (go_at_call 46; refine (zJk _ _ _ _ (by omega) (by omega) (by omega) (by omega) (by omega)).mono ?_; rintro e w1 ⟨rfl, rfl⟩)
  | ((with_reducible refine (@id (wpList _ _ _ (Oper.mk none (Op.store 44 (.tmp 2) (.tmp 20)) _ _ _ none :: _) _ _) ?_)); refine wpList_store_row rfl 44 (.tmp 2) (.tmp 20) rfl w.heap.size #[.int .u16 ty, .int .u64 en, .int .u64 ph, .slice none 0 0] rfl rfl 44 _ (zJ1 Hpw).head wJg rfl (tJ5 _ _ _ _ _ _) ?_; replace Hpw := zJ2 ((zJ1 Hpw).setHead (a' := .int .u16 ty) (b' := .int .u64 en) (c' := .int .u64 ph) (d' := .slice none 0 0)); obtain ⟨q0, q1, q2, q3⟩ := zJc (zJ1 Hpw).head))
 clear q0 q1 q2 q3 i1 GH G1 G2 G3
 go_loopw [6, 31] (fun top i wr => ∃ (k T : Nat) (A' : Option Addr) (c' : Nat), k <= n /\ i = .int .u64 k /\ top = .int .u64 T /\ T = El.topAt b k /\ T < 18446744073709551616 /\ El.readOk b k = true /\
  wr.ownsRow (w.heap.size + 2) 58 6 (.slice A' k c') k (segCells (El.segsOf b k)) /\ PW w (.int .u16 ty) (.int .u64 en) (.int .u64 ph) (.slice A' k c') (.int .i64 0) wr) (fun _ i _ => n - (intOf i).toNat)
 case atStart => exact ⟨0, 0, none, 0, Nat.zero_le _, rfl, rfl, rfl, by omega, rfl, World.ownsRow_nil _ _ _ _, zJ1 Hpw⟩
 case round =>
 clear Hpw
 obtain ⟨k, T, A', c', hk, rfl, rfl, hT, hT2, hro, hown, hpw⟩ := hrel
 have HT := zJ2 hT
 have Hro := zJ2 hro
 have Hown := zJ2 hown
 have Hpw := zJ2 hpw
 have hsz := hpw.sz
 obtain ⟨q0, q1, q2, q3⟩ := zJc hpw.head
 clear hT hro hown hpw
 rcases Nat.lt_or_ge k n with hlt | hge
 case inr =>
  obtain rfl : k = n := by omega
  have gw := (zJ1 GW) A' c' wr.heap.size (zJ1 Hro) wr (Nat.le_refl _) (Rd.of_own (zJ1 Hown))
  cases hwo : El.wholeOk (El.headOf b)
  case false =>
   have hpar := (zJ1 P3) hwo
   rw [hwo] at gw
   have Gw := zJ2 gw
   have Hpar := zJ2 hpar
   clear gw hpar hwo
   go_wp2_with (go_at_call 49; refine (zJ1 Gw).mono ?_; rintro e w1 ⟨he, hx⟩; obtain rfl : e = wrongs 25 := he; replace Hpw := zJ2 ((zJ1 Hpw).later hx); clear hx)
   exact wJl (zJ1 Hpw) rfl rfl fun w' hb => tJa (zJ1 Hpar) hb
  case true =>
   have hpar := (zJ1 P4) (zJ1 Hro) hwo
   rw [hwo] at gw
   have Gw := zJ2 gw
   have Hpar := zJ2 hpar
   clear gw hpar hwo
   go_wp2_with (first
    | (go_at_call 49; refine (zJ1 Gw).mono ?_; rintro e w1 ⟨he, hx⟩; obtain rfl : e = .returned (.tuple #[]) := he; replace Hpw := zJ2 ((zJ1 Hpw).later hx); replace Hown := zJ2 (own_below (zJ1 Hown) hx); clear q0 q1 q2 q3)
    | ((with_reducible refine (@id (wpList _ _ _ (Oper.mk (some 69) (Op.load 44 (.tmp 2)) _ _ _ none :: _) _ _) ?_)); refine wpList_load_row rfl 44 (.tmp 2) rfl w.heap.size rfl 44 #[.int .u16 ty, .int .u64 en, .int .u64 ph, .slice A' k c'] (0, 0) _ (zJ1 Hpw).head Tryz.underlying44 rfl wJg ?_)
    | ((with_reducible refine (@id (wpList _ _ _ (Oper.mk none (Op.store 44 (.tmp 2) (.tmp 69)) _ _ _ none :: _) _ _) ?_)); refine wpList_store_row rfl 44 (.tmp 2) (.tmp 69) rfl w.heap.size #[.int .u16 ty, .int .u64 en, .int .u64 ph, .slice A' k c'] rfl rfl 44 _ (zJ1 Hpw).head wJg rfl (tJ5 _ _ _ _ _ _) ?_; replace Hpw := zJ2 ((zJ1 Hpw).setHead (a' := .int .u16 ty) (b' := .int .u64 en) (c' := .int .u64 ph) (d' := .slice A' k c')); replace Hown := zJ2 (wJ9 (zJ1 Hown) (fun g hg _ => setRow_other _ w.heap.size g #[.int .u16 ty, .int .u64 en, .int .u64 ph, .slice A' k c'] (by omega))); have q4 := cell_of_one (zJ1 Hpw).err; have q5 := free_of_one (zJ1 Hpw).err))
   have hf := (zJ1 Hpw).setErr (e' := .int .i64 0)
   exact door_ok hf rfl rfl (end_good (zJ1 Hpar) (zJ1 HD) (zJ1 SL) (wJ9 (zJ1 Hown) (fun g hg _ => Below.heap_setCell _ _ _ _ (by simp; omega))) hf.below)
 have gs := (zJ1 GS) k hlt
 rw [show ((ph + k * 56 : Nat) : Int) = (ph : Int) + (k : Int) * 56 from by omega] at gs
 cases hs : El.segOk b (ph + k * 56) ty
 case false =>
  have hpar := (zJ1 P1) k hlt hs
  simp only [hs, Bool.false_eq_true, if_false] at gs
  have Gs := zJ2 gs
  have Hpar := zJ2 hpar
  clear gs hpar hs
  go_wp2_with (go_at_call 47; refine ((zJ1 Gs) _ (zJ1 Hpw).below).mono ?_; rintro e ws ⟨rfl, hx⟩; replace Hpw := zJ2 ((zJ1 Hpw).later hx); clear hx)
  exact wJl (zJ1 Hpw) rfl rfl fun w' hb => tJa (zJ1 Hpar) hb
 case true =>
  simp only [hs, if_true, segVal] at gs
  have p2 := (zJ1 P2) k hlt
  have rl := (zJ1 RL) k (zJ1 Hro) hs
  have ro := (zJ1 RO) k (zJ1 Hro) hs
  have le := (zJ1 LE) k hs
  have ft := (zJ1 FT) k hs
  have ss := (zJ1 SS) k
  rw [<- zJ1 HT] at p2 rl
  generalize El.segAt b (ph + k * 56) = s at *
  obtain ⟨sk, sfl, so, sa, sf, sm⟩ := s
  obtain ⟨f1, f2, f3, f4, f5, f6⟩ := ft
  simp only at f1 f2 f3 f4 f5 f6 le rl ro p2 gs
  have Gs := zJ2 gs
  have P2' := zJ2 p2
  have Rl := zJ2 rl
  have Ro := zJ2 ro
  have Ss := zJ2 ss
  clear gs p2 rl ro ss hs
  by_cases h1 : sk = 1
  ·have le' := le h1
   have b1 : (((sk : Nat) : Int) == 1) = true := by simp; omega
   by_cases ht : T <= sa
   ·have b2 : decide (((T : Nat) : Int) <= ((sa : Nat) : Int)) = true := by simp; omega
    obtain ⟨hro2, hT3⟩ := (zJ1 Rl) h1 ht
    have Hro2 := zJ2 hro2
    have HT3 := zJ2 hT3
    clear hro2 hT3 le h1
    go_wp2_with (first
     | (go_at_call 47; refine ((zJ1 Gs) _ (zJ1 Hpw).below).mono ?_; rintro e ws ⟨rfl, hx⟩; replace Hown := zJ2 (own_below (zJ1 Hown) hx); replace Hpw := zJ2 ((zJ1 Hpw).later hx); clear hx; have hszs := (zJ1 Hpw).sz; clear q0 q1 q2 q3; obtain ⟨q0, q1, q2, q3⟩ := zJc (zJ1 Hpw).head; have r3 := (World.cell?_alloc_lt ws (.cells #[.int .u32 sk, .int .u8 sfl, .int .u64 so, .int .u64 sa, .int .u64 sf, .int .u64 sm] 58) ⟨w.heap.size, 3, none⟩ (by show w.heap.size < _; omega)).trans q3)
     | (go_at_call_of 45 (Value.bool true); refine (zJ8 _ _).mono ?_; rintro e w2 ⟨rfl, rfl⟩)
     | (go_at_call_of 45 (Value.bool false); refine (zJe _ _).mono ?_; rintro e w2 ⟨rfl, rfl⟩)
     | (go_at_call 48; refine (up_yes _ _ (by omega) (by omega)).mono ?_; rintro e w2 ⟨rfl, rfl⟩)
     | (at_builtin; refine zJl segTy rfl _ _ rfl (w.heap.size + 2) (.slice A' k c') k (segCells (El.segsOf b k)) rfl ((zJ1 Hown).alloc _) #[.int .u32 sk, .int .u8 sfl, .int .u64 so, .int .u64 sa, .int .u64 sf, .int .u64 sm] _ rfl (by simp) rfl (wJp ⟨sk, sfl, so, sa, sf, sm⟩) (by omega) (by simp; omega) ?_; intro A2 c2 wa hown' hgrow hat; replace Hpw := zJ2 ((zJ1 Hpw).later2 (((Below.refl _ _).alloc hszs _).grown hgrow (by simp; omega) (fun k hk => ((zJ1 Hown).lt k hk).1))); replace Hown := zJ2 hown'; clear hgrow hat hown' q0 q1 q2 q3 r3; obtain ⟨q0, q1, q2, q3⟩ := zJc (zJ1 Hpw).head; have q4 := frozen_of_row _ _ 3 _ _ (zJ1 Hpw).head))
    go_roundw
    case rel =>
     refine ⟨k + 1, El.up (sa + sm), A2, c2, by omega, by go_num, ?_, (zJ1 HT3).symm, ?_, zJ1 Hro2, ?_, (zJ1 Hpw).setSegs⟩
     ·unfold El.up; congr 1; omega
     ·unfold El.up; omega
     ·rw [zJ1 Ss, xJ6]
      exact wJ9 (zJ1 Hown) (fun g hg _ => Below.heap_setCell _ _ _ _ (by simp; omega))
    case measure => simp [intOf]; omega
   ·have b2 : decide (((T : Nat) : Int) <= ((sa : Nat) : Int)) = false := by simp; omega
    have hpar := (zJ1 P2') h1 ht
    have Hpar := zJ2 hpar
    clear hpar le h1
    go_wp2_with (first
     | (go_at_call 47; refine ((zJ1 Gs) _ (zJ1 Hpw).below).mono ?_; rintro e ws ⟨rfl, hx⟩; replace Hpw := zJ2 ((zJ1 Hpw).later hx); clear hx; have hszs := (zJ1 Hpw).sz)
     | (go_at_call_of 45 (Value.bool false); refine (zJe _ _).mono ?_; rintro e w2 ⟨rfl, rfl⟩))
    exact wJl ((zJ1 Hpw).later2 ((Below.refl _ _).alloc hszs _)) rfl rfl fun w' hb => tJa (zJ1 Hpar) hb
  ·have b1 : (((sk : Nat) : Int) == 1) = false := by simp; omega
   obtain ⟨hro2, hT3⟩ := (zJ1 Ro) h1
   have Hro2 := zJ2 hro2
   have HT3 := zJ2 (hT3.trans (zJ1 HT).symm)
   clear hro2 hT3 le h1
   go_wp2_with (first
    | (go_at_call 47; refine ((zJ1 Gs) _ (zJ1 Hpw).below).mono ?_; rintro e ws ⟨rfl, hx⟩; replace Hown := zJ2 (own_below (zJ1 Hown) hx); replace Hpw := zJ2 ((zJ1 Hpw).later hx); clear hx; have hszs := (zJ1 Hpw).sz; clear q0 q1 q2 q3; obtain ⟨q0, q1, q2, q3⟩ := zJc (zJ1 Hpw).head; have r3 := (World.cell?_alloc_lt ws (.cells #[.int .u32 sk, .int .u8 sfl, .int .u64 so, .int .u64 sa, .int .u64 sf, .int .u64 sm] 58) ⟨w.heap.size, 3, none⟩ (by show w.heap.size < _; omega)).trans q3)
    | (go_at_call_of 45 (Value.bool true); refine (zJ8 _ _).mono ?_; rintro e w2 ⟨rfl, rfl⟩)
    | (go_at_call_of 45 (Value.bool false); refine (zJe _ _).mono ?_; rintro e w2 ⟨rfl, rfl⟩)
    | (go_at_call 48; refine (up_yes _ _ (by omega) (by omega)).mono ?_; rintro e w2 ⟨rfl, rfl⟩)
    | (at_builtin; refine zJl segTy rfl _ _ rfl (w.heap.size + 2) (.slice A' k c') k (segCells (El.segsOf b k)) rfl ((zJ1 Hown).alloc _) #[.int .u32 sk, .int .u8 sfl, .int .u64 so, .int .u64 sa, .int .u64 sf, .int .u64 sm] _ rfl (by simp) rfl (wJp ⟨sk, sfl, so, sa, sf, sm⟩) (by omega) (by simp; omega) ?_; intro A2 c2 wa hown' hgrow hat; replace Hpw := zJ2 ((zJ1 Hpw).later2 (((Below.refl _ _).alloc hszs _).grown hgrow (by simp; omega) (fun k hk => ((zJ1 Hown).lt k hk).1))); replace Hown := zJ2 hown'; clear hgrow hat hown' q0 q1 q2 q3 r3; obtain ⟨q0, q1, q2, q3⟩ := zJc (zJ1 Hpw).head; have q4 := frozen_of_row _ _ 3 _ _ (zJ1 Hpw).head))
   go_roundw
   case rel =>
    refine ⟨k + 1, T, A2, c2, by omega, by go_num, rfl, (zJ1 HT3).symm, hT2, zJ1 Hro2, ?_, (zJ1 Hpw).setSegs⟩
    rw [zJ1 Ss, xJ6]
    exact wJ9 (zJ1 Hown) (fun g hg _ => Below.heap_setCell _ _ _ _ (by simp; omega))
   case measure => simp [intOf]; omega
theorem parse_any (A : Option Addr) (m c : Nat) (b : List UInt8) (w : World) (hb : Rd w w.heap.size 1 A m (u8s b)) (hm : m <= 4294967296) (hmc : m <= c) :
  Calls Tryz.prog 14 #[.slice A m c] w (ParseEnd b w) := by
 cases hh : El.hdrOk b
 ·refine (parse_nohdr A m c b w hb hm hmc hh).mono ?_
  rintro e w' ⟨rfl, hbl⟩
  unfold ParseEnd
  rw [show El.parse b = (13, ⟨0, 0, 0, []⟩) from by simp [El.parse, hh]]
  exact ⟨none, 0, rfl, World.ownsRow_nil _ _ _ _, hbl⟩
 ·by_cases hin : Wd.num b 32 8 + Wd.num b 56 2 * 56 <= m
  ·exact parse_in A m c b w hb hm hmc hh hin
  ·exact parse_notin A m c b w hb hm hmc hh hin
theorem uJ0 (A : Option Addr) (m c B : Nat) (b : List UInt8) (ty en ph : Nat) (l : List El.Sg) (w : World) (hB : B <= w.heap.size) (hb : Rd w B 1 A m (u8s b)) (hm : m <= 4294967296) (hmc : m <= c) (h : El.parse b = (0, ⟨ty, en, ph, l⟩)) :
  Calls Tryz.prog 14 #[.slice A m c] w fun e w' => ∃ A' c', e = .returned (.tuple #[.agg #[.int .u16 ty, .int .u64 en, .int .u64 ph, .slice A' l.length c'], .int .i64 0]) /\ Rd w' w'.heap.size 6 A' l.length (segCells l) /\ Below w.heap.size w w' := by
 refine (parse_any A m c b w (hb.more hB) hm hmc).mono ?_
 rintro e w' he
 unfold ParseEnd at he
 rw [h] at he
 obtain ⟨A', c', rfl, hown, hbl⟩ := he
 exact ⟨A', c', rfl, Rd.of_own hown, hbl⟩
namespace Mk
def xa : Spec := ⟨2, 4259840, ⟨#[]⟩, [195], [], 0, false, ⟨[], ⟨#[]⟩, ⟨#[]⟩, [], []⟩, 0⟩
def xb : Spec := ⟨2, 0, ⟨#[]⟩, [], [], 0, false, ⟨[], ⟨#[]⟩, ⟨#[]⟩, [], []⟩, 0⟩
theorem may_xa : may xa = 0 := by kernel_rfl
theorem may_xb : may xb = 1 := by kernel_rfl
theorem front_xa : (front2 xa).length = 232 := by kernel_rfl
theorem out_xa : (out2 xa).length = 4097 := by kernel_rfl
theorem file_xa : (file xa)[4096]? = some 195 := by kernel_rfl
theorem many_xa : many xa = 3 := by kernel_rfl
theorem made_xa : Made xa := ⟨tJ1 may_xa, by decide, by rw [front_xa]; omega, by rw [out_xa]; omega⟩
theorem make_xa : make xa = (file xa, 0) := by
 unfold make
 rw [if_neg (by rw [may_xa]; decide), if_neg (by rw [front_xa, out_xa]; omega)]
theorem make_xb : make xb = ([], 1) := by
 unfold make
 rw [if_pos (by rw [may_xb]; decide), may_xb]
end Mk
def sa (g : Nat) : Xq := ⟨Mk.xa, some ⟨g, 0, none⟩, 1, none, 0, none, 0, none, 0, none, 0⟩
def sb : Xq := ⟨Mk.xb, none, 0, none, 0, none, 0, none, 0, none, 0⟩
theorem fit_of (x : Mk.Spec) (At : Option Addr) (ct : Nat) (h1 : x.type < 65536) (h2 : x.entry < 18446744073709551616) (h3 : x.more < 18446744073709551616) (h4 : x.interp = ⟨#[]⟩) (h5 : x.text.length <= ct) (h6 : ct <= 1) (h7 : x.data = []) (h8 : x.dyn = ⟨[], ⟨#[]⟩, ⟨#[]⟩, [], []⟩) : MkFit ⟨x, At, ct, none, 0, none, 0, none, 0, none, 0⟩ := by
 obtain ⟨t, en, it, te, da, mo, dy, dn, ap⟩ := x
 subst h4 h7 h8
 refine ⟨⟨h1, h2, h3, Nat.zero_le _, Nat.le_trans h5 (Nat.le_trans h6 (by decide)), Nat.zero_le _, h5, Nat.le_refl _, ?_⟩, Nat.zero_le _, Nat.zero_le _, ?_, ?_, ?_⟩
 ·refine ⟨Nat.zero_le _, Nat.zero_le _, Nat.zero_le _, fun a ha => ?_, fun a ha => ?_, Nat.zero_le _, Nat.zero_le _, Nat.le_refl _, Nat.le_refl _, Nat.le_refl _⟩
  ·exact absurd ha (List.not_mem_nil (a := a))
  ·exact absurd ha (List.not_mem_nil (a := a))
 ·show (Mk.texts3 (⟨[], ⟨#[]⟩, ⟨#[]⟩, [], []⟩ : Mk.Dyn)).length <= 16777216
  decide
 ·intro y hy
  exact absurd hy (List.not_mem_nil (a := y))
 ·intro y hy
  exact absurd hy (List.not_mem_nil (a := y))
set_option maxRecDepth 100000 in
set_option maxHeartbeats 60000000 in
theorem works14_any (w : World) : Calls Tryz.prog 7 #[] w fun e w' => e = .returned (.bool true) /\ Below w.heap.size w w' := by
 have hb1 := zJ3 w (.cells #[.int .u8 195] 5)
 have e1 : (w.alloc (.cells #[.int .u8 195] 5)).heap.size = w.heap.size + 1 := by simp
 have hx1 : XqM (w.alloc (.cells #[.int .u8 195] 5)) (w.heap.size + 1) (sa w.heap.size) := ⟨Rd.row rfl, Rd.none_ _ _ _ _, ⟨Rd.none_ _ _ _ _, Rd.none_ _ _ _ _, Rd.none_ _ _ _ _⟩⟩
 have K1 : Hid (Calls Tryz.prog 9 #[.agg #[.int .u16 2, .int .u64 4259840, .string ⟨#[]⟩, .slice (some ⟨w.heap.size, 0, none⟩) 1 1, .slice none 0 0, .int .u64 0, .bool false, .slice none 0 0, .string ⟨#[]⟩, .string ⟨#[]⟩, .slice none 0 0, .slice none 0 0, .int .i64 0]] (w.alloc (.cells #[.int .u8 195] 5)) (MkE Mk.xa (w.alloc (.cells #[.int .u8 195] 5)))) := zJ2 (vJq (sa w.heap.size) (w.heap.size + 1) (w.alloc (.cells #[.int .u8 195] 5)) (by rw [e1]; exact Nat.le_refl _) hx1 (fit_of _ _ _ (by decide) (by decide) (by decide) rfl (Nat.le_refl _) (Nat.le_refl _) rfl rfl) (show 0 + 0 <= 1048576 from by decide))
 have K2 : Hid (∀ W, Calls Tryz.prog 9 #[.agg #[.int .u16 2, .int .u64 0, .string ⟨#[]⟩, .slice none 0 0, .slice none 0 0, .int .u64 0, .bool false, .slice none 0 0, .string ⟨#[]⟩, .string ⟨#[]⟩, .slice none 0 0, .slice none 0 0, .int .i64 0]] W (MkE Mk.xb W)) := zJ2 (fun W => vJq sb 0 W (Nat.zero_le _) ⟨Rd.none_ _ _ _ _, Rd.none_ _ _ _ _, ⟨Rd.none_ _ _ _ _, Rd.none_ _ _ _ _, Rd.none_ _ _ _ _⟩⟩ (fit_of _ _ _ (by decide) (by decide) (by decide) rfl (Nat.le_refl _) (Nat.zero_le _) rfl rfl) (show 0 + 0 <= 1048576 from by decide))
 have Hb1 := zJ2 hb1
 clear hb1 hx1 e1
 go_enter Tryz.func7, Tryz.ntmps7
 go_wp2_with fail
 refine (zJ1 K1).mono ?_
 rintro e w2 ⟨hb2, A, n, c, rfl, ho⟩
 generalize (w.alloc (.cells #[.int .u8 195] 5)) = W1 at *
 rw [Mk.make_xa] at ho ⊢
 have hn : n = 4097 := by
  have h1 := ho.1
  have h2 := Mk.file_len Mk.xa
  rw [Mk.out_xa] at h2
  simp [bys] at h1
  omega
 subst hn
 have hc := xJa ho
 obtain ⟨k, rfl, -, -⟩ := xJ9 ho (by omega)
 have hr := Rd.of_own ho
 have h96 := hr.2
 obtain ⟨b1, o1, hA, -, st⟩ := hr.at_ (k := 4096) (u := .int .u8 195) (by simp [bys, Mk.file_xa])
 have KP := zJ2 (uJ0 (some ⟨k, 0, none⟩) 4097 c w2.heap.size (Mk.file Mk.xa) 2 4259840 64 ((Mk.rows Mk.xa).map Mk.sg) w2 (Nat.le_refl _) hr (by omega) hc (Mk.parse_file Mk.made_xa))
 injection hA with hA
 injection hA with hA1 hA2
 subst hA1 hA2
 rw [Nat.zero_add] at st
 have hkl := (zJ7 ho _ rfl).2
 have hl3 : ((Mk.rows Mk.xa).map Mk.sg).length = 3 := by rw [List.length_map, yJd, Mk.many_xa]
 rw [hl3] at KP
 have Hbw2 := zJ2 ((zJ1 Hb1).trans (hb2.mono (zJ1 Hb1).size))
 have Hst := zJ2 st
 clear hb2 ho hr h96 hl3 K1 Hb1 hc st
 go_wp2_with fail
 refine (zJ1 KP).mono ?_
 rintro e w3 ⟨A3, c3, rfl, -, hb3⟩
 have hst3 := (hb3.cell (p := ⟨k, 4096, none⟩) hkl).trans (zJ1 Hst)
 have hH := Blk.new w3 44 [.int .u16 2, .int .u64 4259840, .int .u64 64, .slice A3 3 c3]
 have hb4 := zJ3 w3 (.cells #[.int .u16 2, .int .u64 4259840, .int .u64 64, .slice A3 3 c3] 44)
 have hst4 := (hb4.cell (p := ⟨k, 4096, none⟩) (by have := hb3.size; show k < _; omega)).trans hst3
 have K2' := zJ2 ((zJ1 K2) (w3.alloc (.cells #[.int .u16 2, .int .u64 4259840, .int .u64 64, .slice A3 3 c3] 44)))
 have Hbw4 := zJ2 ((zJ1 Hbw2).trans ((hb3.trans (hb4.mono hb3.size)).mono (zJ1 Hbw2).size))
 have HH : Hid (Blk (w3.alloc (.cells #[.int .u16 2, .int .u64 4259840, .int .u64 64, .slice A3 3 c3] 44)) w3.heap.size 44 [.int .u16 2, .int .u64 4259840, .int .u64 64, .slice A3 3 c3]) := zJ2 hH
 have Hst4 := zJ2 hst4
 have hk4 : k < (w3.alloc (.cells #[.int .u16 2, .int .u64 4259840, .int .u64 64, .slice A3 3 c3] 44)).heap.size := by have := hb3.size; have := hb4.size; omega
 have Hk4 := zJ2 hk4
 clear hst3 hH hb4 hst4 hb3 KP K2 hk4
 go_wp2_with fail
 refine (zJ1 K2').mono ?_
 rintro e w5 ⟨hb5, A5, n5, c5, rfl, -⟩
 generalize (w3.alloc (.cells #[.int .u16 2, .int .u64 4259840, .int .u64 64, .slice A3 3 c3] 44)) = W4 at *
 rw [Mk.make_xb]
 have z1 := ((zJ1 HH).belowSz hb5).cell (i := 1) rfl
 have z3 := ((zJ1 HH).belowSz hb5).cell (i := 3) rfl
 have st5 := (hb5.cell (p := ⟨k, 4096, none⟩) (zJ1 Hk4)).trans (zJ1 Hst4)
 have Hbw5 := zJ2 ((zJ1 Hbw4).trans (hb5.mono (zJ1 Hbw4).size))
 clear hb5 K2'
 go_wp2_with fail
 go_ret
 exact ⟨rfl, zJ1 Hbw5⟩
open Go.RowKit
set_option maxRecDepth 100000 in
theorem rbase14_any (k : Nat) (w : World) : Calls Tryz.prog 18 #[.int .u16 k] w fun e w' => e = .returned (.int .u64 (if k = 2 then 4194304 else 0 : Nat)) /\ w = w' := by
 by_cases h : k = 2
 ·subst h
  go_enter Tryz.func18, Tryz.ntmps18
  go_wp2_with fail
  go_ret
  exact ⟨rfl, rfl⟩
 ·have h1 : (((k : Nat) : Int) == 2) = false := by rw [beq_eq_false_iff_ne]; omega
  rw [if_neg h]
  clear h
  go_enter Tryz.func18, Tryz.ntmps18
  go_wp2_with fail
  go_ret
  exact ⟨rfl, rfl⟩
structure RB where
 A : Option Addr
 n : Nat
 c : Nat
 xs : List UInt8
abbrev RB.v (r : RB) : Value := .slice r.A r.n r.c
def RB.ok (r : RB) (w : World) (base : Nat) : Prop := w.ownsRow base 5 1 r.v r.n (bys r.xs)
def nilSl : Value := .slice none 0 0
def done (D : List RB) (N : Nat) : List Value := D.map RB.v ++ List.replicate (N - D.length) nilSl
structure ApS (w wr : World) (base G gl : Nat) (R D E : List RB) : Prop where
 bel : Below base w wr
 hgl : w.heap.size < gl
 size : gl < wr.heap.size
 all : Blk wr G 24 (R.map RB.v)
 was : wr.ownsRow w.heap.size 24 1 (.slice (some ⟨w.heap.size, 0, none⟩) R.length R.length) R.length (done D R.length)
 long : wr.ownsRow w.heap.size 24 1 (.slice (some ⟨gl, 0, none⟩) R.length R.length) R.length (done E R.length)
 rows : ∀ (j : Nat) r, R[j]? = some r -> r.ok wr base
 ds : ∀ (j : Nat) d r, D[j]? = some d -> R[j]? = some r -> d.n = r.n /\ d.xs = r.xs /\ d.ok wr (gl + 1)
 es : ∀ (j : Nat) d r, E[j]? = some d -> R[j]? = some r -> d.n = r.n + 40 /\ d.xs = r.xs ++ List.replicate 40 (UInt8.ofNat (j + 1)) /\ d.ok wr base /\ ∀ g, d.v.ownBlock = some g -> r.v.ownBlock = some g \/ gl + 1 <= g
structure ApG (w : World) (base G : Nat) (R : List RB) : Prop where
 lo : base <= w.heap.size
 all : Blk w G 24 (R.map RB.v)
 rows : ∀ (j : Nat) r, R[j]? = some r -> r.ok w base
 len : ∀ (j : Nat) r, R[j]? = some r -> r.n <= 4294967296
 G : ∀ (j : Nat) r, R[j]? = some r -> r.v.ownBlock ≠ some G
 pair : ∀ (i j : Nat) r s, R[i]? = some r -> R[j]? = some s -> i ≠ j -> ∀ g, r.v.ownBlock = some g -> s.v.ownBlock ≠ some g
 few : R.length <= 200
theorem ApG.lt {w : World} {base G j : Nat} {R : List RB} (h : ApG w base G R) {r : RB} (hr : R[j]? = some r) {g : Nat} (hg : r.v.ownBlock = some g) : g < w.heap.size := ((h.rows j r hr).lt g hg).2
theorem vJu {w : World} {base : Nat} {e : TypeId} {size n : Nat} {v : Value} {xs : List Value} (h : w.ownsRow base e size v n xs) {p : Addr} (hp : ∀ g, v.ownBlock = some g -> g ≠ p.block) (u : Value) : (w.setCell p u).ownsRow base e size v n xs := by
 refine ⟨h.1, h.2.imp id ?_⟩
 rintro ⟨g, cap, cur, e1, e2, e3, r⟩
 exact ⟨g, cap, cur, e1, e2, (heap_setCell_other _ _ _ _ (by have := hp g (by rw [e1]; rfl); omega)).trans e3, r⟩
section
variable {w wr w' : World} {base G gl : Nat} {R D E : List RB} {r d : RB}
theorem RB.ok.below {B : Nat} (h : r.ok wr B) (hb : Below wr.heap.size wr w') : r.ok w' B := own_below h hb
theorem RB.ok.lo {B : Nat} (h : r.ok wr B) {g : Nat} (hg : r.v.ownBlock = some g) : B <= g := (h.lt g hg).1
theorem ApS.below (h : ApS w wr base G gl R D E) (q : ApG w base G R) (hb : Below wr.heap.size wr w') : ApS w w' base G gl R D E :=
 ⟨h.bel.trans (hb.mono (by have := h.size; have := h.hgl; have := q.lo; omega)), h.hgl, Nat.lt_of_lt_of_le h.size hb.size, h.all.belowSz hb, own_below h.was hb, own_below h.long hb, fun j r hr => (h.rows j r hr).below hb,
  fun j d r h1 h2 => by obtain ⟨a, b, c⟩ := h.ds j d r h1 h2; exact ⟨a, b, c.below hb⟩,
  fun j d r h1 h2 => by obtain ⟨a, b, c, e⟩ := h.es j d r h1 h2; exact ⟨a, b, c.below hb, e⟩⟩
theorem ApS.gone (h : ApS w wr base G gl R D E) (q : ApG w base G R) (hk : R[E.length]? = some r) {mark : UInt8} {A' : Option Addr} {c' : Nat} (hg : Gone wr w' base r.A r.n r.c r.xs mark 40 A' c') : ApS w w' base G gl R D E := by
 have hG := q.all.lt
 have hgl := h.hgl
 have hsz := hg.grew.kept.size
 have hrk := q.rows _ _ hk
 have hl : base <= wr.heap.size := by have := h.size; have := q.lo; omega
 refine ⟨h.bel.trans (hg.grew.below hl (fun k hk' => hrk.lo hk')), h.hgl, Nat.lt_of_lt_of_le h.size hsz, hg.grew.blk (by have := h.size; omega) (q.G _ _ hk) h.all, xJ2 h.was hg.grew.kept (fun g hg => ?_), xJ2 h.long hg.grew.kept (fun g hg => ?_), fun j s hs => ?_, fun j x s h1 h2 => ?_, fun j x s h1 h2 => ?_⟩
 ·simp [Value.ownBlock] at hg
  intro e
  have := q.lt hk e
  omega
 ·simp [Value.ownBlock] at hg
  intro e
  have := q.lt hk e
  omega
 ·by_cases hj : j = E.length
  ·subst hj
   rw [hk] at hs
   injection hs with hs
   subst hs
   exact hg.keeps
  ·exact xJ2 (h.rows j s hs) hg.grew.kept (fun g hg => q.pair j E.length s r hs hk hj g hg)
 ·obtain ⟨a, b, c⟩ := h.ds j x s h1 h2
  exact ⟨a, b, xJ2 c hg.grew.kept (fun g hg e => by have := c.lo hg; have := q.lt hk e; omega)⟩
 ·obtain ⟨a, b, c, e⟩ := h.es j x s h1 h2
  have hj : j < E.length := (List.getElem?_eq_some_iff.1 h1).1
  refine ⟨a, b, xJ2 c hg.grew.kept (fun g hg e2 => ?_), e⟩
  rcases e g hg with h3 | h3
  ·exact q.pair j E.length s r h2 hk (by omega) g h3 e2
  ·have := q.lt hk e2; omega
theorem ApS.drewN (h : ApS w wr base G gl R D E) (m : Nat) : ApS w (wr.drewN m) base G gl R D E := ⟨below_drewN' h.bel m, h.hgl, h.size, h.all, h.was, h.long, h.rows, h.ds, h.es⟩
structure ApX (w wr : World) (base G gl : Nat) (R D : List RB) (k : Nat) : Prop where
 bel : Below base w wr
 hgl : w.heap.size < gl
 all : Blk wr G 24 (R.map RB.v)
 was : wr.ownsRow w.heap.size 24 1 (.slice (some ⟨w.heap.size, 0, none⟩) R.length R.length) R.length (done D R.length)
 rows : ∀ (j : Nat) r, k <= j -> R[j]? = some r -> r.ok wr base
 ds : ∀ (j : Nat) d r, D[j]? = some d -> R[j]? = some r -> d.n = r.n /\ d.xs = r.xs /\ d.ok wr (gl + 1)
theorem ApS.x (h : ApS w wr base G gl R D E) : ApX w wr base G gl R D 0 := ⟨h.bel, h.hgl, h.all, h.was, fun j r _ hr => h.rows j r hr, h.ds⟩
theorem ApX.drewN {k : Nat} (h : ApX w wr base G gl R D k) (m : Nat) : ApX w (wr.drewN m) base G gl R D k := ⟨below_drewN' h.bel m, h.hgl, h.all, h.was, h.rows, h.ds⟩
theorem ApX.next {k : Nat} (h : ApX w wr base G gl R D k) : ApX w wr base G gl R D (k + 1) := ⟨h.bel, h.hgl, h.all, h.was, fun j r hj hr => h.rows j r (by omega) hr, h.ds⟩
theorem ApX.set {k g o : Nat} (h : ApX w wr base G gl R D (k + 1)) (q : ApG w base G R) (hk : R[k]? = some r) (hg : r.v.ownBlock = some g) (u : Value) : ApX w (wr.setCell ⟨g, o, none⟩ u) base G gl R D (k + 1) := by
 have h1 := q.lt hk hg
 have h2 := (q.rows _ _ hk).lo hg
 have h3 := h.hgl
 refine ⟨h.bel.setCell h2 u, h.hgl, h.all.other (fun e => q.G _ _ hk (by rw [hg]; exact congrArg some e)) _, vJu h.was (fun g' hg' => ?_) _, fun j s hj hs => vJu (h.rows j s hj hs) (fun g' hg' e => ?_) _, fun j x s h4 h5 => ?_⟩
 ·simp [Value.ownBlock] at hg'
  simp
  omega
 ·simp at e
  subst e
  exact q.pair j k s r hs hk (by omega) _ hg' hg
 ·obtain ⟨a, b, c⟩ := h.ds j x s h4 h5
  exact ⟨a, b, vJu c (fun g' hg' => by have := c.lo hg'; simp; omega) _⟩
end
open Go.RowKit
end Go.Proofs.YtnbecdahfgkffaaGreat
