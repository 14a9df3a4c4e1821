/- string(b) of bytes that are read; parts of what is read. No conditions. -/
import Derived.Test.YtphbkjdheopmhaaBytes
import Derived.Laws.BytesArg
import Derived.Laws.IdiomStrings
namespace Go.Proofs.Ytphbkjdheopmhaa
set_option linter.unusedVariables false
set_option linter.unusedSimpArgs false
open Go.RowKit

theorem Rd.sub {w : World} {B n : Nat} {b1 o1 : Nat} {xs : List Value} (h : Rd w B 1 (some ⟨b1, o1, none⟩) n xs) {off k : Nat} (hk : off + k ≤ n) : Rd w B 1 (some ⟨b1, o1 + off, none⟩) k ((xs.drop off).take k) := by
  have hl := h.len1
  refine ⟨by simp; omega, ?_⟩
  rcases h.2 with h0 | ⟨b, o, e, hb, hc⟩
  · exact .inl (by simp [h0])
  · obtain ⟨rfl, rfl⟩ : b1 = b ∧ o1 = o := by injection e with e; injection e with h1 h2 h3; exact ⟨h1, h2⟩
    refine .inr ⟨b1, o1 + off, rfl, hb, fun j u hu => ?_⟩
    by_cases hj : j < k
    · rw [List.getElem?_take_of_lt hj, List.getElem?_drop] at hu
      rw [Nat.add_assoc]
      exact hc _ _ hu
    · rw [List.getElem?_take_eq_none (by omega)] at hu
      cases hu

theorem conv_any {P : Program} {w : World} {B n c : Nat} {A : Option Addr} {l : List UInt8} {src dst e : TypeId} (h : Rd w B 1 A n (bys l)) (hs : P.underlying src = some (.slice e)) (he : P.underlying e = some (.int .u8)) (hd : P.underlying dst = some .string) :
    (convert src dst (.slice A n c)).run P w = .ok (.string ⟨l.toArray⟩) w := by
  have hl : l.length = n := by simpa [bys] using h.len1
  subst hl
  cases A with
  | none =>
    have h0 : l = [] := by
      rcases h.2 with h0 | ⟨b, o, e1, _⟩
      · simpa [bys] using h0
      · cases e1
    subst h0
    exact run_convert_bytes_nil w src e hs he _ c dst hd
  | some ad =>
    refine run_convert_bytes_back w src dst e ad c l hs he hd fun j hj => ?_
    obtain ⟨b, o, e1, _, hc⟩ := h.at_ (k := j) (u := .int .u8 (l[j].toNat : Nat)) (bys_at (List.getElem?_eq_getElem hj))
    injection e1 with e1
    subst e1
    rw [Addr.add_lit]
    exact hc
end Go.Proofs.Ytphbkjdheopmhaa
