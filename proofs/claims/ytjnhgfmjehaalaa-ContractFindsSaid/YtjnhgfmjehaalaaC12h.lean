/- Chapter 6: the reference's Check of expressions: each operation. -/
import Derived.Test.YtjnhgfmjehaalaaC11
namespace Go.Proofs.Ytjnhgfmjehaalaa
open Go.RowKit
set_option linter.unusedVariables false
set_option linter.unusedSimpArgs false
theorem len1 {α : Type} {l : List α} (h : l.length = 1) : ∃ a, l = [a] := by match l, h with | [a], _ => exact ⟨a, rfl⟩
theorem len2 {α : Type} {l : List α} (h : l.length = 2) : ∃ a b, l = [a, b] := by match l, h with | [a, b], _ => exact ⟨a, b, rfl⟩
theorem len3 {α : Type} {l : List α} (h : l.length = 3) : ∃ a b c, l = [a, b, c] := by match l, h with | [a, b, c], _ => exact ⟨a, b, c, rfl⟩
theorem addz0 (ad : Addr) : ad.add 0 = ad := by unfold Addr.add; simp
theorem addn0 (ad : Addr) (k : Nat) (h : 0 < k) : ad.add k = ⟨ad.block, ad.off + k, none⟩ := by unfold Addr.add; rw [if_neg (by omega)]
theorem icell {ok : Nat → Prop} {W : World} {ad : Addr} {n c : Nat} {ks : List Int} (h : Sl kI ok W (.slice (some ad) n c) ks) {i : Nat} {x : Int} (hx : ks[i]? = some x) : W.cell? (ad.add i) = some (.int .i64 x) := by
  obtain ⟨ad', cs, e, _, hr, hc⟩ := h.at_ hx
  injection e with e
  subst e
  have hr' : cs = [.int .i64 x] := hr
  have := hc 0 (.int .i64 x) (by rw [hr']; rfl)
  simpa [kI, kInt, scalar] using this
theorem iaddr {ok : Nat → Prop} {W : World} {A : Option Addr} {n c : Nat} {ks : List Int} (h : Sl kI ok W (.slice A n c) ks) (hn : 0 < n) : ∃ ad, A = some ad := by
  have hl := h.len.1
  obtain ⟨ad, cs, e, _⟩ := h.at_ (List.getElem?_eq_getElem (show 0 < ks.length by omega))
  exact ⟨ad, e⟩
section
variable {w : World}
end
end Go.Proofs.Ytjnhgfmjehaalaa
