/- Package value, walked: what is reckoned with ints. -/
import Derived.Test.YtjnhgfmjehaalaaE5
import Derived.Laws.FloatArith
namespace Go.Proofs.Ytjnhgfmjehaalaa
open Go.RowKit
set_option linter.unusedVariables false
def wU (x : Int) : Int := IntKind.u64.wrap x
theorem wU_lt (x : Int) : 0 ≤ wU x ∧ wU x < 18446744073709551616 := by unfold wU; rw [IntKind.wrap_u64]; omega
def lowU (x : Int) : Int := Go.bits .and .u64 x 4294967295
def mulT (x y : Int) : Int := wU (wU (x / 4294967296 * lowU y) + wU (lowU x * lowU y) / 4294967296)
def mulHi (x y : Int) : Int := wU (wU (wU (x / 4294967296 * (y / 4294967296)) + mulT x y / 4294967296) + wU (Go.bits .and .u64 (mulT x y) 4294967295 + wU (lowU x * (y / 4294967296))) / 4294967296)
def mulLo (x y : Int) : Int := wU (x * y)
section
variable {w : World}
def sizeI (x : Int) : Int := if x < 0 then wU (-wU x) else wU x
def prodF (a b : Int) : Int × Bool :=
  if (!decide (a < 0) == decide (b < 0)) then (wrap64 (-wrap64 (mulLo (sizeI a) (sizeI b))), decide (mulHi (sizeI a) (sizeI b) = 0) && decide (mulLo (sizeI a) (sizeI b) ≤ 9223372036854775808))
  else (wrap64 (mulLo (sizeI a) (sizeI b)), decide (mulHi (sizeI a) (sizeI b) = 0) && decide (mulLo (sizeI a) (sizeI b) < 9223372036854775808))
theorem wrap64_i64 (x : Int) : i64 (wrap64 x) := by unfold i64 wrap64; omega
theorem prodF_i64 (a b : Int) : i64 (prodF a b).1 := by unfold prodF; split <;> exact wrap64_i64 _
def okd (ok : Bool) (n : Int) : Int × Int := if ok then (n, 0) else (0, 41)
def intsF (op a b : Int) : Int × Int :=
  if op = 4 then okd ((decide (a < wrap64 (a + b)) == decide (0 < b)) || b == 0) (wrap64 (a + b))
  else if op = 5 then okd ((decide (wrap64 (a - b) < a) == decide (0 < b)) || b == 0) (wrap64 (a - b))
  else if op = 6 then okd (prodF a b).2 (prodF a b).1
  else if op = 7 then if b = 0 then (0, 42) else okd (!(a == -9223372036854775808) || !(b == -1)) (wrap64 (a.tdiv b))
  else if op = 14 then (if b < a then b else a, 0) else if op = 15 then (if a < b then b else a, 0) else (0, 0)
/-- the operations that reckon -/
def isR (op : Int) : Prop := op = 4 ∨ op = 5 ∨ op = 6 ∨ op = 7 ∨ op = 14 ∨ op = 15
theorem okd_i64 (ok : Bool) (n : Int) (h : i64 n) : i64 (okd ok n).1 ∧ ((okd ok n).2 = 0 ∨ (okd ok n).2 = 41) := by
  have z : i64 0 := by unfold i64; omega
  cases ok
  · exact ⟨z, .inr rfl⟩
  · exact ⟨h, .inl rfl⟩
theorem intsF_i64 (op a b : Int) (ha : i64 a) (hb : i64 b) : i64 (intsF op a b).1 ∧ ((intsF op a b).2 = 0 ∨ (intsF op a b).2 = 41 ∨ (intsF op a b).2 = 42) := by
  have z : i64 0 := by unfold i64; omega
  have k : ∀ ok n, i64 n → i64 (okd ok n).1 ∧ ((okd ok n).2 = 0 ∨ (okd ok n).2 = 41 ∨ (okd ok n).2 = 42) := fun ok n h => by
    have := okd_i64 ok n h
    exact ⟨this.1, by rcases this.2 with h | h; exact .inl h; exact .inr (.inl h)⟩
  unfold intsF
  split
  · exact k _ _ (wrap64_i64 _)
  · split
    · exact k _ _ (wrap64_i64 _)
    · split
      · exact k _ _ (prodF_i64 a b)
      · split
        · split
          · exact ⟨z, .inr (.inr rfl)⟩
          · exact k _ _ (wrap64_i64 _)
        · split
          · refine ⟨?_, .inl rfl⟩
            simp only
            split
            · exact hb
            · exact ha
          · split
            · refine ⟨?_, .inl rfl⟩
              simp only
              split
              · exact hb
              · exact ha
            · exact ⟨z, .inl rfl⟩
end
end Go.Proofs.Ytjnhgfmjehaalaa
