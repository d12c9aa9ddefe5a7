/- Errors of the readers are errors. -/
import Derived.Test.YtijlamajcdekkaaV4
namespace Go.Proofs.Ytijlamajcdekkaa
open Go.RowKit
set_option linter.unusedVariables false
set_option linter.unusedSimpArgs false
theorem vX_err {s : RS} {x : Int} (h : vX s = .error x) : x ≠ 0 := by
  unfold vX at h
  split at h
  · cases h
  · split at h
    · cases h
    · injection h with h; subst h; assumption
theorem gX_err : ∀ (d : Nat) {N : Int} {s : RS} {x : Int}, gX d N s = .error x → x ≠ 0
  | 0, _, _, x, h => by injection h with h; subst h; decide
  | d + 1, N, s, x, h => by
    rw [gX] at h
    by_cases hN : N ≤ 0
    · rw [if_pos hN] at h; injection h with h; subst h; decide
    rw [if_neg hN] at h
    unfold gTail at h
    split at h
    · injection h with h; subst h; assumption
    split at h
    · injection h with h; subst h; rename_i hv; exact vX_err hv
    rename_i p hp
    have key : ∀ (i : Nat) (y : Int), gI (gX d) (N - 1) p.2 i = .error y → y ≠ 0 := by
      intro i
      induction i with
      | zero => intro y h; cases h
      | succ i ih =>
        intro y h
        rw [gI] at h
        split at h
        · injection h with h; subst h; rename_i hv; exact ih _ hv
        · split at h
          · injection h with h; subst h; rename_i hv; exact gX_err d hv
          · cases h
    split at h
    · injection h with h; subst h; rename_i hv; exact key _ _ hv
    · cases h
theorem gE_err {s : RS} {x : Int} (h : gE s = .error x) : x ≠ 0 := by
  unfold gE at h
  split at h
  · injection h with h; subst h; assumption
  · split at h
    · injection h with h; subst h; rename_i hv; exact gX_err 6 hv
    · cases h
end Go.Proofs.Ytijlamajcdekkaa
