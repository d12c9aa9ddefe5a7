/- Bytes put are read again: numbers, texts, values: the plain law. -/
import Derived.Test.YtjnhgfmjehaalaaGreatV4
import Derived.Test.YtjnhgfmjehaalaaGreatMK
namespace Go.Proofs.YtjnhgfmjehaalaaGreat
open Go.RowKit
set_option linter.unusedVariables false
set_option linter.unusedSimpArgs false
theorem s64_i64 (n : Nat) : i64 (s64 n) := by unfold i64 s64 wrap64; omega
/-! ### there -/
end Go.Proofs.YtjnhgfmjehaalaaGreat
