/- Package message, walked. -/
import Derived.Test.YtplpmhlakiikgaaDt
namespace Go.Proofs.Ytplpmhlakiikgaa
open Go.RowKit
set_option linter.unusedVariables false
section
variable {ok : Nat → Prop} {w : World}
/-- of a kind: its fields, the least view and number, the longest batch; none: there is no such kind -/
def shp (k : Int) : Option (Int × Int × Int × Int) :=
  if k = 1 then some (20, 0, 1, 7) else if k = 2 then some (75, 0, 1, 4) else if k = 3 then some (11, 0, 1, 7) else if k = 4 then some (11, 0, 1, 7) else if k = 5 then some (10, 0, 1, 7)
  else if k = 6 then some (323, 1, 0, 7) else if k = 7 then some (193, 1, 1, 7) else if k = 8 then some (37, 0, 1, 7) else if k = 9 then some (2, 0, 0, 7) else if k = 10 then some (256, 0, 1, 7) else if k = 11 then some (82, 0, 1, 7) else none
def RetShp (w : World) (k : Int) (e : Ending) (w' : World) : Prop :=
  (∃ a b c d, e = .returned (.tuple #[.agg #[.int .i64 a, .int .i64 b, .int .i64 c, .int .i64 d], .bool (shp k).isSome]) ∧ (∀ q, shp k = some q → q = (a, b, c, d))) ∧ Below w.heap.size w w'
theorem shapeOf_1 : Calls Try.prog 19 #[.int .i64 1] w (RetShp w 1) := by
  go_enter Try.func19, Try.ntmps19
  go_wp2
  exact bodyPost_ret (v := .tuple #[.agg #[.int .i64 20, .int .i64 0, .int .i64 1, .int .i64 7], .bool true]) (by simp [results, Try.results19, go_sem]) rfl ⟨⟨_, _, _, _, rfl, fun q hq => (Option.some.inj hq).symm⟩, by go_grown⟩
theorem shapeOf_2 : Calls Try.prog 19 #[.int .i64 2] w (RetShp w 2) := by
  have b0 : Go.bits BinOp.or IntKind.i64 0 64 = 64 := by decide
  have b1 : Go.bits BinOp.or IntKind.i64 64 1 = 65 := by decide
  have b2 : Go.bits BinOp.or IntKind.i64 65 10 = 75 := by decide
  go_enter Try.func19, Try.ntmps19
  go_wp2
  exact bodyPost_ret (v := .tuple #[.agg #[.int .i64 75, .int .i64 0, .int .i64 1, .int .i64 4], .bool true]) (by simp [results, Try.results19, go_sem]) rfl ⟨⟨_, _, _, _, rfl, fun q hq => (Option.some.inj hq).symm⟩, by go_grown⟩
theorem shapeOf_3 : Calls Try.prog 19 #[.int .i64 3] w (RetShp w 3) := by
  have b0 : Go.bits BinOp.or IntKind.i64 0 1 = 1 := by decide
  have b1 : Go.bits BinOp.or IntKind.i64 1 10 = 11 := by decide
  go_enter Try.func19, Try.ntmps19
  go_wp2
  exact bodyPost_ret (v := .tuple #[.agg #[.int .i64 11, .int .i64 0, .int .i64 1, .int .i64 7], .bool true]) (by simp [results, Try.results19, go_sem]) rfl ⟨⟨_, _, _, _, rfl, fun q hq => (Option.some.inj hq).symm⟩, by go_grown⟩
theorem shapeOf_4 : Calls Try.prog 19 #[.int .i64 4] w (RetShp w 4) := by
  have b0 : Go.bits BinOp.or IntKind.i64 0 1 = 1 := by decide
  have b1 : Go.bits BinOp.or IntKind.i64 1 10 = 11 := by decide
  go_enter Try.func19, Try.ntmps19
  go_wp2
  exact bodyPost_ret (v := .tuple #[.agg #[.int .i64 11, .int .i64 0, .int .i64 1, .int .i64 7], .bool true]) (by simp [results, Try.results19, go_sem]) rfl ⟨⟨_, _, _, _, rfl, fun q hq => (Option.some.inj hq).symm⟩, by go_grown⟩
theorem shapeOf_5 : Calls Try.prog 19 #[.int .i64 5] w (RetShp w 5) := by
  have b0 : Go.bits BinOp.or IntKind.i64 0 10 = 10 := by decide
  go_enter Try.func19, Try.ntmps19
  go_wp2
  exact bodyPost_ret (v := .tuple #[.agg #[.int .i64 10, .int .i64 0, .int .i64 1, .int .i64 7], .bool true]) (by simp [results, Try.results19, go_sem]) rfl ⟨⟨_, _, _, _, rfl, fun q hq => (Option.some.inj hq).symm⟩, by go_grown⟩
theorem shapeOf_6 : Calls Try.prog 19 #[.int .i64 6] w (RetShp w 6) := by
  go_enter Try.func19, Try.ntmps19
  go_wp2
  exact bodyPost_ret (v := .tuple #[.agg #[.int .i64 323, .int .i64 1, .int .i64 0, .int .i64 7], .bool true]) (by simp [results, Try.results19, go_sem]) rfl ⟨⟨_, _, _, _, rfl, fun q hq => (Option.some.inj hq).symm⟩, by go_grown⟩
theorem shapeOf_7 : Calls Try.prog 19 #[.int .i64 7] w (RetShp w 7) := by
  go_enter Try.func19, Try.ntmps19
  go_wp2
  exact bodyPost_ret (v := .tuple #[.agg #[.int .i64 193, .int .i64 1, .int .i64 1, .int .i64 7], .bool true]) (by simp [results, Try.results19, go_sem]) rfl ⟨⟨_, _, _, _, rfl, fun q hq => (Option.some.inj hq).symm⟩, by go_grown⟩
theorem shapeOf_8 : Calls Try.prog 19 #[.int .i64 8] w (RetShp w 8) := by
  go_enter Try.func19, Try.ntmps19
  go_wp2
  exact bodyPost_ret (v := .tuple #[.agg #[.int .i64 37, .int .i64 0, .int .i64 1, .int .i64 7], .bool true]) (by simp [results, Try.results19, go_sem]) rfl ⟨⟨_, _, _, _, rfl, fun q hq => (Option.some.inj hq).symm⟩, by go_grown⟩
theorem shapeOf_9 : Calls Try.prog 19 #[.int .i64 9] w (RetShp w 9) := by
  go_enter Try.func19, Try.ntmps19
  go_wp2
  exact bodyPost_ret (v := .tuple #[.agg #[.int .i64 2, .int .i64 0, .int .i64 0, .int .i64 7], .bool true]) (by simp [results, Try.results19, go_sem]) rfl ⟨⟨_, _, _, _, rfl, fun q hq => (Option.some.inj hq).symm⟩, by go_grown⟩
theorem shapeOf_10 : Calls Try.prog 19 #[.int .i64 10] w (RetShp w 10) := by
  go_enter Try.func19, Try.ntmps19
  go_wp2
  exact bodyPost_ret (v := .tuple #[.agg #[.int .i64 256, .int .i64 0, .int .i64 1, .int .i64 7], .bool true]) (by simp [results, Try.results19, go_sem]) rfl ⟨⟨_, _, _, _, rfl, fun q hq => (Option.some.inj hq).symm⟩, by go_grown⟩
theorem shapeOf_11 : Calls Try.prog 19 #[.int .i64 11] w (RetShp w 11) := by
  go_enter Try.func19, Try.ntmps19
  go_wp2
  exact bodyPost_ret (v := .tuple #[.agg #[.int .i64 82, .int .i64 0, .int .i64 1, .int .i64 7], .bool true]) (by simp [results, Try.results19, go_sem]) rfl ⟨⟨_, _, _, _, rfl, fun q hq => (Option.some.inj hq).symm⟩, by go_grown⟩
theorem shapeOf_none (k : Int) (e : shp k = none) (n1 : (k == 1) = false) (n2 : (k == 2) = false) (n3 : (k == 3) = false) (n4 : (k == 4) = false) (n5 : (k == 5) = false) (n6 : (k == 6) = false) (n7 : (k == 7) = false) (n8 : (k == 8) = false) (n9 : (k == 9) = false) (n10 : (k == 10) = false) (n11 : (k == 11) = false) : Calls Try.prog 19 #[.int .i64 k] w (RetShp w k) := by
  unfold RetShp
  rw [e]
  clear e
  go_enter Try.func19, Try.ntmps19
  go_wp2
  exact bodyPost_ret (v := .tuple #[.agg #[.int .i64 0, .int .i64 0, .int .i64 1, .int .i64 7], .bool false]) (by simp [results, Try.results19, go_sem]) rfl ⟨⟨_, _, _, _, rfl, fun q hq => by cases hq⟩, by go_grown⟩
theorem shapeOf_c (k : Int) : Calls Try.prog 19 #[.int .i64 k] w (RetShp w k) := by
  by_cases h1 : k = 1
  · subst h1; exact shapeOf_1
  by_cases h2 : k = 2
  · subst h2; exact shapeOf_2
  by_cases h3 : k = 3
  · subst h3; exact shapeOf_3
  by_cases h4 : k = 4
  · subst h4; exact shapeOf_4
  by_cases h5 : k = 5
  · subst h5; exact shapeOf_5
  by_cases h6 : k = 6
  · subst h6; exact shapeOf_6
  by_cases h7 : k = 7
  · subst h7; exact shapeOf_7
  by_cases h8 : k = 8
  · subst h8; exact shapeOf_8
  by_cases h9 : k = 9
  · subst h9; exact shapeOf_9
  by_cases h10 : k = 10
  · subst h10; exact shapeOf_10
  by_cases h11 : k = 11
  · subst h11; exact shapeOf_11
  exact shapeOf_none k (by simp only [shp, h1, h2, h3, h4, h5, h6, h7, h8, h9, h10, h11, if_false]) (by simpa using h1) (by simpa using h2) (by simpa using h3) (by simpa using h4) (by simpa using h5) (by simpa using h6) (by simpa using h7) (by simpa using h8) (by simpa using h9) (by simpa using h10) (by simpa using h11)
end
end Go.Proofs.Ytplpmhlakiikgaa
