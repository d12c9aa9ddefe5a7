/- Package value, walked: what is reckoned with floats. -/
import Derived.Test.YtjnhgfmjehaalaaE6
namespace Go.Proofs.Ytjnhgfmjehaalaa
open Go.RowKit
set_option linter.unusedVariables false
/-- the bits of whatever NaN -/
def nanT (t : Nat) : Nat := (t % 2) * 2 ^ 63 + 0x7ff0000000000000 + 1 + (t / 2) % (2 ^ 52 - 1)
theorem nan_mod (a c : Nat) (ha : a < 2) (hc : c < 4503599627370495) : (a * 9223372036854775808 + 9218868437227405312 + 1 + c) % 9223372036854775808 = 9218868437227405313 + c := by omega
theorem nanT_nan (t : Nat) : nanB (nanT t) = true := by
  have h : (FloatKind.f64.format.read (nanT t)).isNaN = true := by
    have hw : FloatKind.f64.format.signWeight = 9223372036854775808 := by rfl
    have hi : FloatKind.f64.format.infRung = 9218868437227405312 := by rfl
    have hb : FloatKind.f64.format.binade = 4503599627370496 := by rfl
    have e : nanT t % 9223372036854775808 = 9218868437227405313 + (t / 2) % 4503599627370495 := nan_mod _ _ (Nat.mod_lt _ (by decide)) (Nat.mod_lt _ (by decide))
    have hc : (t / 2) % 4503599627370495 < 4503599627370495 := Nat.mod_lt _ (by decide)
    unfold Ieee.Format.read
    rw [hw, hi, hb]
    simp only
    rw [e]
    generalize (t / 2) % 4503599627370495 = c at hc
    rw [if_neg (by omega), if_neg (by omega), if_neg (by omega)]
    rfl
  unfold nanB Ieee.Format.order
  cases hd : FloatKind.f64.format.read (nanT t) with
  | nan s f => rfl
  | number s m p => rw [hd] at h; cases h
  | infinity s => rw [hd] at h; cases h
theorem codeB_nan (t : Nat) : codeB (nanT t) = 9221120237041090561 := by unfold codeB; rw [nanT_nan]; rfl
/-- what comes of two floats, by its bits, every NaN by one's -/
def codeO (r : Option Nat) : Nat := match r with | some r => codeB r | none => 9221120237041090561
section
variable {w : World}
def RetNum (w : World) (c : Nat) (e : Ending) (w' : World) : Prop := ∃ r, e = .returned (.float .f64 r) ∧ codeB r = c ∧ Below w.heap.size w w'
theorem run_float_nan {P : Program} (op : BinOp) (t : TypeId) (x y : Nat) (hop : op = .add ∨ op = .sub ∨ op = .mul ∨ op = .quo) (h : floatBits op .f64 x y = none) (w : World) : ∃ q, (binOp op t (.float .f64 x) (.float .f64 y)).run P w = .ok (.float .f64 (nanT q)) w.drew := by
  refine ⟨w.tape w.drawn (.nanBits .f64 x y), ?_⟩
  unfold floatBits at h
  rcases hop with rfl | rfl | rfl | rfl <;> simp only at h <;> simp [binOp, Op.floatArith, h, Question.forced, Question.cut, nanT]
def minO (k : Bool) (a b : Nat) : Option Nat := match FloatKind.f64.format.order a b with
  | none => none
  | some .lt => some (if k then b else a)
  | some .gt => some (if k then a else b)
  | some .eq => some (if (FloatKind.f64.decode a).neg then (if k then b else a) else (if k then a else b))
def numsC (op : Int) (a b : Nat) : Nat :=
  if op = 4 then codeO (floatBits .add .f64 a b) else if op = 5 then codeO (floatBits .sub .f64 a b) else if op = 6 then codeO (floatBits .mul .f64 a b) else if op = 7 then codeO (floatBits .quo .f64 a b)
  else if op = 14 then codeO (minO false a b) else codeO (minO true a b)
theorem run_min_f64 (a b : Nat) (W : World) : (∃ r, minO false a b = some r ∧ ∀ w : World, (Builtin.min_ #[34, 34] 34 #[.float .f64 a, .float .f64 b]).run Try.prog w = .ok (.float .f64 r) w) ∨
    (minO false a b = none ∧ ∃ q, (Builtin.min_ #[34, 34] 34 #[.float .f64 a, .float .f64 b]).run Try.prog W = .ok (.float .f64 (nanT q)) W.drew) := by
  unfold minO
  cases ho : FloatKind.f64.format.order a b with
  | none => exact .inr ⟨rfl, W.tape W.drawn (.nanMinMax .f64 false a b), by simp [Builtin.min_, Builtin.min2, ho, Question.forced, Question.cut, nanT]⟩
  | some o =>
    left
    cases o with
    | lt => exact ⟨_, rfl, fun w => by simp [Builtin.min_, Builtin.min2, ho]⟩
    | gt => exact ⟨_, rfl, fun w => by simp [Builtin.min_, Builtin.min2, ho]⟩
    | eq => exact ⟨_, rfl, fun w => by simp [Builtin.min_, Builtin.min2, ho]⟩
theorem run_max_f64 (a b : Nat) (W : World) : (∃ r, minO true a b = some r ∧ ∀ w : World, (Builtin.max_ #[34, 34] 34 #[.float .f64 a, .float .f64 b]).run Try.prog w = .ok (.float .f64 r) w) ∨
    (minO true a b = none ∧ ∃ q, (Builtin.max_ #[34, 34] 34 #[.float .f64 a, .float .f64 b]).run Try.prog W = .ok (.float .f64 (nanT q)) W.drew) := by
  unfold minO
  cases ho : FloatKind.f64.format.order a b with
  | none => exact .inr ⟨rfl, W.tape W.drawn (.nanMinMax .f64 true a b), by simp [Builtin.max_, Builtin.max2, ho, Question.forced, Question.cut, nanT]⟩
  | some o =>
    left
    cases o with
    | lt => exact ⟨_, rfl, fun w => by simp [Builtin.max_, Builtin.max2, ho]⟩
    | gt => exact ⟨_, rfl, fun w => by simp [Builtin.max_, Builtin.max2, ho]⟩
    | eq => exact ⟨_, rfl, fun w => by simp [Builtin.max_, Builtin.max2, ho]⟩
end
end Go.Proofs.Ytjnhgfmjehaalaa
