/- Package value, walked: which values are good, which are the same. -/
import Derived.Test.YtjnhgfmjehaalaaE3
import Derived.Laws.Externs
import Derived.Handy
import Derived.BigRegion
import Derived.Deep.RegionHeld3
import Derived.Deep.QuietTactic
import Derived.BigQuiet
namespace Go.Proofs.Ytjnhgfmjehaalaa
open Go.RowKit
set_option linter.unusedVariables false
def nanB (b : Nat) : Bool := FloatKind.f64.format.order b b != some Ordering.eq
/-- a float by its bits, every NaN by one's -/
def codeB (b : Nat) : Nat := if nanB b then 9221120237041090561 else b
theorem f64bits_run (b : Nat) (W : World) : (callFunc 95 #[.float .f64 b]).run Try.prog W = .ok (.value (.int .u64 (b : Int))) W :=
  (run_callFunc_extern (e := Extern.MathFloatBits.float64bits) Try.func95 (by kernel_rfl) (by kernel_rfl) (by kernel_rfl) (by kernel_rfl) _ W).trans rfl
section
variable {w : World}
theorem isNaN_c (b : Nat) : Calls Try.prog 96 #[.float .f64 b] w fun e w' => e = .returned (.bool (nanB b)) ∧ w = w' := by
  go_enter Try.func96, Try.ntmps96
  go_wp2_with fail
  go_ret
  exact ⟨rfl, rfl⟩
theorem code_c (b : Nat) : Calls Try.prog 101 #[.float .f64 b] w fun e w' => e = .returned (.int .u64 (codeB b : Nat)) ∧ w = w' := by
  have FB := f64bits_run
  have E := Lib.hid (show codeB b = if nanB b then 9221120237041090561 else b from rfl)
  cases hn : nanB b
  · go_enter Try.func101, Try.ntmps101
    go_wp2_with (go_at_call 96; refine (isNaN_c b).mono ?_; rintro e w' ⟨rfl, rfl⟩; rw [hn])
    go_ret
    rw [E.out, hn]
    exact ⟨rfl, rfl⟩
  · go_enter Try.func101, Try.ntmps101
    go_wp2_with (go_at_call 96; refine (isNaN_c b).mono ?_; rintro e w' ⟨rfl, rfl⟩; rw [hn])
    go_ret
    rw [E.out, hn]
    exact ⟨rfl, rfl⟩
def sameV (a b : Val) : Bool := (a.kind == b.kind && a.int == b.int && a.bool == b.bool && a.text == b.text) && (codeB a.num == codeB b.num)
theorem quiet_left {P : Program} {f : FuncId} {args : Array Value} {w : World} {n : Nat} {v : Value}
    (h : Calls P f args (w.drewN n) fun e w' => e = .returned v ∧ w.drewN n = w') : Calls P f args (w.drewN n) fun e w'' => e = .returned v ∧ ∃ m, w'' = w.drewN m :=
  h.mono fun _ _ ⟨he, hm⟩ => ⟨he, n, hm.symm⟩
theorem run_equalIn_f64 {P : Program} (W : World) (d : Nat) (t : TypeId) (a b : Nat) (h : P.underlying t = some (.float .f64)) : (Op.equalIn (d + 1) t (.float .f64 a) (.float .f64 b)).run P W = .ok (Op.floatEq .f64 a b) W := by
  simp [Op.equalIn, run_underlying h]
theorem eql_f64 (W : World) (a b : Nat) : (Op.equalIn 9999 34 (.float .f64 a) (.float .f64 b)).run Try.prog W = .ok (Op.floatEq .f64 a b) W := run_equalIn_f64 W 9998 _ a b Try.underlying34
set_option maxRecDepth 20000 in
set_option maxHeartbeats 2000000 in
theorem same_c (x y : Val) : Calls Try.prog 89 #[.agg #[.int .i64 x.kind, .int .i64 x.int, .bool x.bool, .string ⟨x.text.toArray⟩, .float .f64 x.num], .agg #[.int .i64 y.kind, .int .i64 y.int, .bool y.bool, .string ⟨y.text.toArray⟩, .float .f64 y.num]] w (Ret w (.bool (sameV x y))) := by
  have SF := store_f64
  have E : sameV x y = ((x.kind == y.kind && x.int == y.int && x.bool == y.bool && x.text == y.text) && (codeB x.num == codeB y.num)) := rfl
  obtain ⟨k, i, b, t, n⟩ := x
  obtain ⟨k', i', b', t', n'⟩ := y
  simp only at *
  have EF : ∀ W : World, (Op.equalIn 9999 34 (.float .f64 0) (.float .f64 0)).run Try.prog W = .ok true W := fun W => eql_f64 W 0 0
  by_cases hne : k = k' ∧ i = i' ∧ b = b' ∧ t = t'
  · obtain ⟨rfl, rfl, rfl, rfl⟩ := hne
    simp only [beq_self_eq_true, Bool.true_and] at E
    replace E := Lib.hid E
    go_enter Try.func89, Try.ntmps89
    go_wp2_with fail
    go_quiet ((first | (go_at_call 101; exact quiet_left (code_c _))))
    generalize codeB n = ca at *
    generalize codeB n' = cb at *
    go_wp2_with fail
    go_ret
    rw [E.out, show ((ca : Int) == (cb : Int)) = (ca == cb) by rw [Bool.eq_iff_iff, beq_iff_eq, beq_iff_eq]; omega]
    exact ⟨rfl, by (go_grown; try exact below_drewN (by go_grown) _)⟩
  · replace E := Lib.hid (E.trans (by
      rw [Bool.and_eq_false_iff]
      left
      rw [← Bool.not_eq_true]
      simp only [Bool.and_eq_true, beq_iff_eq]
      intro hh
      exact hne ⟨hh.1.1.1, hh.1.1.2, hh.1.2, hh.2⟩ : _ = false))
    go_enter Try.func89, Try.ntmps89
    go_wp2_with fail
    go_quiet ((first | (go_at_call 101; exact quiet_left (code_c _))))
    generalize codeB n = ca at *
    generalize codeB n' = cb at *
    go_wp2_with fail
    all_goals first
      | (exfalso; apply hne; refine ⟨?_, ?_, ?_, ?_⟩ <;> assumption)
      | (go_ret; rw [E.out]; exact ⟨rfl, by (go_grown; try exact below_drewN (by go_grown) _)⟩)
/-- what is of a value's kind -/
def partV (v : Val) : Val := if v.kind = 1 then ⟨1, v.int, false, [], 0⟩ else if v.kind = 2 then ⟨2, 0, v.bool, [], 0⟩ else if v.kind = 3 then ⟨3, 0, false, v.text, 0⟩ else if v.kind = 4 then ⟨4, 0, false, [], v.num⟩ else ⟨v.kind, 0, false, [], 0⟩
def isK (k : Int) : Bool := k == 1 || k == 2 || k == 3 || k == 4
theorem part_c (v : Val) : Calls Try.prog 88 #[.agg #[.int .i64 v.kind, .int .i64 v.int, .bool v.bool, .string ⟨v.text.toArray⟩, .float .f64 v.num]] w (Ret w (.tuple #[.agg #[.int .i64 (partV v).kind, .int .i64 (partV v).int, .bool (partV v).bool, .string ⟨(partV v).text.toArray⟩, .float .f64 (partV v).num], .bool (isK v.kind)])) := by
  have SF := store_f64
  obtain ⟨k, i, b, t, n⟩ := v
  simp only
  by_cases h1 : k = 1
  · subst h1
    rw [show partV ⟨1, i, b, t, n⟩ = ⟨1, i, false, [], 0⟩ from rfl, show isK 1 = true from rfl]
    go_enter Try.func88, Try.ntmps88
    go_wp2_with fail
    exact bodyPost_ret (v := .tuple #[.agg #[.int .i64 1, .int .i64 i, .bool false, .string ⟨#[]⟩, .float .f64 0], .bool true]) (by simp [results, Try.results88, go_sem]) rfl ⟨rfl, by go_grown⟩
  by_cases h2 : k = 2
  · subst h2
    rw [show partV ⟨2, i, b, t, n⟩ = ⟨2, 0, b, [], 0⟩ from rfl, show isK 2 = true from rfl]
    go_enter Try.func88, Try.ntmps88
    go_wp2_with fail
    exact bodyPost_ret (v := .tuple #[.agg #[.int .i64 2, .int .i64 0, .bool b, .string ⟨#[]⟩, .float .f64 0], .bool true]) (by simp [results, Try.results88, go_sem]) rfl ⟨rfl, by go_grown⟩
  by_cases h3 : k = 3
  · subst h3
    rw [show partV ⟨3, i, b, t, n⟩ = ⟨3, 0, false, t, 0⟩ from rfl, show isK 3 = true from rfl]
    go_enter Try.func88, Try.ntmps88
    go_wp2_with fail
    exact bodyPost_ret (v := .tuple #[.agg #[.int .i64 3, .int .i64 0, .bool false, .string ⟨t.toArray⟩, .float .f64 0], .bool true]) (by simp [results, Try.results88, go_sem]) rfl ⟨rfl, by go_grown⟩
  by_cases h4 : k = 4
  · subst h4
    rw [show partV ⟨4, i, b, t, n⟩ = ⟨4, 0, false, [], n⟩ from rfl, show isK 4 = true from rfl]
    go_enter Try.func88, Try.ntmps88
    go_wp2_with fail
    exact bodyPost_ret (v := .tuple #[.agg #[.int .i64 4, .int .i64 0, .bool false, .string ⟨#[]⟩, .float .f64 n], .bool true]) (by simp [results, Try.results88, go_sem]) rfl ⟨rfl, by go_grown⟩
  have e1 : partV ⟨k, i, b, t, n⟩ = ⟨k, 0, false, [], 0⟩ := by unfold partV; simp only; rw [if_neg h1, if_neg h2, if_neg h3, if_neg h4]
  have e2 : isK k = false := by unfold isK; simp [h1, h2, h3, h4]
  rw [e1, e2]
  clear e1 e2
  go_enter Try.func88, Try.ntmps88
  go_wp2_with fail
  exact bodyPost_ret (v := .tuple #[.agg #[.int .i64 k, .int .i64 0, .bool false, .string ⟨#[]⟩, .float .f64 0], .bool false]) (by simp [results, Try.results88, go_sem]) rfl ⟨rfl, by go_grown⟩
end
end Go.Proofs.Ytjnhgfmjehaalaa
