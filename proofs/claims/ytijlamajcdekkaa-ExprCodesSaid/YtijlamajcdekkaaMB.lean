/- Texts that go together. -/
import Derived.Test.YtijlamajcdekkaaMA
import Derived.Laws.Externs
import Derived.Handy
import Derived.BigRegion
import Derived.Deep.RegionHeld3
import Derived.Deep.QuietTactic
import Derived.BigQuiet
import Derived.Laws.FloatArith
import Derived.Recover
/- Package value, walked: which values are good, which are the same. -/
namespace Go.Proofs.Ytijlamajcdekkaa
open Go.RowKit
set_option linter.unusedVariables false
def nanB (b : Nat) : Bool := FloatKind.f64.format.order b b != some Ordering.eq
/-- a float by its bits, every NaN by one's -/
def codeB (b : Nat) : Nat := if nanB b then 9221120237041090561 else b
theorem f64bits_run (b : Nat) (W : World) : (callFunc 60 #[.float .f64 b]).run Try.prog W = .ok (.value (.int .u64 (b : Int))) W :=
  (run_callFunc_extern (e := Extern.MathFloatBits.float64bits) Try.func60 (by kernel_rfl) (by kernel_rfl) (by kernel_rfl) (by kernel_rfl) _ W).trans rfl
theorem f64from_run (n : Int) (W : World) : (callFunc 100 #[.int .u64 n]).run Try.prog W = .ok (.value (.float .f64 n.toNat)) W :=
  (run_callFunc_extern (e := Extern.MathFloatBits.float64frombits) Try.func100 (by kernel_rfl) (by kernel_rfl) (by kernel_rfl) (by kernel_rfl) _ W).trans rfl
section
variable {w : World}
theorem isNaN_c (b : Nat) : Calls Try.prog 99 #[.float .f64 b] w fun e w' => e = .returned (.bool (nanB b)) ∧ w = w' := by
  go_enter Try.func99, Try.ntmps99
  go_wp2_with fail
  go_ret
  exact ⟨rfl, rfl⟩
theorem code_c (b : Nat) : Calls Try.prog 77 #[.float .f64 b] w fun e w' => e = .returned (.int .u64 (codeB b : Nat)) ∧ w = w' := by
  have FB := f64bits_run
  have E := Lib.hid (show codeB b = if nanB b then 9221120237041090561 else b from rfl)
  cases hn : nanB b
  · go_enter Try.func77, Try.ntmps77
    go_wp2_with (go_at_call 99; refine (isNaN_c b).mono ?_; rintro e w' ⟨rfl, rfl⟩; rw [hn])
    go_ret
    rw [E.out, hn]
    exact ⟨rfl, rfl⟩
  · go_enter Try.func77, Try.ntmps77
    go_wp2_with (go_at_call 99; refine (isNaN_c b).mono ?_; rintro e w' ⟨rfl, rfl⟩; rw [hn])
    go_ret
    rw [E.out, hn]
    exact ⟨rfl, rfl⟩
def sameV (a b : Val) : Bool := (a.kind == b.kind && a.int == b.int && a.bool == b.bool && a.text == b.text) && (codeB a.num == codeB b.num)
theorem quiet_left {P : Program} {f : FuncId} {args : Array Value} {w : World} {n : Nat} {v : Value}
    (h : Calls P f args (w.drewN n) fun e w' => e = .returned v ∧ w.drewN n = w') : Calls P f args (w.drewN n) fun e w'' => e = .returned v ∧ ∃ m, w'' = w.drewN m :=
  h.mono fun _ _ ⟨he, hm⟩ => ⟨he, n, hm.symm⟩
theorem run_equalIn_f64 {P : Program} (W : World) (d : Nat) (t : TypeId) (a b : Nat) (h : P.underlying t = some (.float .f64)) : (Op.equalIn (d + 1) t (.float .f64 a) (.float .f64 b)).run P W = .ok (Op.floatEq .f64 a b) W := by
  simp [Op.equalIn, run_underlying h]
theorem eql_f64 (W : World) (a b : Nat) : (Op.equalIn 9999 23 (.float .f64 a) (.float .f64 b)).run Try.prog W = .ok (Op.floatEq .f64 a b) W := run_equalIn_f64 W 9998 _ a b Try.underlying23
set_option maxRecDepth 20000 in
set_option maxHeartbeats 2000000 in
theorem same_c (x y : Val) : Calls Try.prog 48 #[.agg #[.int .i64 x.kind, .int .i64 x.int, .bool x.bool, .string ⟨x.text.toArray⟩, .float .f64 x.num], .agg #[.int .i64 y.kind, .int .i64 y.int, .bool y.bool, .string ⟨y.text.toArray⟩, .float .f64 y.num]] w (Ret w (.bool (sameV x y))) := by
  have SF := store_f64
  have E : sameV x y = ((x.kind == y.kind && x.int == y.int && x.bool == y.bool && x.text == y.text) && (codeB x.num == codeB y.num)) := rfl
  obtain ⟨k, i, b, t, n⟩ := x
  obtain ⟨k', i', b', t', n'⟩ := y
  simp only at *
  have EF : ∀ W : World, (Op.equalIn 9999 23 (.float .f64 0) (.float .f64 0)).run Try.prog W = .ok true W := fun W => eql_f64 W 0 0
  by_cases hne : k = k' ∧ i = i' ∧ b = b' ∧ t = t'
  · obtain ⟨rfl, rfl, rfl, rfl⟩ := hne
    simp only [beq_self_eq_true, Bool.true_and] at E
    replace E := Lib.hid E
    go_enter Try.func48, Try.ntmps48
    go_wp2_with fail
    go_quiet ((first | (go_at_call 77; exact quiet_left (code_c _))))
    generalize codeB n = ca at *
    generalize codeB n' = cb at *
    go_wp2_with fail
    go_ret
    rw [E.out, show ((ca : Int) == (cb : Int)) = (ca == cb) by rw [Bool.eq_iff_iff, beq_iff_eq, beq_iff_eq]; omega]
    exact ⟨rfl, by (go_grown; try exact below_drewN (by go_grown) _)⟩
  · replace E := Lib.hid (E.trans (by
      rw [Bool.and_eq_false_iff]
      left
      rw [← Bool.not_eq_true]
      simp only [Bool.and_eq_true, beq_iff_eq]
      intro hh
      exact hne ⟨hh.1.1.1, hh.1.1.2, hh.1.2, hh.2⟩ : _ = false))
    go_enter Try.func48, Try.ntmps48
    go_wp2_with fail
    go_quiet ((first | (go_at_call 77; exact quiet_left (code_c _))))
    generalize codeB n = ca at *
    generalize codeB n' = cb at *
    go_wp2_with fail
    all_goals first
      | (exfalso; apply hne; refine ⟨?_, ?_, ?_, ?_⟩ <;> assumption)
      | (go_ret; rw [E.out]; exact ⟨rfl, by (go_grown; try exact below_drewN (by go_grown) _)⟩)
/-- what is of a value's kind -/
def partV (v : Val) : Val := if v.kind = 1 then ⟨1, v.int, false, [], 0⟩ else if v.kind = 2 then ⟨2, 0, v.bool, [], 0⟩ else if v.kind = 3 then ⟨3, 0, false, v.text, 0⟩ else if v.kind = 4 then ⟨4, 0, false, [], v.num⟩ else ⟨v.kind, 0, false, [], 0⟩
def isK (k : Int) : Bool := k == 1 || k == 2 || k == 3 || k == 4
theorem part_c (v : Val) : Calls Try.prog 52 #[.agg #[.int .i64 v.kind, .int .i64 v.int, .bool v.bool, .string ⟨v.text.toArray⟩, .float .f64 v.num]] w (Ret w (.tuple #[.agg #[.int .i64 (partV v).kind, .int .i64 (partV v).int, .bool (partV v).bool, .string ⟨(partV v).text.toArray⟩, .float .f64 (partV v).num], .bool (isK v.kind)])) := by
  have SF := store_f64
  obtain ⟨k, i, b, t, n⟩ := v
  simp only
  by_cases h1 : k = 1
  · subst h1
    rw [show partV ⟨1, i, b, t, n⟩ = ⟨1, i, false, [], 0⟩ from rfl, show isK 1 = true from rfl]
    go_enter Try.func52, Try.ntmps52
    go_wp2_with fail
    exact bodyPost_ret (v := .tuple #[.agg #[.int .i64 1, .int .i64 i, .bool false, .string ⟨#[]⟩, .float .f64 0], .bool true]) (by simp [results, Try.results52, go_sem]) rfl ⟨rfl, by go_grown⟩
  by_cases h2 : k = 2
  · subst h2
    rw [show partV ⟨2, i, b, t, n⟩ = ⟨2, 0, b, [], 0⟩ from rfl, show isK 2 = true from rfl]
    go_enter Try.func52, Try.ntmps52
    go_wp2_with fail
    exact bodyPost_ret (v := .tuple #[.agg #[.int .i64 2, .int .i64 0, .bool b, .string ⟨#[]⟩, .float .f64 0], .bool true]) (by simp [results, Try.results52, go_sem]) rfl ⟨rfl, by go_grown⟩
  by_cases h3 : k = 3
  · subst h3
    rw [show partV ⟨3, i, b, t, n⟩ = ⟨3, 0, false, t, 0⟩ from rfl, show isK 3 = true from rfl]
    go_enter Try.func52, Try.ntmps52
    go_wp2_with fail
    exact bodyPost_ret (v := .tuple #[.agg #[.int .i64 3, .int .i64 0, .bool false, .string ⟨t.toArray⟩, .float .f64 0], .bool true]) (by simp [results, Try.results52, go_sem]) rfl ⟨rfl, by go_grown⟩
  by_cases h4 : k = 4
  · subst h4
    rw [show partV ⟨4, i, b, t, n⟩ = ⟨4, 0, false, [], n⟩ from rfl, show isK 4 = true from rfl]
    go_enter Try.func52, Try.ntmps52
    go_wp2_with fail
    exact bodyPost_ret (v := .tuple #[.agg #[.int .i64 4, .int .i64 0, .bool false, .string ⟨#[]⟩, .float .f64 n], .bool true]) (by simp [results, Try.results52, go_sem]) rfl ⟨rfl, by go_grown⟩
  have e1 : partV ⟨k, i, b, t, n⟩ = ⟨k, 0, false, [], 0⟩ := by unfold partV; simp only; rw [if_neg h1, if_neg h2, if_neg h3, if_neg h4]
  have e2 : isK k = false := by unfold isK; simp [h1, h2, h3, h4]
  rw [e1, e2]
  clear e1 e2
  go_enter Try.func52, Try.ntmps52
  go_wp2_with fail
  exact bodyPost_ret (v := .tuple #[.agg #[.int .i64 k, .int .i64 0, .bool false, .string ⟨#[]⟩, .float .f64 0], .bool false]) (by simp [results, Try.results52, go_sem]) rfl ⟨rfl, by go_grown⟩
end
end Go.Proofs.Ytijlamajcdekkaa

/- Package value, walked: Good and what is reckoned. -/
namespace Go.Proofs.Ytijlamajcdekkaa
open Go.RowKit
set_option linter.unusedVariables false
def goodV (v : Val) : Bool := isK v.kind && sameV v (partV v) && decide ((v.text.length : Int) ≤ 32)
theorem cells5 {w : World} {b : Nat} {t : TypeId} {f : Nat × Nat} {v0 v1 v2 v3 v4 : Value} (h : w.heap[b]? = some (.cells #[v0, v1, v2, v3, v4] t f)) : w.cell? ⟨b, 0, none⟩ = some v0 ∧ w.cell? ⟨b, 1, none⟩ = some v1 ∧ w.cell? ⟨b, 2, none⟩ = some v2 ∧ w.cell? ⟨b, 3, none⟩ = some v3 ∧ w.cell? ⟨b, 4, none⟩ = some v4 :=
  ⟨cell_of h 0, cell_of h 1, cell_of h 2, cell_of h 3, cell_of h 4⟩
section
variable {w : World}
theorem good_c (v : Val) : Calls Try.prog 36 #[.agg #[.int .i64 v.kind, .int .i64 v.int, .bool v.bool, .string ⟨v.text.toArray⟩, .float .f64 v.num]] w (Ret w (.bool (goodV v))) := by
  have SF := store_f64
  have E := Lib.hid (show goodV v = (isK v.kind && sameV v (partV v) && decide ((v.text.length : Int) ≤ 32)) from rfl)
  have B0 := Lib.hid (show Below w.heap.size w (w.alloc (.cells #[.int .i64 v.kind, .int .i64 v.int, .bool v.bool, .string ⟨v.text.toArray⟩, .float .f64 v.num] 25)) from (Below.refl _ _).alloc (Nat.le_refl _) _)
  have L0 := Lib.hid (show Loc1 w.heap.size 25 #[.int .i64 v.kind, .int .i64 v.int, .bool v.bool, .string ⟨v.text.toArray⟩, .float .f64 v.num] (w.alloc (.cells #[.int .i64 v.kind, .int .i64 v.int, .bool v.bool, .string ⟨v.text.toArray⟩, .float .f64 v.num] 25)) from heap_new _ _)
  have HP := Lib.hid (part_c (w := w.alloc (.cells #[.int .i64 v.kind, .int .i64 v.int, .bool v.bool, .string ⟨v.text.toArray⟩, .float .f64 v.num] 25)) v)
  go_enter Try.func36, Try.ntmps36
  go_wp2_with fail
  refine HP.out.mono ?_
  rintro e w1 ⟨rfl, hb⟩
  have B1 := Lib.hid (below_self B0.out hb)
  have L1 := Lib.hid (L0.out.below hb)
  obtain ⟨k0, k1, k2, k3, k4⟩ := cells5 L1.out
  have hz := lt_of_heap L1.out
  clear hb HP B0 L0
  generalize partV v = p at *
  cases hk : isK v.kind
  · replace E := Lib.hid (E.out.trans (by rw [hk]; rfl : _ = false))
    go_wp2_with fail
    go_ret
    rw [E.out]
    exact ⟨rfl, by (first | exact B1.out | exact below_alloc B1.out (Nat.le_refl _) _)⟩
  · have B2 := Lib.hid (show Below w1.heap.size w1 (w1.alloc (.cells #[.int .i64 p.kind, .int .i64 p.int, .bool p.bool, .string ⟨p.text.toArray⟩, .float .f64 p.num] 25)) from (Below.refl _ _).alloc (Nat.le_refl _) _)
    have L2 := Lib.hid (L1.out.below B2.out)
    go_wp2_with fail
    refine (same_c v p).mono ?_
    rintro e w2 ⟨rfl, hb⟩
    have B3 := Lib.hid (below_self B1.out (below_self B2.out hb))
    have L3 := Lib.hid (L2.out.below hb)
    have k3' : w2.cell? ⟨w.heap.size, 3, none⟩ = some (.string ⟨v.text.toArray⟩) := cell_of L3.out 3
    clear hb k0 k1 k2 k3 k4
    cases hs : sameV v p
    · replace E := Lib.hid (E.out.trans (by rw [hk, hs]; rfl : _ = false))
      go_wp2_with fail
      go_ret
      rw [E.out]
      exact ⟨rfl, B3.out⟩
    · replace E := Lib.hid (E.out.trans (by rw [hk, hs]; rfl : _ = decide ((v.text.length : Int) ≤ 32)))
      go_wp2_with fail
      go_ret
      rw [E.out]
      exact ⟨rfl, B3.out⟩
end
end Go.Proofs.Ytijlamajcdekkaa

/- Package value, walked: what is reckoned with ints. -/
namespace Go.Proofs.Ytijlamajcdekkaa
open Go.RowKit
set_option linter.unusedVariables false
def wU (x : Int) : Int := IntKind.u64.wrap x
theorem wU_lt (x : Int) : 0 ≤ wU x ∧ wU x < 18446744073709551616 := by unfold wU; rw [IntKind.wrap_u64]; omega
def lowU (x : Int) : Int := Go.bits .and .u64 x 4294967295
def mulT (x y : Int) : Int := wU (wU (x / 4294967296 * lowU y) + wU (lowU x * lowU y) / 4294967296)
def mulHi (x y : Int) : Int := wU (wU (wU (x / 4294967296 * (y / 4294967296)) + mulT x y / 4294967296) + wU (Go.bits .and .u64 (mulT x y) 4294967295 + wU (lowU x * (y / 4294967296))) / 4294967296)
def mulLo (x y : Int) : Int := wU (x * y)
section
variable {w : World}
theorem mul_c (x y : Int) : Calls Try.prog 106 #[.int .u64 x, .int .u64 y] w (Ret w (.tuple #[.int .u64 (mulHi x y), .int .u64 (mulLo x y)])) := by
  have E1 := Lib.hid (show mulHi x y = IntKind.u64.wrap (IntKind.u64.wrap (IntKind.u64.wrap (x / 4294967296 * (y / 4294967296)) + IntKind.u64.wrap (IntKind.u64.wrap (x / 4294967296 * Go.bits .and .u64 y 4294967295) + IntKind.u64.wrap (Go.bits .and .u64 x 4294967295 * Go.bits .and .u64 y 4294967295) / 4294967296) / 4294967296) + IntKind.u64.wrap (Go.bits .and .u64 (IntKind.u64.wrap (IntKind.u64.wrap (x / 4294967296 * Go.bits .and .u64 y 4294967295) + IntKind.u64.wrap (Go.bits .and .u64 x 4294967295 * Go.bits .and .u64 y 4294967295) / 4294967296)) 4294967295 + IntKind.u64.wrap (Go.bits .and .u64 x 4294967295 * (y / 4294967296))) / 4294967296) from rfl)
  have E2 := Lib.hid (show mulLo x y = IntKind.u64.wrap (x * y) from rfl)
  rw [E1.out, E2.out]
  go_enter Try.func106, Try.ntmps106
  go_wp2_with fail
  exact bodyPost_ret (v := .tuple #[.int .u64 (IntKind.u64.wrap (IntKind.u64.wrap (IntKind.u64.wrap (x / 4294967296 * (y / 4294967296)) + IntKind.u64.wrap (IntKind.u64.wrap (x / 4294967296 * Go.bits .and .u64 y 4294967295) + IntKind.u64.wrap (Go.bits .and .u64 x 4294967295 * Go.bits .and .u64 y 4294967295) / 4294967296) / 4294967296) + IntKind.u64.wrap (Go.bits .and .u64 (IntKind.u64.wrap (IntKind.u64.wrap (x / 4294967296 * Go.bits .and .u64 y 4294967295) + IntKind.u64.wrap (Go.bits .and .u64 x 4294967295 * Go.bits .and .u64 y 4294967295) / 4294967296)) 4294967295 + IntKind.u64.wrap (Go.bits .and .u64 x 4294967295 * (y / 4294967296))) / 4294967296)), .int .u64 (IntKind.u64.wrap (x * y))]) (by simp [results, Try.results106, go_sem]) rfl ⟨rfl, Below.refl _ _⟩
def sizeI (x : Int) : Int := if x < 0 then wU (-wU x) else wU x
theorem size_c (x : Int) : Calls Try.prog 107 #[.int .i64 x] w (Ret w (.int .u64 (sizeI x))) := by
  by_cases h : x < 0
  · have E := Lib.hid (show sizeI x = IntKind.u64.wrap (-IntKind.u64.wrap x) from if_pos h)
    go_enter Try.func107, Try.ntmps107
    go_wp2_with fail
    go_ret
    rw [E.out]
    exact ⟨rfl, Below.refl _ _⟩
  · have E := Lib.hid (show sizeI x = IntKind.u64.wrap x from if_neg h)
    go_enter Try.func107, Try.ntmps107
    go_wp2_with fail
    go_ret
    rw [E.out]
    exact ⟨rfl, Below.refl _ _⟩
def prodF (a b : Int) : Int × Bool :=
  if (!decide (a < 0) == decide (b < 0)) then (wrap64 (-wrap64 (mulLo (sizeI a) (sizeI b))), decide (mulHi (sizeI a) (sizeI b) = 0) && decide (mulLo (sizeI a) (sizeI b) ≤ 9223372036854775808))
  else (wrap64 (mulLo (sizeI a) (sizeI b)), decide (mulHi (sizeI a) (sizeI b) = 0) && decide (mulLo (sizeI a) (sizeI b) < 9223372036854775808))
theorem product_c (a b : Int) : Calls Try.prog 101 #[.int .i64 a, .int .i64 b] w (Ret w (.tuple #[.int .i64 (prodF a b).1, .bool (prodF a b).2])) := by
  have E := Lib.hid (show prodF a b = if (!decide (a < 0) == decide (b < 0)) then (wrap64 (-wrap64 (mulLo (sizeI a) (sizeI b))), decide (mulHi (sizeI a) (sizeI b) = 0) && decide (mulLo (sizeI a) (sizeI b) ≤ 9223372036854775808))
    else (wrap64 (mulLo (sizeI a) (sizeI b)), decide (mulHi (sizeI a) (sizeI b) = 0) && decide (mulLo (sizeI a) (sizeI b) < 9223372036854775808)) from rfl)
  generalize prodF a b = r at *
  go_enter Try.func101, Try.ntmps101
  go_wp2_with fail
  refine (size_c a).mono ?_
  rintro e w1 ⟨rfl, hb1⟩
  generalize sizeI a = sa at *
  go_wp2_with fail
  refine (size_c b).mono ?_
  rintro e w2 ⟨rfl, hb2⟩
  generalize sizeI b = sb at *
  have B2 := Lib.hid (below_self hb1 hb2)
  clear hb1 hb2
  go_wp2_with fail
  refine (mul_c sa sb).mono ?_
  rintro e w3 ⟨rfl, hb3⟩
  generalize mulHi sa sb = hi at *
  generalize mulLo sa sb = lo at *
  have B3 := Lib.hid (below_self B2.out hb3)
  clear hb3 B2
  cases hsg : (!decide (a < 0) == decide (b < 0)) <;> by_cases hh : hi = 0
  · subst hh
    replace E := Lib.hid (show r = (wrap64 lo, decide (lo < 9223372036854775808)) by rw [E.out, hsg]; simp)
    go_wp2_with fail
    rw [E.out]
    exact bodyPost_ret (v := .tuple #[.int .i64 (wrap64 lo), .bool (decide (lo < 9223372036854775808))]) (by simp [results, Try.results101, go_sem]) rfl ⟨rfl, B3.out⟩
  · replace E := Lib.hid (show r = (wrap64 lo, false) by rw [E.out, hsg]; simp [hh])
    go_wp2_with fail
    rw [E.out]
    exact bodyPost_ret (v := .tuple #[.int .i64 (wrap64 lo), .bool false]) (by simp [results, Try.results101, go_sem]) rfl ⟨rfl, B3.out⟩
  · subst hh
    replace E := Lib.hid (show r = (wrap64 (-wrap64 lo), decide (lo ≤ 9223372036854775808)) by rw [E.out, hsg]; simp)
    go_wp2_with fail
    rw [E.out]
    exact bodyPost_ret (v := .tuple #[.int .i64 (wrap64 (-wrap64 lo)), .bool (decide (lo ≤ 9223372036854775808))]) (by simp [results, Try.results101, go_sem]) rfl ⟨rfl, B3.out⟩
  · replace E := Lib.hid (show r = (wrap64 (-wrap64 lo), false) by rw [E.out, hsg]; simp [hh])
    go_wp2_with fail
    rw [E.out]
    exact bodyPost_ret (v := .tuple #[.int .i64 (wrap64 (-wrap64 lo)), .bool false]) (by simp [results, Try.results101, go_sem]) rfl ⟨rfl, B3.out⟩
theorem wrap64_i64 (x : Int) : i64 (wrap64 x) := by unfold i64 wrap64; omega
theorem prodF_i64 (a b : Int) : i64 (prodF a b).1 := by unfold prodF; split <;> exact wrap64_i64 _
def okd (ok : Bool) (n : Int) : Int × Int := if ok then (n, 0) else (0, 41)
def intsF (op a b : Int) : Int × Int :=
  if op = 4 then okd ((decide (a < wrap64 (a + b)) == decide (0 < b)) || b == 0) (wrap64 (a + b))
  else if op = 5 then okd ((decide (wrap64 (a - b) < a) == decide (0 < b)) || b == 0) (wrap64 (a - b))
  else if op = 6 then okd (prodF a b).2 (prodF a b).1
  else if op = 7 then if b = 0 then (0, 42) else okd (!(a == -9223372036854775808) || !(b == -1)) (wrap64 (a.tdiv b))
  else if op = 14 then (if b < a then b else a, 0) else if op = 15 then (if a < b then b else a, 0) else (0, 0)
theorem ints_4 (a b : Int) : Calls Try.prog 85 #[.int .i64 4, .int .i64 a, .int .i64 b] w (Ret w (.tuple #[.int .i64 (intsF 4 a b).1, .int .i64 (intsF 4 a b).2])) := by
  have E := Lib.hid (show intsF 4 a b = okd ((decide (a < wrap64 (a + b)) == decide (0 < b)) || b == 0) (wrap64 (a + b)) from rfl)
  generalize intsF 4 a b = r at *
  cases h1 : (decide (a < wrap64 (a + b)) == decide (0 < b)) <;> cases h2 : (b == 0)
  · replace E := Lib.hid (show r = (0, 41) by rw [E.out, h1, h2]; rfl)
    go_enter Try.func85, Try.ntmps85
    go_wp2_with fail
    rw [E.out]
    exact bodyPost_ret (v := .tuple #[.int .i64 (0), .int .i64 41]) (by simp [results, Try.results85, go_sem]) rfl ⟨rfl, Below.refl _ _⟩
  · replace E := Lib.hid (show r = (wrap64 (a + b), 0) by rw [E.out, h1, h2]; rfl)
    go_enter Try.func85, Try.ntmps85
    go_wp2_with fail
    rw [E.out]
    exact bodyPost_ret (v := .tuple #[.int .i64 (wrap64 (a + b)), .int .i64 0]) (by simp [results, Try.results85, go_sem]) rfl ⟨rfl, Below.refl _ _⟩
  · replace E := Lib.hid (show r = (wrap64 (a + b), 0) by rw [E.out, h1, h2]; rfl)
    go_enter Try.func85, Try.ntmps85
    go_wp2_with fail
    rw [E.out]
    exact bodyPost_ret (v := .tuple #[.int .i64 (wrap64 (a + b)), .int .i64 0]) (by simp [results, Try.results85, go_sem]) rfl ⟨rfl, Below.refl _ _⟩
  · replace E := Lib.hid (show r = (wrap64 (a + b), 0) by rw [E.out, h1, h2]; rfl)
    go_enter Try.func85, Try.ntmps85
    go_wp2_with fail
    rw [E.out]
    exact bodyPost_ret (v := .tuple #[.int .i64 (wrap64 (a + b)), .int .i64 0]) (by simp [results, Try.results85, go_sem]) rfl ⟨rfl, Below.refl _ _⟩
theorem ints_5 (a b : Int) : Calls Try.prog 85 #[.int .i64 5, .int .i64 a, .int .i64 b] w (Ret w (.tuple #[.int .i64 (intsF 5 a b).1, .int .i64 (intsF 5 a b).2])) := by
  have E := Lib.hid (show intsF 5 a b = okd ((decide (wrap64 (a - b) < a) == decide (0 < b)) || b == 0) (wrap64 (a - b)) from rfl)
  generalize intsF 5 a b = r at *
  cases h1 : (decide (wrap64 (a - b) < a) == decide (0 < b)) <;> cases h2 : (b == 0)
  · replace E := Lib.hid (show r = (0, 41) by rw [E.out, h1, h2]; rfl)
    go_enter Try.func85, Try.ntmps85
    go_wp2_with fail
    rw [E.out]
    exact bodyPost_ret (v := .tuple #[.int .i64 (0), .int .i64 41]) (by simp [results, Try.results85, go_sem]) rfl ⟨rfl, Below.refl _ _⟩
  · replace E := Lib.hid (show r = (wrap64 (a - b), 0) by rw [E.out, h1, h2]; rfl)
    go_enter Try.func85, Try.ntmps85
    go_wp2_with fail
    rw [E.out]
    exact bodyPost_ret (v := .tuple #[.int .i64 (wrap64 (a - b)), .int .i64 0]) (by simp [results, Try.results85, go_sem]) rfl ⟨rfl, Below.refl _ _⟩
  · replace E := Lib.hid (show r = (wrap64 (a - b), 0) by rw [E.out, h1, h2]; rfl)
    go_enter Try.func85, Try.ntmps85
    go_wp2_with fail
    rw [E.out]
    exact bodyPost_ret (v := .tuple #[.int .i64 (wrap64 (a - b)), .int .i64 0]) (by simp [results, Try.results85, go_sem]) rfl ⟨rfl, Below.refl _ _⟩
  · replace E := Lib.hid (show r = (wrap64 (a - b), 0) by rw [E.out, h1, h2]; rfl)
    go_enter Try.func85, Try.ntmps85
    go_wp2_with fail
    rw [E.out]
    exact bodyPost_ret (v := .tuple #[.int .i64 (wrap64 (a - b)), .int .i64 0]) (by simp [results, Try.results85, go_sem]) rfl ⟨rfl, Below.refl _ _⟩
theorem ints_6 (a b : Int) : Calls Try.prog 85 #[.int .i64 6, .int .i64 a, .int .i64 b] w (Ret w (.tuple #[.int .i64 (intsF 6 a b).1, .int .i64 (intsF 6 a b).2])) := by
  have E := Lib.hid (show intsF 6 a b = okd (prodF a b).2 (prodF a b).1 from rfl)
  generalize intsF 6 a b = r at *
  go_enter Try.func85, Try.ntmps85
  go_wp2_with fail
  refine (product_c a b).mono ?_
  rintro e w1 ⟨rfl, hb⟩
  have B1 := Lib.hid hb
  clear hb
  generalize prodF a b = p at *
  obtain ⟨n, ok⟩ := p
  simp only at *
  cases ok
  · replace E := Lib.hid (show r = (0, 41) by rw [E.out]; rfl)
    go_wp2_with fail
    rw [E.out]
    exact bodyPost_ret (v := .tuple #[.int .i64 (0), .int .i64 41]) (by simp [results, Try.results85, go_sem]) rfl ⟨rfl, B1.out⟩
  · replace E := Lib.hid (show r = (n, 0) by rw [E.out]; rfl)
    go_wp2_with fail
    rw [E.out]
    exact bodyPost_ret (v := .tuple #[.int .i64 (n), .int .i64 0]) (by simp [results, Try.results85, go_sem]) rfl ⟨rfl, B1.out⟩
theorem ints_7 (a b : Int) : Calls Try.prog 85 #[.int .i64 7, .int .i64 a, .int .i64 b] w (Ret w (.tuple #[.int .i64 (intsF 7 a b).1, .int .i64 (intsF 7 a b).2])) := by
  have E := Lib.hid (show intsF 7 a b = if b = 0 then (0, 42) else okd (!(a == -9223372036854775808) || !(b == -1)) (wrap64 (a.tdiv b)) from rfl)
  generalize intsF 7 a b = r at *
  by_cases h0 : b = 0
  · subst h0
    replace E := Lib.hid (show r = (0, 42) by rw [E.out]; rfl)
    go_enter Try.func85, Try.ntmps85
    go_wp2_with fail
    rw [E.out]
    exact bodyPost_ret (v := .tuple #[.int .i64 (0), .int .i64 42]) (by simp [results, Try.results85, go_sem]) rfl ⟨rfl, Below.refl _ _⟩
  · have h0' : (b == 0) = false := by simpa using h0
    by_cases ha : a = -9223372036854775808
    · by_cases hb : b = -1
      · replace E := Lib.hid (show r = (0, 41) by rw [E.out, if_neg h0, ha, hb]; rfl)
        subst ha hb
        go_enter Try.func85, Try.ntmps85
        go_wp2_with fail
        rw [E.out]
        exact bodyPost_ret (v := .tuple #[.int .i64 (0), .int .i64 41]) (by simp [results, Try.results85, go_sem]) rfl ⟨rfl, Below.refl _ _⟩
      · have e1 : Int.tdiv (-9223372036854775808) b = -Int.tdiv 9223372036854775808 b := Int.neg_tdiv 9223372036854775808 b
        replace E := Lib.hid (show r = (wrap64 (-Int.tdiv 9223372036854775808 b), 0) by rw [E.out, if_neg h0, ha, e1]; simp [okd, hb])
        subst ha
        have hb' : (b != -1) = true := by simpa using hb
        clear e1
        go_enter Try.func85, Try.ntmps85
        go_wp2_with fail
        rw [E.out]
        exact bodyPost_ret (v := .tuple #[.int .i64 (wrap64 (-Int.tdiv 9223372036854775808 b)), .int .i64 0]) (by simp [results, Try.results85, go_sem]) rfl ⟨rfl, Below.refl _ _⟩
    · replace E := Lib.hid (show r = (wrap64 (a.tdiv b), 0) by rw [E.out, if_neg h0]; simp [okd, ha])
      go_enter Try.func85, Try.ntmps85
      go_wp2_with fail
      rw [E.out]
      exact bodyPost_ret (v := .tuple #[.int .i64 (wrap64 (a.tdiv b)), .int .i64 0]) (by simp [results, Try.results85, go_sem]) rfl ⟨rfl, Below.refl _ _⟩
theorem ints_14 (a b : Int) : Calls Try.prog 85 #[.int .i64 14, .int .i64 a, .int .i64 b] w (Ret w (.tuple #[.int .i64 (intsF 14 a b).1, .int .i64 (intsF 14 a b).2])) := by
  by_cases h : b < a
  · rw [show intsF 14 a b = (b, 0) by simp [intsF, h]]
    go_enter Try.func85, Try.ntmps85
    go_wp2_with fail
    exact bodyPost_ret (v := .tuple #[.int .i64 b, .int .i64 0]) (by simp [results, Try.results85, go_sem]) rfl ⟨rfl, Below.refl _ _⟩
  · rw [show intsF 14 a b = (a, 0) by simp [intsF, h]]
    go_enter Try.func85, Try.ntmps85
    go_wp2_with fail
    exact bodyPost_ret (v := .tuple #[.int .i64 a, .int .i64 0]) (by simp [results, Try.results85, go_sem]) rfl ⟨rfl, Below.refl _ _⟩
theorem ints_15 (a b : Int) : Calls Try.prog 85 #[.int .i64 15, .int .i64 a, .int .i64 b] w (Ret w (.tuple #[.int .i64 (intsF 15 a b).1, .int .i64 (intsF 15 a b).2])) := by
  by_cases h : a < b
  · rw [show intsF 15 a b = (b, 0) by simp [intsF, h]]
    go_enter Try.func85, Try.ntmps85
    go_wp2_with fail
    exact bodyPost_ret (v := .tuple #[.int .i64 b, .int .i64 0]) (by simp [results, Try.results85, go_sem]) rfl ⟨rfl, Below.refl _ _⟩
  · rw [show intsF 15 a b = (a, 0) by simp [intsF, h]]
    go_enter Try.func85, Try.ntmps85
    go_wp2_with fail
    exact bodyPost_ret (v := .tuple #[.int .i64 a, .int .i64 0]) (by simp [results, Try.results85, go_sem]) rfl ⟨rfl, Below.refl _ _⟩
/-- the operations that reckon -/
def isR (op : Int) : Prop := op = 4 ∨ op = 5 ∨ op = 6 ∨ op = 7 ∨ op = 14 ∨ op = 15
theorem ints_c (op a b : Int) (h : isR op) : Calls Try.prog 85 #[.int .i64 op, .int .i64 a, .int .i64 b] w (Ret w (.tuple #[.int .i64 (intsF op a b).1, .int .i64 (intsF op a b).2])) := by
  rcases h with rfl | rfl | rfl | rfl | rfl | rfl
  · exact ints_4 a b
  · exact ints_5 a b
  · exact ints_6 a b
  · exact ints_7 a b
  · exact ints_14 a b
  · exact ints_15 a b
theorem okd_i64 (ok : Bool) (n : Int) (h : i64 n) : i64 (okd ok n).1 ∧ ((okd ok n).2 = 0 ∨ (okd ok n).2 = 41) := by
  have z : i64 0 := by unfold i64; omega
  cases ok
  · exact ⟨z, .inr rfl⟩
  · exact ⟨h, .inl rfl⟩
theorem intsF_i64 (op a b : Int) (ha : i64 a) (hb : i64 b) : i64 (intsF op a b).1 ∧ ((intsF op a b).2 = 0 ∨ (intsF op a b).2 = 41 ∨ (intsF op a b).2 = 42) := by
  have z : i64 0 := by unfold i64; omega
  have k : ∀ ok n, i64 n → i64 (okd ok n).1 ∧ ((okd ok n).2 = 0 ∨ (okd ok n).2 = 41 ∨ (okd ok n).2 = 42) := fun ok n h => by
    have := okd_i64 ok n h
    exact ⟨this.1, by rcases this.2 with h | h; exact .inl h; exact .inr (.inl h)⟩
  unfold intsF
  split
  · exact k _ _ (wrap64_i64 _)
  · split
    · exact k _ _ (wrap64_i64 _)
    · split
      · exact k _ _ (prodF_i64 a b)
      · split
        · split
          · exact ⟨z, .inr (.inr rfl)⟩
          · exact k _ _ (wrap64_i64 _)
        · split
          · refine ⟨?_, .inl rfl⟩
            simp only
            split
            · exact hb
            · exact ha
          · split
            · refine ⟨?_, .inl rfl⟩
              simp only
              split
              · exact hb
              · exact ha
            · exact ⟨z, .inl rfl⟩
end
end Go.Proofs.Ytijlamajcdekkaa

/- Package value, walked: what is reckoned with floats. -/
namespace Go.Proofs.Ytijlamajcdekkaa
open Go.RowKit
set_option linter.unusedVariables false
/-- the bits of whatever NaN -/
def nanT (t : Nat) : Nat := (t % 2) * 2 ^ 63 + 0x7ff0000000000000 + 1 + (t / 2) % (2 ^ 52 - 1)
theorem nan_mod (a c : Nat) (ha : a < 2) (hc : c < 4503599627370495) : (a * 9223372036854775808 + 9218868437227405312 + 1 + c) % 9223372036854775808 = 9218868437227405313 + c := by omega
theorem nanT_nan (t : Nat) : nanB (nanT t) = true := by
  have h : (FloatKind.f64.format.read (nanT t)).isNaN = true := by
    have hw : FloatKind.f64.format.signWeight = 9223372036854775808 := by rfl
    have hi : FloatKind.f64.format.infRung = 9218868437227405312 := by rfl
    have hb : FloatKind.f64.format.binade = 4503599627370496 := by rfl
    have e : nanT t % 9223372036854775808 = 9218868437227405313 + (t / 2) % 4503599627370495 := nan_mod _ _ (Nat.mod_lt _ (by decide)) (Nat.mod_lt _ (by decide))
    have hc : (t / 2) % 4503599627370495 < 4503599627370495 := Nat.mod_lt _ (by decide)
    unfold Ieee.Format.read
    rw [hw, hi, hb]
    simp only
    rw [e]
    generalize (t / 2) % 4503599627370495 = c at hc
    rw [if_neg (by omega), if_neg (by omega), if_neg (by omega)]
    rfl
  unfold nanB Ieee.Format.order
  cases hd : FloatKind.f64.format.read (nanT t) with
  | nan s f => rfl
  | number s m p => rw [hd] at h; cases h
  | infinity s => rw [hd] at h; cases h
theorem codeB_nan (t : Nat) : codeB (nanT t) = 9221120237041090561 := by unfold codeB; rw [nanT_nan]; rfl
/-- what comes of two floats, by its bits, every NaN by one's -/
def codeO (r : Option Nat) : Nat := match r with | some r => codeB r | none => 9221120237041090561
section
variable {w : World}
def RetNum (w : World) (c : Nat) (e : Ending) (w' : World) : Prop := ∃ r, e = .returned (.float .f64 r) ∧ codeB r = c ∧ Below w.heap.size w w'
theorem run_float_nan {P : Program} (op : BinOp) (t : TypeId) (x y : Nat) (hop : op = .add ∨ op = .sub ∨ op = .mul ∨ op = .quo) (h : floatBits op .f64 x y = none) (w : World) : ∃ q, (binOp op t (.float .f64 x) (.float .f64 y)).run P w = .ok (.float .f64 (nanT q)) w.drew := by
  refine ⟨w.tape w.drawn (.nanBits .f64 x y), ?_⟩
  unfold floatBits at h
  rcases hop with rfl | rfl | rfl | rfl <;> simp only at h <;> simp [binOp, Op.floatArith, h, Question.forced, Question.cut, nanT]
def minO (k : Bool) (a b : Nat) : Option Nat := match FloatKind.f64.format.order a b with
  | none => none
  | some .lt => some (if k then b else a)
  | some .gt => some (if k then a else b)
  | some .eq => some (if (FloatKind.f64.decode a).neg then (if k then b else a) else (if k then a else b))
def numsC (op : Int) (a b : Nat) : Nat :=
  if op = 4 then codeO (floatBits .add .f64 a b) else if op = 5 then codeO (floatBits .sub .f64 a b) else if op = 6 then codeO (floatBits .mul .f64 a b) else if op = 7 then codeO (floatBits .quo .f64 a b)
  else if op = 14 then codeO (minO false a b) else codeO (minO true a b)
theorem nums_4 (a b : Nat) : Calls Try.prog 84 #[.int .i64 4, .float .f64 a, .float .f64 b] w (RetNum w (numsC 4 a b)) := by
  have E := Lib.hid (show numsC 4 a b = codeO (floatBits .add .f64 a b) from rfl)
  generalize numsC 4 a b = c at *
  cases hf : floatBits .add .f64 a b with
  | none =>
    obtain ⟨q, HF⟩ := run_float_nan (P := Try.prog) .add 23 a b (by simp) hf w
    have E2 := Lib.hid (show codeB (nanT q) = c by rw [E.out, hf, codeB_nan]; rfl)
    generalize nanT q = r at *
    go_enter Try.func84, Try.ntmps84
    go_wp2_with fail
    go_ret
    exact ⟨r, rfl, E2.out, (Below.refl _ _).drew⟩
  | some r =>
    have HF := fun W : World => run_float_arith (P := Try.prog) (w := W) .add 23 .f64 a b r hf
    have E2 := Lib.hid (show codeB r = c by rw [E.out, hf]; rfl)
    go_enter Try.func84, Try.ntmps84
    go_wp2_with fail
    go_ret
    exact ⟨r, rfl, E2.out, Below.refl _ _⟩
theorem nums_5 (a b : Nat) : Calls Try.prog 84 #[.int .i64 5, .float .f64 a, .float .f64 b] w (RetNum w (numsC 5 a b)) := by
  have E := Lib.hid (show numsC 5 a b = codeO (floatBits .sub .f64 a b) from rfl)
  generalize numsC 5 a b = c at *
  cases hf : floatBits .sub .f64 a b with
  | none =>
    obtain ⟨q, HF⟩ := run_float_nan (P := Try.prog) .sub 23 a b (by simp) hf w
    have E2 := Lib.hid (show codeB (nanT q) = c by rw [E.out, hf, codeB_nan]; rfl)
    generalize nanT q = r at *
    go_enter Try.func84, Try.ntmps84
    go_wp2_with fail
    go_ret
    exact ⟨r, rfl, E2.out, (Below.refl _ _).drew⟩
  | some r =>
    have HF := fun W : World => run_float_arith (P := Try.prog) (w := W) .sub 23 .f64 a b r hf
    have E2 := Lib.hid (show codeB r = c by rw [E.out, hf]; rfl)
    go_enter Try.func84, Try.ntmps84
    go_wp2_with fail
    go_ret
    exact ⟨r, rfl, E2.out, Below.refl _ _⟩
theorem nums_6 (a b : Nat) : Calls Try.prog 84 #[.int .i64 6, .float .f64 a, .float .f64 b] w (RetNum w (numsC 6 a b)) := by
  have E := Lib.hid (show numsC 6 a b = codeO (floatBits .mul .f64 a b) from rfl)
  generalize numsC 6 a b = c at *
  cases hf : floatBits .mul .f64 a b with
  | none =>
    obtain ⟨q, HF⟩ := run_float_nan (P := Try.prog) .mul 23 a b (by simp) hf w
    have E2 := Lib.hid (show codeB (nanT q) = c by rw [E.out, hf, codeB_nan]; rfl)
    generalize nanT q = r at *
    go_enter Try.func84, Try.ntmps84
    go_wp2_with fail
    go_ret
    exact ⟨r, rfl, E2.out, (Below.refl _ _).drew⟩
  | some r =>
    have HF := fun W : World => run_float_arith (P := Try.prog) (w := W) .mul 23 .f64 a b r hf
    have E2 := Lib.hid (show codeB r = c by rw [E.out, hf]; rfl)
    go_enter Try.func84, Try.ntmps84
    go_wp2_with fail
    go_ret
    exact ⟨r, rfl, E2.out, Below.refl _ _⟩
theorem nums_7 (a b : Nat) : Calls Try.prog 84 #[.int .i64 7, .float .f64 a, .float .f64 b] w (RetNum w (numsC 7 a b)) := by
  have E := Lib.hid (show numsC 7 a b = codeO (floatBits .quo .f64 a b) from rfl)
  generalize numsC 7 a b = c at *
  cases hf : floatBits .quo .f64 a b with
  | none =>
    obtain ⟨q, HF⟩ := run_float_nan (P := Try.prog) .quo 23 a b (by simp) hf w
    have E2 := Lib.hid (show codeB (nanT q) = c by rw [E.out, hf, codeB_nan]; rfl)
    generalize nanT q = r at *
    go_enter Try.func84, Try.ntmps84
    go_wp2_with fail
    go_ret
    exact ⟨r, rfl, E2.out, (Below.refl _ _).drew⟩
  | some r =>
    have HF := fun W : World => run_float_arith (P := Try.prog) (w := W) .quo 23 .f64 a b r hf
    have E2 := Lib.hid (show codeB r = c by rw [E.out, hf]; rfl)
    go_enter Try.func84, Try.ntmps84
    go_wp2_with fail
    go_ret
    exact ⟨r, rfl, E2.out, Below.refl _ _⟩
theorem run_min_f64 (a b : Nat) (W : World) : (∃ r, minO false a b = some r ∧ ∀ w : World, (Builtin.min_ #[23, 23] 23 #[.float .f64 a, .float .f64 b]).run Try.prog w = .ok (.float .f64 r) w) ∨
    (minO false a b = none ∧ ∃ q, (Builtin.min_ #[23, 23] 23 #[.float .f64 a, .float .f64 b]).run Try.prog W = .ok (.float .f64 (nanT q)) W.drew) := by
  unfold minO
  cases ho : FloatKind.f64.format.order a b with
  | none => exact .inr ⟨rfl, W.tape W.drawn (.nanMinMax .f64 false a b), by simp [Builtin.min_, Builtin.min2, ho, Question.forced, Question.cut, nanT]⟩
  | some o =>
    left
    cases o with
    | lt => exact ⟨_, rfl, fun w => by simp [Builtin.min_, Builtin.min2, ho]⟩
    | gt => exact ⟨_, rfl, fun w => by simp [Builtin.min_, Builtin.min2, ho]⟩
    | eq => exact ⟨_, rfl, fun w => by simp [Builtin.min_, Builtin.min2, ho]⟩
theorem nums_14 (a b : Nat) : Calls Try.prog 84 #[.int .i64 14, .float .f64 a, .float .f64 b] w (RetNum w (numsC 14 a b)) := by
  have E := Lib.hid (show numsC 14 a b = codeO (minO false a b) from rfl)
  generalize numsC 14 a b = c at *
  rcases run_min_f64 a b w with ⟨r, hr, HF⟩ | ⟨hr, q, HF⟩
  · have E2 := Lib.hid (show codeB r = c by rw [E.out, hr]; rfl)
    go_enter Try.func84, Try.ntmps84
    go_wp2_with fail
    go_ret
    exact ⟨r, rfl, E2.out, Below.refl _ _⟩
  · have E2 := Lib.hid (show codeB (nanT q) = c by rw [E.out, hr, codeB_nan]; rfl)
    generalize nanT q = r at *
    go_enter Try.func84, Try.ntmps84
    go_wp2_with fail
    go_ret
    exact ⟨r, rfl, E2.out, (Below.refl _ _).drew⟩
theorem run_max_f64 (a b : Nat) (W : World) : (∃ r, minO true a b = some r ∧ ∀ w : World, (Builtin.max_ #[23, 23] 23 #[.float .f64 a, .float .f64 b]).run Try.prog w = .ok (.float .f64 r) w) ∨
    (minO true a b = none ∧ ∃ q, (Builtin.max_ #[23, 23] 23 #[.float .f64 a, .float .f64 b]).run Try.prog W = .ok (.float .f64 (nanT q)) W.drew) := by
  unfold minO
  cases ho : FloatKind.f64.format.order a b with
  | none => exact .inr ⟨rfl, W.tape W.drawn (.nanMinMax .f64 true a b), by simp [Builtin.max_, Builtin.max2, ho, Question.forced, Question.cut, nanT]⟩
  | some o =>
    left
    cases o with
    | lt => exact ⟨_, rfl, fun w => by simp [Builtin.max_, Builtin.max2, ho]⟩
    | gt => exact ⟨_, rfl, fun w => by simp [Builtin.max_, Builtin.max2, ho]⟩
    | eq => exact ⟨_, rfl, fun w => by simp [Builtin.max_, Builtin.max2, ho]⟩
theorem nums_15 (a b : Nat) : Calls Try.prog 84 #[.int .i64 15, .float .f64 a, .float .f64 b] w (RetNum w (numsC 15 a b)) := by
  have E := Lib.hid (show numsC 15 a b = codeO (minO true a b) from rfl)
  generalize numsC 15 a b = c at *
  rcases run_max_f64 a b w with ⟨r, hr, HF⟩ | ⟨hr, q, HF⟩
  · have E2 := Lib.hid (show codeB r = c by rw [E.out, hr]; rfl)
    go_enter Try.func84, Try.ntmps84
    go_wp2_with fail
    go_ret
    exact ⟨r, rfl, E2.out, Below.refl _ _⟩
  · have E2 := Lib.hid (show codeB (nanT q) = c by rw [E.out, hr, codeB_nan]; rfl)
    generalize nanT q = r at *
    go_enter Try.func84, Try.ntmps84
    go_wp2_with fail
    go_ret
    exact ⟨r, rfl, E2.out, (Below.refl _ _).drew⟩
theorem nums_c (op : Int) (a b : Nat) (h : isR op) : Calls Try.prog 84 #[.int .i64 op, .float .f64 a, .float .f64 b] w (RetNum w (numsC op a b)) := by
  rcases h with rfl | rfl | rfl | rfl | rfl | rfl
  · exact nums_4 a b
  · exact nums_5 a b
  · exact nums_6 a b
  · exact nums_7 a b
  · exact nums_14 a b
  · exact nums_15 a b
end
end Go.Proofs.Ytijlamajcdekkaa

/- Package value, walked: what is reckoned with values. -/
namespace Go.Proofs.Ytijlamajcdekkaa
open Go.RowKit
set_option linter.unusedVariables false
def zeroV : Val := ⟨0, 0, false, [], 0⟩
def intV (n : Int) : Val := ⟨1, n, false, [], 0⟩
def numV (n : Nat) : Val := ⟨4, 0, false, [], n⟩
def truthV (b : Bool) : Val := ⟨2, 0, b, [], 0⟩
def bothV (a b : Val) : Bool := goodV a && goodV b && a.kind == b.kind
def Loc2 (N N1 : Nat) (t t1 : TypeId) (cm cs : Array Value) (W : World) : Prop := W.heap[N]? = some (.cells cm t (0, 0)) ∧ W.heap[N1]? = some (.cells cs t1 (0, 0))
theorem Loc2.below {N N1 : Nat} {t t1 : TypeId} {cm cs : Array Value} {W W' : World} (h : Loc2 N N1 t t1 cm cs W) (hb : Below W.heap.size W W') : Loc2 N N1 t t1 cm cs W' :=
  ⟨(hb.block _ (lt_of_heap h.1)).trans h.1, (hb.block _ (lt_of_heap h.2)).trans h.2⟩
section
variable {w : World}
theorem ofInt_c (n : Int) : Calls Try.prog 82 #[.int .i64 n] w (Ret w (.agg #[.int .i64 1, .int .i64 n, .bool false, .string ⟨#[]⟩, .float .f64 0])) := by
  have SF := store_f64
  go_enter Try.func82, Try.ntmps82
  go_wp2_with fail
  exact bodyPost_ret (v := .agg #[.int .i64 1, .int .i64 n, .bool false, .string ⟨#[]⟩, .float .f64 0]) (by simp [results, Try.results82, go_sem]) rfl ⟨rfl, (Below.refl _ _).alloc (Nat.le_refl _) _⟩
theorem ofNum_c (x : Nat) : Calls Try.prog 81 #[.float .f64 x] w (Ret w (.agg #[.int .i64 4, .int .i64 0, .bool false, .string ⟨#[]⟩, .float .f64 (codeB x)])) := by
  have SF := store_f64
  have FF := f64from_run
  go_enter Try.func81, Try.ntmps81
  go_wp2_with (go_at_call 77; refine (code_c _).mono ?_; rintro e w' ⟨rfl, rfl⟩)
  exact bodyPost_ret (v := .agg #[.int .i64 4, .int .i64 0, .bool false, .string ⟨#[]⟩, .float .f64 (codeB x)]) (by simp [results, Try.results81, go_sem]) rfl ⟨rfl, (Below.refl _ _).alloc (Nat.le_refl _) _⟩
theorem both_c (a b : Val) : Calls Try.prog 83 #[.agg #[.int .i64 a.kind, .int .i64 a.int, .bool a.bool, .string ⟨a.text.toArray⟩, .float .f64 a.num], .agg #[.int .i64 b.kind, .int .i64 b.int, .bool b.bool, .string ⟨b.text.toArray⟩, .float .f64 b.num]] w (Ret w (.bool (bothV a b))) := by
  have E := Lib.hid (show bothV a b = (goodV a && goodV b && a.kind == b.kind) from rfl)
  have SF := store_f64
  have B0 := Lib.hid (show Below w.heap.size w ((w.alloc (.cells #[.int .i64 a.kind, .int .i64 a.int, .bool a.bool, .string ⟨a.text.toArray⟩, .float .f64 a.num] 25)).alloc (.cells #[.int .i64 b.kind, .int .i64 b.int, .bool b.bool, .string ⟨b.text.toArray⟩, .float .f64 b.num] 25)) from ((Below.refl _ _).alloc (Nat.le_refl _) _).alloc (by simp) _)
  have L0 := Lib.hid (show Loc2 w.heap.size (w.heap.size + 1) 25 25 #[.int .i64 a.kind, .int .i64 a.int, .bool a.bool, .string ⟨a.text.toArray⟩, .float .f64 a.num] #[.int .i64 b.kind, .int .i64 b.int, .bool b.bool, .string ⟨b.text.toArray⟩, .float .f64 b.num] ((w.alloc (.cells #[.int .i64 a.kind, .int .i64 a.int, .bool a.bool, .string ⟨a.text.toArray⟩, .float .f64 a.num] 25)).alloc (.cells #[.int .i64 b.kind, .int .i64 b.int, .bool b.bool, .string ⟨b.text.toArray⟩, .float .f64 b.num] 25)) from
    ⟨(Below.heap_alloc _ _ _ (by simp)).trans (heap_new _ _), by have := heap_new (w.alloc (.cells #[.int .i64 a.kind, .int .i64 a.int, .bool a.bool, .string ⟨a.text.toArray⟩, .float .f64 a.num] 25)) (.cells #[.int .i64 b.kind, .int .i64 b.int, .bool b.bool, .string ⟨b.text.toArray⟩, .float .f64 b.num] 25); simpa using this⟩)
  go_enter Try.func83, Try.ntmps83
  go_wp2_with fail
  refine (good_c a).mono ?_
  rintro e w1 ⟨rfl, hb⟩
  have B1 := Lib.hid (below_self B0.out hb)
  have L1 := Lib.hid (L0.out.below hb)
  clear hb B0 L0
  obtain ⟨k0, k1, k2, k3, k4⟩ := cells5 L1.out.1
  obtain ⟨j0, j1, j2, j3, j4⟩ := cells5 L1.out.2
  cases h1 : goodV a
  · replace E := Lib.hid (E.out.trans (by rw [h1]; rfl : _ = false))
    go_wp2_with fail
    go_ret
    rw [E.out]
    exact ⟨rfl, B1.out⟩
  go_wp2_with fail
  refine (good_c b).mono ?_
  rintro e w2 ⟨rfl, hb⟩
  have B2 := Lib.hid (below_self B1.out hb)
  have L2 := Lib.hid (L1.out.below hb)
  clear hb B1 L1
  clear k0 k1 k2 k3 k4 j0 j1 j2 j3 j4
  obtain ⟨k0, k1, k2, k3, k4⟩ := cells5 L2.out.1
  obtain ⟨j0, j1, j2, j3, j4⟩ := cells5 L2.out.2
  cases h2 : goodV b
  · replace E := Lib.hid (E.out.trans (by rw [h1, h2]; rfl : _ = false))
    go_wp2_with fail
    go_ret
    rw [E.out]
    exact ⟨rfl, B2.out⟩
  replace E := Lib.hid (E.out.trans (by rw [h1, h2]; rfl : _ = (a.kind == b.kind)))
  go_wp2_with fail
  go_ret
  rw [E.out]
  exact ⟨rfl, B2.out⟩
def sameF (a b : Val) : Bool := a.kind == b.kind && a.int == b.int && a.bool == b.bool && a.text == b.text && Op.floatEq .f64 a.num b.num
def equalV (a b : Val) : Bool × Int := if bothV a b then (sameF a b, 0) else (false, 40)
set_option maxRecDepth 20000 in
set_option maxHeartbeats 2000000 in
theorem equal_c (a b : Val) : Calls Try.prog 57 #[.agg #[.int .i64 a.kind, .int .i64 a.int, .bool a.bool, .string ⟨a.text.toArray⟩, .float .f64 a.num], .agg #[.int .i64 b.kind, .int .i64 b.int, .bool b.bool, .string ⟨b.text.toArray⟩, .float .f64 b.num]] w (Ret w (.tuple #[.bool (equalV a b).1, .int .i64 (equalV a b).2])) := by
  have HBo := fun W : World => both_c (w := W) a b
  have E1 : equalV a b = if bothV a b then (sameF a b, 0) else (false, 40) := rfl
  have E2 : sameF a b = (a.kind == b.kind && a.int == b.int && a.bool == b.bool && a.text == b.text && Op.floatEq .f64 a.num b.num) := rfl
  generalize equalV a b = r at *
  generalize sameF a b = sf at *
  generalize bothV a b = bo at *
  obtain ⟨k, i, bl, tx, n⟩ := a
  obtain ⟨k', i', bl', tx', n'⟩ := b
  simp only at *
  by_cases hne : k = k' ∧ i = i' ∧ bl = bl' ∧ tx = tx'
  · obtain ⟨rfl, rfl, rfl, rfl⟩ := hne
    simp only [beq_self_eq_true, Bool.true_and] at E2
    have EF : ∀ W : World, (Op.equalIn 9999 23 (.float .f64 n) (.float .f64 n')).run Try.prog W = .ok sf W := fun W => E2 ▸ eql_f64 W n n'
    replace HBo := Lib.hid HBo
    replace E1 := Lib.hid E1
    clear E2
    have B0 := Lib.hid (show Below w.heap.size w ((w.alloc (.cells #[.int .i64 k, .int .i64 i, .bool bl, .string ⟨tx.toArray⟩, .float .f64 n] 25)).alloc (.cells #[.int .i64 k, .int .i64 i, .bool bl, .string ⟨tx.toArray⟩, .float .f64 n'] 25)) from ((Below.refl _ _).alloc (Nat.le_refl _) _).alloc (by simp) _)
    have L0 := Lib.hid (show Loc2 w.heap.size (w.heap.size + 1) 25 25 #[.int .i64 k, .int .i64 i, .bool bl, .string ⟨tx.toArray⟩, .float .f64 n] #[.int .i64 k, .int .i64 i, .bool bl, .string ⟨tx.toArray⟩, .float .f64 n'] ((w.alloc (.cells #[.int .i64 k, .int .i64 i, .bool bl, .string ⟨tx.toArray⟩, .float .f64 n] 25)).alloc (.cells #[.int .i64 k, .int .i64 i, .bool bl, .string ⟨tx.toArray⟩, .float .f64 n'] 25)) from
      ⟨(Below.heap_alloc _ _ _ (by simp)).trans (heap_new _ _), by have := heap_new (w.alloc (.cells #[.int .i64 k, .int .i64 i, .bool bl, .string ⟨tx.toArray⟩, .float .f64 n] 25)) (.cells #[.int .i64 k, .int .i64 i, .bool bl, .string ⟨tx.toArray⟩, .float .f64 n'] 25); simpa using this⟩)
    go_enter Try.func57, Try.ntmps57
    go_wp2_with fail
    refine (HBo.out _).mono ?_
    rintro e w1 ⟨rfl, hb⟩
    have B1 := Lib.hid (below_self B0.out hb)
    have L1 := Lib.hid (L0.out.below hb)
    clear hb B0 L0
    obtain ⟨k0, k1, k2, k3, k4⟩ := cells5 L1.out.1
    obtain ⟨j0, j1, j2, j3, j4⟩ := cells5 L1.out.2
    cases bo
    · replace E1 := Lib.hid (E1.out.trans (by rfl : _ = (false, (40 : Int))))
      go_wp2_with fail
      rw [E1.out]
      exact bodyPost_ret (v := .tuple #[.bool false, .int .i64 40]) (by simp [results, Try.results57, go_sem]) rfl ⟨rfl, B1.out⟩
    · replace E1 := Lib.hid (E1.out.trans (by rfl : _ = (sf, (0 : Int))))
      cases sf
      · go_wp2_with fail
        rw [E1.out]
        exact bodyPost_ret (v := .tuple #[.bool false, .int .i64 0]) (by simp [results, Try.results57, go_sem]) rfl ⟨rfl, B1.out⟩
      · go_wp2_with fail
        rw [E1.out]
        exact bodyPost_ret (v := .tuple #[.bool true, .int .i64 0]) (by simp [results, Try.results57, go_sem]) rfl ⟨rfl, B1.out⟩
  · have E3 := Lib.hid (show sf = false by
      rw [E2, Bool.and_eq_false_iff]
      left
      rw [← Bool.not_eq_true]
      simp only [Bool.and_eq_true, beq_iff_eq]
      intro hh
      exact hne ⟨hh.1.1.1, hh.1.1.2, hh.1.2, hh.2⟩)
    replace HBo := Lib.hid HBo
    replace E1 := Lib.hid E1
    clear E2
    have B0 := Lib.hid (show Below w.heap.size w ((w.alloc (.cells #[.int .i64 k, .int .i64 i, .bool bl, .string ⟨tx.toArray⟩, .float .f64 n] 25)).alloc (.cells #[.int .i64 k', .int .i64 i', .bool bl', .string ⟨tx'.toArray⟩, .float .f64 n'] 25)) from ((Below.refl _ _).alloc (Nat.le_refl _) _).alloc (by simp) _)
    have L0 := Lib.hid (show Loc2 w.heap.size (w.heap.size + 1) 25 25 #[.int .i64 k, .int .i64 i, .bool bl, .string ⟨tx.toArray⟩, .float .f64 n] #[.int .i64 k', .int .i64 i', .bool bl', .string ⟨tx'.toArray⟩, .float .f64 n'] ((w.alloc (.cells #[.int .i64 k, .int .i64 i, .bool bl, .string ⟨tx.toArray⟩, .float .f64 n] 25)).alloc (.cells #[.int .i64 k', .int .i64 i', .bool bl', .string ⟨tx'.toArray⟩, .float .f64 n'] 25)) from
      ⟨(Below.heap_alloc _ _ _ (by simp)).trans (heap_new _ _), by have := heap_new (w.alloc (.cells #[.int .i64 k, .int .i64 i, .bool bl, .string ⟨tx.toArray⟩, .float .f64 n] 25)) (.cells #[.int .i64 k', .int .i64 i', .bool bl', .string ⟨tx'.toArray⟩, .float .f64 n'] 25); simpa using this⟩)
    go_enter Try.func57, Try.ntmps57
    go_wp2_with fail
    refine (HBo.out _).mono ?_
    rintro e w1 ⟨rfl, hb⟩
    have B1 := Lib.hid (below_self B0.out hb)
    have L1 := Lib.hid (L0.out.below hb)
    clear hb B0 L0
    obtain ⟨k0, k1, k2, k3, k4⟩ := cells5 L1.out.1
    obtain ⟨j0, j1, j2, j3, j4⟩ := cells5 L1.out.2
    cases bo
    · replace E1 := Lib.hid (E1.out.trans (by rfl : _ = (false, (40 : Int))))
      go_wp2_with fail
      rw [E1.out]
      exact bodyPost_ret (v := .tuple #[.bool false, .int .i64 40]) (by simp [results, Try.results57, go_sem]) rfl ⟨rfl, B1.out⟩
    · replace E1 := Lib.hid (E1.out.trans (by rw [E3.out]; rfl : _ = (false, (0 : Int))))
      go_wp2_with fail
      all_goals first
        | (exfalso; apply hne; refine ⟨?_, ?_, ?_, ?_⟩ <;> assumption)
        | (rw [E1.out]; exact bodyPost_ret (v := .tuple #[.bool false, .int .i64 0]) (by simp [results, Try.results57, go_sem]) rfl ⟨rfl, B1.out⟩)
end
end Go.Proofs.Ytijlamajcdekkaa

/- Package expr, walked: its small parts, and how a part is refused. -/
namespace Go.Proofs.Ytijlamajcdekkaa
open Go.RowKit
set_option linter.unusedVariables false
def ariF (op : Int) : Int := if op = 1 ∨ op = 2 then 0 else if op = 3 ∨ op = 12 ∨ op = 16 then 1 else if op = 13 then 3 else if 4 ≤ op ∧ op ≤ 16 then 2 else -1
section
variable {w : World}
theorem arity_c (op : Int) : Calls Try.prog 47 #[.int .i64 op] w fun e w' => e = .returned (.int .i64 (ariF op)) ∧ w = w' := by
  have E := Lib.hid (show ariF op = if op = 1 ∨ op = 2 then 0 else if op = 3 ∨ op = 12 ∨ op = 16 then 1 else if op = 13 then 3 else if 4 ≤ op ∧ op ≤ 16 then 2 else -1 from rfl)
  generalize ariF op = r at *
  go_enter Try.func47, Try.ntmps47
  go_wp2_with fail
  all_goals (go_ret; rw [E.out]; refine ⟨?_, rfl⟩; simp_all; try omega)
theorem must_ok (err : Int) : Calls Try.prog 31 #[.bool true, .int .i64 err] w fun e w' => e = .returned (.tuple #[]) ∧ w = w' := by
  go_enter Try.func31, Try.ntmps31
  go_wp2_with fail
  go_end0
  exact ⟨rfl, rfl⟩
def Bad (err : Int) (e : Ending) : Prop := e = .panicked [{ v := .iface 89 (.int .i64 err), recovered := false }]
theorem must_no (err : Int) : Calls Try.prog 31 #[.bool false, .int .i64 err] w fun e w' => Bad err e ∧ w = w' := by
  go_enter Try.func31, Try.ntmps31
  go_wp2_with fail
  exact ⟨rfl, rfl, rfl⟩
def isN (k : Int) : Bool := k == 1 || k == 4
theorem numeric_c (k : Int) : Calls Try.prog 50 #[.int .i64 k] w fun e w' => e = .returned (.bool (isN k)) ∧ w = w' := by
  have E := Lib.hid (show isN k = (k == 1 || k == 4) from rfl)
  cases h1 : (k == 1)
  · go_enter Try.func50, Try.ntmps50
    go_wp2_with fail
    go_ret
    rw [E.out, h1]
    exact ⟨rfl, rfl⟩
  · go_enter Try.func50, Try.ntmps50
    go_wp2_with fail
    go_ret
    rw [E.out, h1]
    exact ⟨rfl, rfl⟩
theorem truth_c (b : Bool) : Calls Try.prog 53 #[.bool b] w (Ret w (.agg #[.int .i64 2, .int .i64 0, .bool b, .string ⟨#[]⟩, .float .f64 0])) := by
  have SF := store_f64
  go_enter Try.func53, Try.ntmps53
  go_wp2_with fail
  exact bodyPost_ret (v := .agg #[.int .i64 2, .int .i64 0, .bool b, .string ⟨#[]⟩, .float .f64 0]) (by simp [results, Try.results53, go_sem]) rfl ⟨rfl, (Below.refl _ _).alloc (Nat.le_refl _) _⟩
theorem told_ok (v : Val) : Calls Try.prog 54 #[.agg #[.int .i64 v.kind, .int .i64 v.int, .bool v.bool, .string ⟨v.text.toArray⟩, .float .f64 v.num], .int .i64 0] w (Ret w (.agg #[.int .i64 v.kind, .int .i64 v.int, .bool v.bool, .string ⟨v.text.toArray⟩, .float .f64 v.num])) := by
  have SF := store_f64
  go_enter Try.func54, Try.ntmps54
  go_wp2_with fail
  refine (must_ok 0).mono ?_
  rintro e w1 ⟨rfl, rfl⟩
  go_wp2_with fail
  exact bodyPost_ret (v := .agg #[.int .i64 v.kind, .int .i64 v.int, .bool v.bool, .string ⟨v.text.toArray⟩, .float .f64 v.num]) (by simp [results, Try.results54, go_sem]) rfl ⟨rfl, by go_grown⟩
theorem told_no (v : Val) (err : Int) (h : ¬ err = 0) : Calls Try.prog 54 #[.agg #[.int .i64 v.kind, .int .i64 v.int, .bool v.bool, .string ⟨v.text.toArray⟩, .float .f64 v.num], .int .i64 err] w fun e w' => Bad err e ∧ Below w.heap.size w w' := by
  have SF := store_f64
  have h' : (err == 0) = false := by simpa using h
  go_enter Try.func54, Try.ntmps54
  go_wp2_with fail
  refine (must_no err).mono ?_
  rintro e w1 ⟨rfl, rfl⟩
  go_wp2_with fail
  exact ⟨rfl, rfl, by go_grown⟩
theorem assert_bad (xT : TypeId) (err : Int) (W : World) : (Instr.typeAssert (.iface 89 (.int .i64 err)) xT 89 true).run Try.prog W = .ok (.tuple #[.int .i64 err, .bool true]) W := by
  simp [Instr.typeAssert, run_underlying Try.underlying89]
set_option maxRecDepth 20000 in
/-- a refused part, caught -/
theorem caught_bad (p : Addr) (x err : Int) (older : List PanicEntry) (w : World) (hc : w.cell? p = some (.int .i64 x)) (hz : w.frozen? p = false) :
    CallsD Try.prog 30 #[.pointer (some p)] (.panicking ({ v := .iface 89 (.int .i64 err), recovered := false } :: older)) w fun e u' w' =>
      e = .returned (.tuple #[]) ∧ u' = .panicking ({ v := .iface 89 (.int .i64 err), recovered := true } :: older) ∧ w' = w.setCell p (.int .i64 err) := by
  have TA := fun xT W => assert_bad xT err W
  refine callsD_of_wpS Try.func30 rfl fun c₀ cs hu => ?_
  apply wpS_seq
  apply wpS_region
  simp [wpOpsS, go_sem, recoverD, hu, Try.ntmps30, Exit.thenS]
  refine wpS_of_wp ?_
  generalize hQ : (fun (e : Exit) (a' : Act) (w' : World) => bodyPostS Try.prog Try.f30 c₀ cs _ e a' _ w') = Q
  show Code.wp _ _ Q { tmps := #[.pointer (some p), undef, undef, undef, undef, .iface 89 (.int .i64 err), undef, undef, undef, undef, undef, undef, undef, undef], defers := [] } w
  go_wp2_with fail
  subst hQ
  simp [bodyPostS, results, Try.results30]
set_option maxRecDepth 20000 in
/-- nothing was refused -/
theorem caught_idle (p : Addr) (w : World) :
    CallsD Try.prog 30 #[.pointer (some p)] .returning w fun e u' w' => e = .returned (.tuple #[]) ∧ u' = .returning ∧ w' = w := by
  refine callsD_of_wpS Try.func30 rfl fun c₀ cs hu => ?_
  apply wpS_seq
  apply wpS_region
  simp [wpOpsS, go_sem, recoverD, hu, Try.ntmps30, Exit.thenS]
  refine wpS_of_wp ?_
  generalize hQ : (fun (e : Exit) (a' : Act) (w' : World) => bodyPostS Try.prog Try.f30 c₀ cs _ e a' _ w') = Q
  show Code.wp _ _ Q { tmps := #[.pointer (some p), undef, undef, undef, undef, .nilIface, undef, undef, undef, undef, undef, undef, undef, undef], defers := [] } w
  go_wp2_with fail
  subst hQ
  cases c₀
  simp_all [bodyPostS, results, Try.results30]
end
end Go.Proofs.Ytijlamajcdekkaa

/- Package expr, walked: a field is found. -/
namespace Go.Proofs.Ytijlamajcdekkaa
open Go.RowKit
set_option linter.unusedVariables false
def isF (name : List UInt8) (f : Fld) : Bool := f.name == name
def idx {α : Type} (p : α → Bool) (l : List α) : Int := match l.findIdx? p with | some i => i | none => -1
def findF (name : List UInt8) (l : List Fld) : Int := idx (isF name) l
section
variable {ok : Nat → Prop} {w : World} {A : Option Addr} {n c : Nat}
theorem fld_at {l : List Fld} (h : Sl kFld ok w (.slice A n c) l) {i : Nat} (hi : i < n) :
    ∃ ad f B d, A = some ad ∧ l[i]? = some f ∧ Sl kStr ok w (.slice B f.enum.length d) f.enum ∧ w.cell? (ad.add (i * 8)) = some (.string ⟨f.name.toArray⟩) ∧
      w.cell? ⟨(ad.add (i * 8)).block, (ad.add (i * 8)).off + 1, none⟩ = some (.int .i64 f.kind) ∧ w.cell? ⟨(ad.add (i * 8)).block, (ad.add (i * 8)).off + 2, none⟩ = some (.slice B f.enum.length d) ∧
      w.cell? ⟨(ad.add (i * 8)).block, (ad.add (i * 8)).off + 3, none⟩ = some (.int .i64 f.init.kind) ∧ w.cell? ⟨(ad.add (i * 8)).block, (ad.add (i * 8)).off + 4, none⟩ = some (.int .i64 f.init.int) ∧
      w.cell? ⟨(ad.add (i * 8)).block, (ad.add (i * 8)).off + 5, none⟩ = some (.bool f.init.bool) ∧ w.cell? ⟨(ad.add (i * 8)).block, (ad.add (i * 8)).off + 6, none⟩ = some (.string ⟨f.init.text.toArray⟩) ∧
      w.cell? ⟨(ad.add (i * 8)).block, (ad.add (i * 8)).off + 7, none⟩ = some (.float .f64 f.init.num) := by
  obtain ⟨ad, f, cs, ea, he, hr, h0, hj⟩ := cells_at h hi
  obtain ⟨B, d, rfl, hs⟩ := fld_open hr
  exact ⟨ad, f, B, d, ea, he, hs, h0 _ rfl, hj 0 _ rfl, hj 1 _ rfl, hj 2 _ rfl, hj 3 _ rfl, hj 4 _ rfl, hj 5 _ rfl, hj 6 _ rfl⟩
theorem find1_c (name : List UInt8) (f : Fld) (B : Option Addr) (d N : Nat) (hN : Loc1 N 9 #[.string ⟨name.toArray⟩] w) : Calls Try.prog 79 #[.agg #[.string ⟨f.name.toArray⟩, .int .i64 f.kind, .slice B f.enum.length d, .int .i64 f.init.kind, .int .i64 f.init.int, .bool f.init.bool, .string ⟨f.init.text.toArray⟩, .float .f64 f.init.num], .pointer (some ⟨N, 0, none⟩)] w (Ret w (.bool (isF name f))) := by
  have E := Lib.hid (show isF name f = (f.name == name) from rfl)
  have SF := store_f64
  have hc : w.cell? ⟨N, 0, none⟩ = some (.string ⟨name.toArray⟩) := cell_of hN 0
  have hz := lt_of_heap hN
  clear hN
  go_enter Try.func79, Try.ntmps79
  go_wp2_with fail
  go_ret
  rw [E.out]
  exact ⟨rfl, (Below.refl _ _).alloc (Nat.le_refl _) _⟩
theorem index_f (name : List UInt8) (N : Nat) {l : List Fld} (h : Sl kFld ok w (.slice A n c) l) (hN : Loc1 N 9 #[.string ⟨name.toArray⟩] w) : Calls Try.prog 78 #[.slice A n c, .func (.func 79) #[] #[.pointer (some ⟨N, 0, none⟩)]] w (Ret w (.int .i64 (findF name l))) := by
  rw [show findF name l = idx (isF name) l from rfl]
  have H := Lib.hid h
  have hmax := h.len.2.2.1
  have hnc := h.len.2.1
  have HN := Lib.hid hN
  clear h hN
  go_enter Try.func78, Try.ntmps78
  go_wp2_with fail
  have SF := store_f64
  go_loopw [8] (fun v wr => ∃ k : Nat, k ≤ n ∧ v = .int .i64 k ∧ (∀ j x, j < k → l[j]? = some x → (isF name) x = false) ∧ Below w.heap.size w wr) (fun v _ => n - (intOf v).toNat)
  case atStart => exact ⟨0, Nat.zero_le _, rfl, fun j x hj => absurd hj (Nat.not_lt_zero _), Below.refl _ _⟩
  case round =>
    obtain ⟨k, hk, rfl, hp, hb⟩ := hrel
    have HP := Lib.hid hp
    have HB := Lib.hid hb
    have HN2 := Lib.hid (show Loc1 N 9 #[.string ⟨name.toArray⟩] wr from (hb.block _ (lt_of_heap HN.out)).trans HN.out)
    clear hp hb
    by_cases hlt : k < n
    · obtain ⟨ad, e, B, d, rfl, he, -, c0, c1, c2, c3, c4, c5, c6, c7⟩ := fld_at (H.out.below HB.out) hlt
      have HE := Lib.hid he
      have HC := Lib.hid (find1_c name e B d N (HN2.out))
      clear he
      cases hm : isF name e
      · have HM := Lib.hid hm
        go_wp2_with (go_at_call 79; refine HC.out.mono ?_; rintro e1 w1 ⟨rfl, hb1⟩; have HB1 := Lib.hid (HB.out.trans (hb1.mono HB.out.size)); clear hb1)
        go_roundw
        case rel =>
          refine ⟨k + 1, by omega, by go_num, fun j x hj hx => ?_, HB1.out⟩
          rcases Nat.lt_or_ge j k with h | h
          · exact HP.out j x h hx
          · have : j = k := by omega
            subst this
            rw [HE.out] at hx
            injection hx with hx
            rw [← hx]
            exact HM.out
        case measure => simp [intOf]; omega
      · have e1 : idx (isF name) l = k := by
          unfold idx
          have : l.findIdx? (isF name) = some k := by
            rw [List.findIdx?_eq_some_iff_getElem]
            obtain ⟨hkl, hke⟩ := List.getElem?_eq_some_iff.1 HE.out
            refine ⟨hkl, by rw [hke]; exact hm, fun j hj => ?_⟩
            have := HP.out j l[j] hj (List.getElem?_eq_getElem (by omega))
            simp [this]
          rw [this]
        rw [e1]
        clear e1
        go_wp2_with (go_at_call 79; refine HC.out.mono ?_; rintro e1 w1 ⟨rfl, hb1⟩; have HB1 := Lib.hid (HB.out.trans (hb1.mono HB.out.size)); clear hb1)
        go_ret
        exact ⟨rfl, HB1.out⟩
    · have e1 : idx (isF name) l = -1 := by
        unfold idx
        have : l.findIdx? (isF name) = none := by
          rw [List.findIdx?_eq_none_iff]
          intro x hx
          obtain ⟨j, hj, rfl⟩ := List.getElem_of_mem hx
          exact HP.out j _ (by have := H.out.len.1; omega) (List.getElem?_eq_getElem hj)
        rw [this]
      have E1 := Lib.hid e1
      clear e1
      go_wp2_with fail
      go_ret
      refine ⟨?_, HB.out⟩
      rw [E1.out]
      rfl
theorem find_c (name : List UInt8) {l : List Fld} (h : Sl kFld ok w (.slice A n c) l) : Calls Try.prog 49 #[.string ⟨name.toArray⟩, .slice A n c] w (Ret w (.int .i64 (findF name l))) := by
  have hmf : ∀ (fn : Fn) (first cap : Array Value) (w : World), (Instr.makeFunc fn first cap).run Try.prog w = .ok (.func fn first cap) w := fun _ _ _ _ => rfl
  have B0 := Lib.hid (show Below w.heap.size w (w.alloc (.cells #[.string ⟨name.toArray⟩] 9)) from (Below.refl _ _).alloc (Nat.le_refl _) _)
  have HI := Lib.hid (index_f name w.heap.size (h.below B0.out) (heap_new w (.cells #[.string ⟨name.toArray⟩] 9)))
  clear h
  go_enter Try.func49, Try.ntmps49
  go_wp2_with fail
  refine HI.out.mono ?_
  rintro e w1 ⟨rfl, hb⟩
  have B1 := Lib.hid (below_self B0.out hb)
  clear hb
  go_wp2_with fail
  go_ret
  exact ⟨rfl, B1.out⟩
theorem findF_some {name : List UInt8} {l : List Fld} (h : 0 ≤ findF name l) : ∃ i f, findF name l = (i : Nat) ∧ l[i]? = some f ∧ f.name = name := by
  unfold findF idx at *
  cases hf : l.findIdx? (isF name) with
  | none => rw [hf] at h; exact absurd h (by decide)
  | some i =>
    rw [List.findIdx?_eq_some_iff_getElem] at hf
    obtain ⟨hi, hp, _⟩ := hf
    exact ⟨i, l[i], rfl, List.getElem?_eq_getElem hi, by simpa [isF] using hp⟩
theorem findF_none {name : List UInt8} {l : List Fld} (h : ¬ 0 ≤ findF name l) : findF name l = -1 := by
  unfold findF idx at *
  cases hf : l.findIdx? (isF name) with
  | none => rfl
  | some i => rw [hf] at h; exact absurd (Int.natCast_nonneg i) h
end
end Go.Proofs.Ytijlamajcdekkaa
