/- Texts that go together. -/
import Derived.Test.YtjnhgfmjehaalaaGreatMA
import Derived.Laws.Externs
import Derived.Handy
import Derived.BigRegion
import Derived.Deep.RegionHeld3
import Derived.Deep.QuietTactic
import Derived.BigQuiet
import Derived.Laws.FloatArith
import Derived.Recover
/- Package value, walked: which values are good, which are the same. -/
namespace Go.Proofs.YtjnhgfmjehaalaaGreat
open Go.RowKit
set_option linter.unusedVariables false
def nanB (b : Nat) : Bool := FloatKind.f64.format.order b b != some Ordering.eq
/-- a float by its bits, every NaN by one's -/
def codeB (b : Nat) : Nat := if nanB b then 9221120237041090561 else b
theorem f64bits_run (b : Nat) (W : World) : (callFunc 144 #[.float .f64 b]).run Tryz.prog W = .ok (.value (.int .u64 (b : Int))) W :=
 (run_callFunc_extern (e := Extern.MathFloatBits.float64bits) Tryz.func144 (by kernel_rfl) (by kernel_rfl) (by kernel_rfl) (by kernel_rfl) _ W).trans rfl
theorem f64from_run (n : Int) (W : World) : (callFunc 172 #[.int .u64 n]).run Tryz.prog W = .ok (.value (.float .f64 n.toNat)) W :=
 (run_callFunc_extern (e := Extern.MathFloatBits.float64frombits) Tryz.func172 (by kernel_rfl) (by kernel_rfl) (by kernel_rfl) (by kernel_rfl) _ W).trans rfl
section
variable {w : World}
theorem isNaN_c (b : Nat) : Calls Tryz.prog 145 #[.float .f64 b] w fun e w' => e = .returned (.bool (nanB b)) ∧ w = w' := by
 go_enter Tryz.func145, Tryz.ntmps145
 go_wp2_with fail
 go_ret
 exact ⟨rfl, rfl⟩
theorem code_c (b : Nat) : Calls Tryz.prog 154 #[.float .f64 b] w fun e w' => e = .returned (.int .u64 (codeB b : Nat)) ∧ w = w' := by
 have FB := f64bits_run
 have E := Lib.hid (show codeB b = if nanB b then 9221120237041090561 else b from rfl)
 cases hn : nanB b
 ·go_enter Tryz.func154, Tryz.ntmps154
  go_wp2_with (go_at_call 145; refine (isNaN_c b).mono ?_; rintro e w' ⟨rfl, rfl⟩; rw [hn])
  go_ret
  rw [E.out, hn]
  exact ⟨rfl, rfl⟩
 ·go_enter Tryz.func154, Tryz.ntmps154
  go_wp2_with (go_at_call 145; refine (isNaN_c b).mono ?_; rintro e w' ⟨rfl, rfl⟩; rw [hn])
  go_ret
  rw [E.out, hn]
  exact ⟨rfl, rfl⟩
def sameV (a b : Val) : Bool := (a.kind == b.kind && a.int == b.int && a.bool == b.bool && a.text == b.text) && (codeB a.num == codeB b.num)
theorem quiet_left {P : Program} {f : FuncId} {args : Array Value} {w : World} {n : Nat} {v : Value}
 (h : Calls P f args (w.drewN n) fun e w' => e = .returned v ∧ w.drewN n = w') : Calls P f args (w.drewN n) fun e w'' => e = .returned v ∧ ∃ m, w'' = w.drewN m :=
 h.mono fun _ _ ⟨he, hm⟩ => ⟨he, n, hm.symm⟩
theorem run_equalIn_f64 {P : Program} (W : World) (d : Nat) (t : TypeId) (a b : Nat) (h : P.underlying t = some (.float .f64)) : (Op.equalIn (d + 1) t (.float .f64 a) (.float .f64 b)).run P W = .ok (Op.floatEq .f64 a b) W := by
 simp [Op.equalIn, run_underlying h]
theorem eql_f64 (W : World) (a b : Nat) : (Op.equalIn 9999 37 (.float .f64 a) (.float .f64 b)).run Tryz.prog W = .ok (Op.floatEq .f64 a b) W := run_equalIn_f64 W 9998 _ a b Tryz.underlying37
set_option maxRecDepth 20000 in
set_option maxHeartbeats 2000000 in
theorem same_c (x y : Val) : Calls Tryz.prog 114 #[.agg #[.int .i64 x.kind, .int .i64 x.int, .bool x.bool, .string ⟨x.text.toArray⟩, .float .f64 x.num], .agg #[.int .i64 y.kind, .int .i64 y.int, .bool y.bool, .string ⟨y.text.toArray⟩, .float .f64 y.num]] w (Ret w (.bool (sameV x y))) := by
 have SF := store_f64
 have E : sameV x y = ((x.kind == y.kind && x.int == y.int && x.bool == y.bool && x.text == y.text) && (codeB x.num == codeB y.num)) := rfl
 obtain ⟨k, i, b, t, n⟩ := x
 obtain ⟨k', i', b', t', n'⟩ := y
 simp only at *
 have EF : ∀ W : World, (Op.equalIn 9999 37 (.float .f64 0) (.float .f64 0)).run Tryz.prog W = .ok true W := fun W => eql_f64 W 0 0
 by_cases hne : k = k' ∧ i = i' ∧ b = b' ∧ t = t'
 ·obtain ⟨rfl, rfl, rfl, rfl⟩ := hne
  simp only [beq_self_eq_true, Bool.true_and] at E
  replace E := Lib.hid E
  go_enter Tryz.func114, Tryz.ntmps114
  go_wp2_with fail
  go_quiet ((first | (go_at_call 154; exact quiet_left (code_c _))))
  generalize codeB n = ca at *
  generalize codeB n' = cb at *
  go_wp2_with fail
  go_ret
  rw [E.out, show ((ca : Int) == (cb : Int)) = (ca == cb) by rw [Bool.eq_iff_iff, beq_iff_eq, beq_iff_eq]; omega]
  exact ⟨rfl, by (go_grown; try exact below_drewN (by go_grown) _)⟩
 ·replace E := Lib.hid (E.trans (by
   rw [Bool.and_eq_false_iff]
   left
   rw [← Bool.not_eq_true]
   simp only [Bool.and_eq_true, beq_iff_eq]
   intro hh
   exact hne ⟨hh.1.1.1, hh.1.1.2, hh.1.2, hh.2⟩ : _ = false))
  go_enter Tryz.func114, Tryz.ntmps114
  go_wp2_with fail
  go_quiet ((first | (go_at_call 154; exact quiet_left (code_c _))))
  generalize codeB n = ca at *
  generalize codeB n' = cb at *
  go_wp2_with fail
  all_goals first
   | (exfalso; apply hne; refine ⟨?_, ?_, ?_, ?_⟩ <;> assumption)
   | (go_ret; rw [E.out]; exact ⟨rfl, by (go_grown; try exact below_drewN (by go_grown) _)⟩)
/-- what is of a value's kind -/
def partV (v : Val) : Val := if v.kind = 1 then ⟨1, v.int, false, [], 0⟩ else if v.kind = 2 then ⟨2, 0, v.bool, [], 0⟩ else if v.kind = 3 then ⟨3, 0, false, v.text, 0⟩ else if v.kind = 4 then ⟨4, 0, false, [], v.num⟩ else ⟨v.kind, 0, false, [], 0⟩
def isK (k : Int) : Bool := k == 1 || k == 2 || k == 3 || k == 4
theorem part_c (v : Val) : Calls Tryz.prog 117 #[.agg #[.int .i64 v.kind, .int .i64 v.int, .bool v.bool, .string ⟨v.text.toArray⟩, .float .f64 v.num]] w (Ret w (.tuple #[.agg #[.int .i64 (partV v).kind, .int .i64 (partV v).int, .bool (partV v).bool, .string ⟨(partV v).text.toArray⟩, .float .f64 (partV v).num], .bool (isK v.kind)])) := by
 have SF := store_f64
 obtain ⟨k, i, b, t, n⟩ := v
 simp only
 by_cases h1 : k = 1
 ·subst h1
  rw [show partV ⟨1, i, b, t, n⟩ = ⟨1, i, false, [], 0⟩ from rfl, show isK 1 = true from rfl]
  go_enter Tryz.func117, Tryz.ntmps117
  go_wp2_with fail
  exact bodyPost_ret (v := .tuple #[.agg #[.int .i64 1, .int .i64 i, .bool false, .string ⟨#[]⟩, .float .f64 0], .bool true]) (by simp [results, Tryz.results117, go_sem]) rfl ⟨rfl, by go_grown⟩
 by_cases h2 : k = 2
 ·subst h2
  rw [show partV ⟨2, i, b, t, n⟩ = ⟨2, 0, b, [], 0⟩ from rfl, show isK 2 = true from rfl]
  go_enter Tryz.func117, Tryz.ntmps117
  go_wp2_with fail
  exact bodyPost_ret (v := .tuple #[.agg #[.int .i64 2, .int .i64 0, .bool b, .string ⟨#[]⟩, .float .f64 0], .bool true]) (by simp [results, Tryz.results117, go_sem]) rfl ⟨rfl, by go_grown⟩
 by_cases h3 : k = 3
 ·subst h3
  rw [show partV ⟨3, i, b, t, n⟩ = ⟨3, 0, false, t, 0⟩ from rfl, show isK 3 = true from rfl]
  go_enter Tryz.func117, Tryz.ntmps117
  go_wp2_with fail
  exact bodyPost_ret (v := .tuple #[.agg #[.int .i64 3, .int .i64 0, .bool false, .string ⟨t.toArray⟩, .float .f64 0], .bool true]) (by simp [results, Tryz.results117, go_sem]) rfl ⟨rfl, by go_grown⟩
 by_cases h4 : k = 4
 ·subst h4
  rw [show partV ⟨4, i, b, t, n⟩ = ⟨4, 0, false, [], n⟩ from rfl, show isK 4 = true from rfl]
  go_enter Tryz.func117, Tryz.ntmps117
  go_wp2_with fail
  exact bodyPost_ret (v := .tuple #[.agg #[.int .i64 4, .int .i64 0, .bool false, .string ⟨#[]⟩, .float .f64 n], .bool true]) (by simp [results, Tryz.results117, go_sem]) rfl ⟨rfl, by go_grown⟩
 have e1 : partV ⟨k, i, b, t, n⟩ = ⟨k, 0, false, [], 0⟩ := by unfold partV; simp only; rw [if_neg h1, if_neg h2, if_neg h3, if_neg h4]
 have e2 : isK k = false := by unfold isK; simp [h1, h2, h3, h4]
 rw [e1, e2]
 clear e1 e2
 go_enter Tryz.func117, Tryz.ntmps117
 go_wp2_with fail
 exact bodyPost_ret (v := .tuple #[.agg #[.int .i64 k, .int .i64 0, .bool false, .string ⟨#[]⟩, .float .f64 0], .bool false]) (by simp [results, Tryz.results117, go_sem]) rfl ⟨rfl, by go_grown⟩
end
end Go.Proofs.YtjnhgfmjehaalaaGreat
/- Package value, walked: Good and what is reckoned. -/
namespace Go.Proofs.YtjnhgfmjehaalaaGreat
open Go.RowKit
set_option linter.unusedVariables false
def goodV (v : Val) : Bool := isK v.kind && sameV v (partV v) && decide ((v.text.length : Int) ≤ 32)
theorem cells5 {w : World} {b : Nat} {t : TypeId} {f : Nat × Nat} {v0 v1 v2 v3 v4 : Value} (h : w.heap[b]? = some (.cells #[v0, v1, v2, v3, v4] t f)) : w.cell? ⟨b, 0, none⟩ = some v0 ∧ w.cell? ⟨b, 1, none⟩ = some v1 ∧ w.cell? ⟨b, 2, none⟩ = some v2 ∧ w.cell? ⟨b, 3, none⟩ = some v3 ∧ w.cell? ⟨b, 4, none⟩ = some v4 :=
 ⟨cell_of h 0, cell_of h 1, cell_of h 2, cell_of h 3, cell_of h 4⟩
section
variable {w : World}
theorem good_c (v : Val) : Calls Tryz.prog 71 #[.agg #[.int .i64 v.kind, .int .i64 v.int, .bool v.bool, .string ⟨v.text.toArray⟩, .float .f64 v.num]] w (Ret w (.bool (goodV v))) := by
 have SF := store_f64
 have E := Lib.hid (show goodV v = (isK v.kind && sameV v (partV v) && decide ((v.text.length : Int) ≤ 32)) from rfl)
 have B0 := Lib.hid (show Below w.heap.size w (w.alloc (.cells #[.int .i64 v.kind, .int .i64 v.int, .bool v.bool, .string ⟨v.text.toArray⟩, .float .f64 v.num] 39)) from (Below.refl _ _).alloc (Nat.le_refl _) _)
 have L0 := Lib.hid (show Loc1 w.heap.size 39 #[.int .i64 v.kind, .int .i64 v.int, .bool v.bool, .string ⟨v.text.toArray⟩, .float .f64 v.num] (w.alloc (.cells #[.int .i64 v.kind, .int .i64 v.int, .bool v.bool, .string ⟨v.text.toArray⟩, .float .f64 v.num] 39)) from heap_new _ _)
 have HP := Lib.hid (part_c (w := w.alloc (.cells #[.int .i64 v.kind, .int .i64 v.int, .bool v.bool, .string ⟨v.text.toArray⟩, .float .f64 v.num] 39)) v)
 go_enter Tryz.func71, Tryz.ntmps71
 go_wp2_with fail
 refine HP.out.mono ?_
 rintro e w1 ⟨rfl, hb⟩
 have B1 := Lib.hid (below_self B0.out hb)
 have L1 := Lib.hid (L0.out.below hb)
 obtain ⟨k0, k1, k2, k3, k4⟩ := cells5 L1.out
 have hz := lt_of_heap L1.out
 clear hb HP B0 L0
 generalize partV v = p at *
 cases hk : isK v.kind
 ·replace E := Lib.hid (E.out.trans (by rw [hk]; rfl : _ = false))
  go_wp2_with fail
  go_ret
  rw [E.out]
  exact ⟨rfl, by (first | exact B1.out | exact below_alloc B1.out (Nat.le_refl _) _)⟩
 ·have B2 := Lib.hid (show Below w1.heap.size w1 (w1.alloc (.cells #[.int .i64 p.kind, .int .i64 p.int, .bool p.bool, .string ⟨p.text.toArray⟩, .float .f64 p.num] 39)) from (Below.refl _ _).alloc (Nat.le_refl _) _)
  have L2 := Lib.hid (L1.out.below B2.out)
  go_wp2_with fail
  refine (same_c v p).mono ?_
  rintro e w2 ⟨rfl, hb⟩
  have B3 := Lib.hid (below_self B1.out (below_self B2.out hb))
  have L3 := Lib.hid (L2.out.below hb)
  have k3' : w2.cell? ⟨w.heap.size, 3, none⟩ = some (.string ⟨v.text.toArray⟩) := cell_of L3.out 3
  clear hb k0 k1 k2 k3 k4
  cases hs : sameV v p
  ·replace E := Lib.hid (E.out.trans (by rw [hk, hs]; rfl : _ = false))
   go_wp2_with fail
   go_ret
   rw [E.out]
   exact ⟨rfl, B3.out⟩
  ·replace E := Lib.hid (E.out.trans (by rw [hk, hs]; rfl : _ = decide ((v.text.length : Int) ≤ 32)))
   go_wp2_with fail
   go_ret
   rw [E.out]
   exact ⟨rfl, B3.out⟩
end
end Go.Proofs.YtjnhgfmjehaalaaGreat
/- Package value, walked: what is reckoned with ints. -/
namespace Go.Proofs.YtjnhgfmjehaalaaGreat
open Go.RowKit
set_option linter.unusedVariables false
section
variable {w : World}
end
end Go.Proofs.YtjnhgfmjehaalaaGreat
/- Package value, walked: what is reckoned with floats. -/
namespace Go.Proofs.YtjnhgfmjehaalaaGreat
open Go.RowKit
set_option linter.unusedVariables false
section
variable {w : World}
end
end Go.Proofs.YtjnhgfmjehaalaaGreat
/- Package value, walked: what is reckoned with values. -/
namespace Go.Proofs.YtjnhgfmjehaalaaGreat
open Go.RowKit
set_option linter.unusedVariables false
def zeroV : Val := ⟨0, 0, false, [], 0⟩
def Loc2 (N N1 : Nat) (t t1 : TypeId) (cm cs : Array Value) (W : World) : Prop := W.heap[N]? = some (.cells cm t (0, 0)) ∧ W.heap[N1]? = some (.cells cs t1 (0, 0))
theorem Loc2.below {N N1 : Nat} {t t1 : TypeId} {cm cs : Array Value} {W W' : World} (h : Loc2 N N1 t t1 cm cs W) (hb : Below W.heap.size W W') : Loc2 N N1 t t1 cm cs W' :=
 ⟨(hb.block _ (lt_of_heap h.1)).trans h.1, (hb.block _ (lt_of_heap h.2)).trans h.2⟩
section
variable {w : World}
end
end Go.Proofs.YtjnhgfmjehaalaaGreat
/- Package expr, walked: its small parts, and how a part is refused. -/
namespace Go.Proofs.YtjnhgfmjehaalaaGreat
open Go.RowKit
set_option linter.unusedVariables false
def ariF (op : Int) : Int := if op = 1 ∨ op = 2 then 0 else if op = 3 ∨ op = 12 ∨ op = 16 then 1 else if op = 13 then 3 else if 4 ≤ op ∧ op ≤ 16 then 2 else -1
section
variable {w : World}
theorem arity_c (op : Int) : Calls Tryz.prog 113 #[.int .i64 op] w fun e w' => e = .returned (.int .i64 (ariF op)) ∧ w = w' := by
 have E := Lib.hid (show ariF op = if op = 1 ∨ op = 2 then 0 else if op = 3 ∨ op = 12 ∨ op = 16 then 1 else if op = 13 then 3 else if 4 ≤ op ∧ op ≤ 16 then 2 else -1 from rfl)
 generalize ariF op = r at *
 go_enter Tryz.func113, Tryz.ntmps113
 go_wp2_with fail
 all_goals (go_ret; rw [E.out]; refine ⟨?_, rfl⟩; simp_all; try omega)
theorem must_ok (err : Int) : Calls Tryz.prog 68 #[.bool true, .int .i64 err] w fun e w' => e = .returned (.tuple #[]) ∧ w = w' := by
 go_enter Tryz.func68, Tryz.ntmps68
 go_wp2_with fail
 go_end0
 exact ⟨rfl, rfl⟩
def Bad (err : Int) (e : Ending) : Prop := e = .panicked [{ v := .iface 142 (.int .i64 err), recovered := false }]
theorem must_no (err : Int) : Calls Tryz.prog 68 #[.bool false, .int .i64 err] w fun e w' => Bad err e ∧ w = w' := by
 go_enter Tryz.func68, Tryz.ntmps68
 go_wp2_with fail
 exact ⟨rfl, rfl, rfl⟩
def isN (k : Int) : Bool := k == 1 || k == 4
theorem numeric_c (k : Int) : Calls Tryz.prog 116 #[.int .i64 k] w fun e w' => e = .returned (.bool (isN k)) ∧ w = w' := by
 have E := Lib.hid (show isN k = (k == 1 || k == 4) from rfl)
 cases h1 : (k == 1)
 ·go_enter Tryz.func116, Tryz.ntmps116
  go_wp2_with fail
  go_ret
  rw [E.out, h1]
  exact ⟨rfl, rfl⟩
 ·go_enter Tryz.func116, Tryz.ntmps116
  go_wp2_with fail
  go_ret
  rw [E.out, h1]
  exact ⟨rfl, rfl⟩
theorem told_ok (v : Val) : Calls Tryz.prog 119 #[.agg #[.int .i64 v.kind, .int .i64 v.int, .bool v.bool, .string ⟨v.text.toArray⟩, .float .f64 v.num], .int .i64 0] w (Ret w (.agg #[.int .i64 v.kind, .int .i64 v.int, .bool v.bool, .string ⟨v.text.toArray⟩, .float .f64 v.num])) := by
 have SF := store_f64
 go_enter Tryz.func119, Tryz.ntmps119
 go_wp2_with fail
 refine (must_ok 0).mono ?_
 rintro e w1 ⟨rfl, rfl⟩
 go_wp2_with fail
 exact bodyPost_ret (v := .agg #[.int .i64 v.kind, .int .i64 v.int, .bool v.bool, .string ⟨v.text.toArray⟩, .float .f64 v.num]) (by simp [results, Tryz.results119, go_sem]) rfl ⟨rfl, by go_grown⟩
theorem told_no (v : Val) (err : Int) (h : ¬ err = 0) : Calls Tryz.prog 119 #[.agg #[.int .i64 v.kind, .int .i64 v.int, .bool v.bool, .string ⟨v.text.toArray⟩, .float .f64 v.num], .int .i64 err] w fun e w' => Bad err e ∧ Below w.heap.size w w' := by
 have SF := store_f64
 have h' : (err == 0) = false := by simpa using h
 go_enter Tryz.func119, Tryz.ntmps119
 go_wp2_with fail
 refine (must_no err).mono ?_
 rintro e w1 ⟨rfl, rfl⟩
 go_wp2_with fail
 exact ⟨rfl, rfl, by go_grown⟩
theorem assert_bad (xT : TypeId) (err : Int) (W : World) : (Instr.typeAssert (.iface 142 (.int .i64 err)) xT 142 true).run Tryz.prog W = .ok (.tuple #[.int .i64 err, .bool true]) W := by
 simp [Instr.typeAssert, run_underlying Tryz.underlying142]
set_option maxRecDepth 20000 in
/-- a refused part, caught -/
theorem caught_bad (p : Addr) (x err : Int) (older : List PanicEntry) (w : World) (hc : w.cell? p = some (.int .i64 x)) (hz : w.frozen? p = false) :
 CallsD Tryz.prog 67 #[.pointer (some p)] (.panicking ({ v := .iface 142 (.int .i64 err), recovered := false } :: older)) w fun e u' w' =>
  e = .returned (.tuple #[]) ∧ u' = .panicking ({ v := .iface 142 (.int .i64 err), recovered := true } :: older) ∧ w' = w.setCell p (.int .i64 err) := by
 have TA := fun xT W => assert_bad xT err W
 refine callsD_of_wpS Tryz.func67 rfl fun c₀ cs hu => ?_
 apply wpS_seq
 apply wpS_region
 simp [wpOpsS, go_sem, recoverD, hu, Tryz.ntmps67, Exit.thenS]
 refine wpS_of_wp ?_
 generalize hQ : (fun (e : Exit) (a' : Act) (w' : World) => bodyPostS Tryz.prog Tryz.f67 c₀ cs _ e a' _ w') = Q
 show Code.wp _ _ Q { tmps := #[.pointer (some p), undef, undef, undef, undef, .iface 142 (.int .i64 err), undef, undef, undef, undef, undef, undef, undef, undef], defers := [] } w
 go_wp2_with fail
 subst hQ
 simp [bodyPostS, results, Tryz.results67]
set_option maxRecDepth 20000 in
/-- nothing was refused -/
theorem caught_idle (p : Addr) (w : World) :
 CallsD Tryz.prog 67 #[.pointer (some p)] .returning w fun e u' w' => e = .returned (.tuple #[]) ∧ u' = .returning ∧ w' = w := by
 refine callsD_of_wpS Tryz.func67 rfl fun c₀ cs hu => ?_
 apply wpS_seq
 apply wpS_region
 simp [wpOpsS, go_sem, recoverD, hu, Tryz.ntmps67, Exit.thenS]
 refine wpS_of_wp ?_
 generalize hQ : (fun (e : Exit) (a' : Act) (w' : World) => bodyPostS Tryz.prog Tryz.f67 c₀ cs _ e a' _ w') = Q
 show Code.wp _ _ Q { tmps := #[.pointer (some p), undef, undef, undef, undef, .nilIface, undef, undef, undef, undef, undef, undef, undef, undef], defers := [] } w
 go_wp2_with fail
 subst hQ
 cases c₀
 simp_all [bodyPostS, results, Tryz.results67]
end
end Go.Proofs.YtjnhgfmjehaalaaGreat
/- Package expr, walked: a field is found. -/
namespace Go.Proofs.YtjnhgfmjehaalaaGreat
open Go.RowKit
set_option linter.unusedVariables false
def isF (name : List UInt8) (f : Fld) : Bool := f.name == name
def idx {α : Type} (p : α → Bool) (l : List α) : Int := match l.findIdx? p with | some i => i | none => -1
def findF (name : List UInt8) (l : List Fld) : Int := idx (isF name) l
section
variable {ok : Nat → Prop} {w : World} {A : Option Addr} {n c : Nat}
theorem fld_at {l : List Fld} (h : Sl kFld ok w (.slice A n c) l) {i : Nat} (hi : i < n) :
 ∃ ad f B d, A = some ad ∧ l[i]? = some f ∧ Sl kStr ok w (.slice B f.enum.length d) f.enum ∧ w.cell? (ad.add (i * 8)) = some (.string ⟨f.name.toArray⟩) ∧
  w.cell? ⟨(ad.add (i * 8)).block, (ad.add (i * 8)).off + 1, none⟩ = some (.int .i64 f.kind) ∧ w.cell? ⟨(ad.add (i * 8)).block, (ad.add (i * 8)).off + 2, none⟩ = some (.slice B f.enum.length d) ∧
  w.cell? ⟨(ad.add (i * 8)).block, (ad.add (i * 8)).off + 3, none⟩ = some (.int .i64 f.init.kind) ∧ w.cell? ⟨(ad.add (i * 8)).block, (ad.add (i * 8)).off + 4, none⟩ = some (.int .i64 f.init.int) ∧
  w.cell? ⟨(ad.add (i * 8)).block, (ad.add (i * 8)).off + 5, none⟩ = some (.bool f.init.bool) ∧ w.cell? ⟨(ad.add (i * 8)).block, (ad.add (i * 8)).off + 6, none⟩ = some (.string ⟨f.init.text.toArray⟩) ∧
  w.cell? ⟨(ad.add (i * 8)).block, (ad.add (i * 8)).off + 7, none⟩ = some (.float .f64 f.init.num) := by
 obtain ⟨ad, f, cs, ea, he, hr, h0, hj⟩ := cells_at h hi
 obtain ⟨B, d, rfl, hs⟩ := fld_open hr
 exact ⟨ad, f, B, d, ea, he, hs, h0 _ rfl, hj 0 _ rfl, hj 1 _ rfl, hj 2 _ rfl, hj 3 _ rfl, hj 4 _ rfl, hj 5 _ rfl, hj 6 _ rfl⟩
theorem find1_c (name : List UInt8) (f : Fld) (B : Option Addr) (d N : Nat) (hN : Loc1 N 9 #[.string ⟨name.toArray⟩] w) : Calls Tryz.prog 155 #[.agg #[.string ⟨f.name.toArray⟩, .int .i64 f.kind, .slice B f.enum.length d, .int .i64 f.init.kind, .int .i64 f.init.int, .bool f.init.bool, .string ⟨f.init.text.toArray⟩, .float .f64 f.init.num], .pointer (some ⟨N, 0, none⟩)] w (Ret w (.bool (isF name f))) := by
 have E := Lib.hid (show isF name f = (f.name == name) from rfl)
 have SF := store_f64
 have hc : w.cell? ⟨N, 0, none⟩ = some (.string ⟨name.toArray⟩) := cell_of hN 0
 have hz := lt_of_heap hN
 clear hN
 go_enter Tryz.func155, Tryz.ntmps155
 go_wp2_with fail
 go_ret
 rw [E.out]
 exact ⟨rfl, (Below.refl _ _).alloc (Nat.le_refl _) _⟩
theorem index_f (name : List UInt8) (N : Nat) {l : List Fld} (h : Sl kFld ok w (.slice A n c) l) (hN : Loc1 N 9 #[.string ⟨name.toArray⟩] w) : Calls Tryz.prog 99 #[.slice A n c, .func (.func 155) #[] #[.pointer (some ⟨N, 0, none⟩)]] w (Ret w (.int .i64 (findF name l))) := by
 rw [show findF name l = idx (isF name) l from rfl]
 have H := Lib.hid h
 have hmax := h.len.2.2.1
 have hnc := h.len.2.1
 have HN := Lib.hid hN
 clear h hN
 go_enter Tryz.func99, Tryz.ntmps99
 go_wp2_with fail
 have SF := store_f64
 go_loopw [8] (fun v wr => ∃ k : Nat, k ≤ n ∧ v = .int .i64 k ∧ (∀ j x, j < k → l[j]? = some x → (isF name) x = false) ∧ Below w.heap.size w wr) (fun v _ => n - (intOf v).toNat)
 case atStart => exact ⟨0, Nat.zero_le _, rfl, fun j x hj => absurd hj (Nat.not_lt_zero _), Below.refl _ _⟩
 case round =>
  obtain ⟨k, hk, rfl, hp, hb⟩ := hrel
  have HP := Lib.hid hp
  have HB := Lib.hid hb
  have HN2 := Lib.hid (show Loc1 N 9 #[.string ⟨name.toArray⟩] wr from (hb.block _ (lt_of_heap HN.out)).trans HN.out)
  clear hp hb
  by_cases hlt : k < n
  ·obtain ⟨ad, e, B, d, rfl, he, -, c0, c1, c2, c3, c4, c5, c6, c7⟩ := fld_at (H.out.below HB.out) hlt
   have HE := Lib.hid he
   have HC := Lib.hid (find1_c name e B d N (HN2.out))
   clear he
   cases hm : isF name e
   ·have HM := Lib.hid hm
    go_wp2_with (go_at_call 155; refine HC.out.mono ?_; rintro e1 w1 ⟨rfl, hb1⟩; have HB1 := Lib.hid (HB.out.trans (hb1.mono HB.out.size)); clear hb1)
    go_roundw
    case rel =>
     refine ⟨k + 1, by omega, by go_num, fun j x hj hx => ?_, HB1.out⟩
     rcases Nat.lt_or_ge j k with h | h
     ·exact HP.out j x h hx
     ·have : j = k := by omega
      subst this
      rw [HE.out] at hx
      injection hx with hx
      rw [← hx]
      exact HM.out
    case measure => simp [intOf]; omega
   ·have e1 : idx (isF name) l = k := by
     unfold idx
     have : l.findIdx? (isF name) = some k := by
      rw [List.findIdx?_eq_some_iff_getElem]
      obtain ⟨hkl, hke⟩ := List.getElem?_eq_some_iff.1 HE.out
      refine ⟨hkl, by rw [hke]; exact hm, fun j hj => ?_⟩
      have := HP.out j l[j] hj (List.getElem?_eq_getElem (by omega))
      simp [this]
     rw [this]
    rw [e1]
    clear e1
    go_wp2_with (go_at_call 155; refine HC.out.mono ?_; rintro e1 w1 ⟨rfl, hb1⟩; have HB1 := Lib.hid (HB.out.trans (hb1.mono HB.out.size)); clear hb1)
    go_ret
    exact ⟨rfl, HB1.out⟩
  ·have e1 : idx (isF name) l = -1 := by
    unfold idx
    have : l.findIdx? (isF name) = none := by
     rw [List.findIdx?_eq_none_iff]
     intro x hx
     obtain ⟨j, hj, rfl⟩ := List.getElem_of_mem hx
     exact HP.out j _ (by have := H.out.len.1; omega) (List.getElem?_eq_getElem hj)
    rw [this]
   have E1 := Lib.hid e1
   clear e1
   go_wp2_with fail
   go_ret
   refine ⟨?_, HB.out⟩
   rw [E1.out]
   rfl
theorem find_c (name : List UInt8) {l : List Fld} (h : Sl kFld ok w (.slice A n c) l) : Calls Tryz.prog 115 #[.string ⟨name.toArray⟩, .slice A n c] w (Ret w (.int .i64 (findF name l))) := by
 have hmf : ∀ (fn : Fn) (first cap : Array Value) (w : World), (Instr.makeFunc fn first cap).run Tryz.prog w = .ok (.func fn first cap) w := fun _ _ _ _ => rfl
 have B0 := Lib.hid (show Below w.heap.size w (w.alloc (.cells #[.string ⟨name.toArray⟩] 9)) from (Below.refl _ _).alloc (Nat.le_refl _) _)
 have HI := Lib.hid (index_f name w.heap.size (h.below B0.out) (heap_new w (.cells #[.string ⟨name.toArray⟩] 9)))
 clear h
 go_enter Tryz.func115, Tryz.ntmps115
 go_wp2_with fail
 refine HI.out.mono ?_
 rintro e w1 ⟨rfl, hb⟩
 have B1 := Lib.hid (below_self B0.out hb)
 clear hb
 go_wp2_with fail
 go_ret
 exact ⟨rfl, B1.out⟩
theorem findF_some {name : List UInt8} {l : List Fld} (h : 0 ≤ findF name l) : ∃ i f, findF name l = (i : Nat) ∧ l[i]? = some f ∧ f.name = name := by
 unfold findF idx at *
 cases hf : l.findIdx? (isF name) with
 | none => rw [hf] at h; exact absurd h (by decide)
 | some i =>
  rw [List.findIdx?_eq_some_iff_getElem] at hf
  obtain ⟨hi, hp, _⟩ := hf
  exact ⟨i, l[i], rfl, List.getElem?_eq_getElem hi, by simpa [isF] using hp⟩
theorem findF_none {name : List UInt8} {l : List Fld} (h : ¬ 0 ≤ findF name l) : findF name l = -1 := by
 unfold findF idx at *
 cases hf : l.findIdx? (isF name) with
 | none => rfl
 | some i => rw [hf] at h; exact absurd (Int.natCast_nonneg i) h
end
end Go.Proofs.YtjnhgfmjehaalaaGreat
