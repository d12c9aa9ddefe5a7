/- Package expr, walked: its small parts, and how a part is refused. -/
import Derived.Test.YtjnhgfmjehaalaaE8
import Derived.Recover
namespace Go.Proofs.Ytjnhgfmjehaalaa
open Go.RowKit
set_option linter.unusedVariables false
def ariF (op : Int) : Int := if op = 1 ∨ op = 2 then 0 else if op = 3 ∨ op = 12 ∨ op = 16 then 1 else if op = 13 then 3 else if 4 ≤ op ∧ op ≤ 16 then 2 else -1
section
variable {w : World}
theorem arity_c (op : Int) : Calls Try.prog 98 #[.int .i64 op] w fun e w' => e = .returned (.int .i64 (ariF op)) ∧ w = w' := by
  have E := Lib.hid (show ariF op = if op = 1 ∨ op = 2 then 0 else if op = 3 ∨ op = 12 ∨ op = 16 then 1 else if op = 13 then 3 else if 4 ≤ op ∧ op ≤ 16 then 2 else -1 from rfl)
  generalize ariF op = r at *
  go_enter Try.func98, Try.ntmps98
  go_wp2_with fail
  all_goals (go_ret; rw [E.out]; refine ⟨?_, rfl⟩; simp_all; try omega)
theorem must_ok (err : Int) : Calls Try.prog 86 #[.bool true, .int .i64 err] w fun e w' => e = .returned (.tuple #[]) ∧ w = w' := by
  go_enter Try.func86, Try.ntmps86
  go_wp2_with fail
  go_end0
  exact ⟨rfl, rfl⟩
def Bad (err : Int) (e : Ending) : Prop := e = .panicked [{ v := .iface 121 (.int .i64 err), recovered := false }]
theorem must_no (err : Int) : Calls Try.prog 86 #[.bool false, .int .i64 err] w fun e w' => Bad err e ∧ w = w' := by
  go_enter Try.func86, Try.ntmps86
  go_wp2_with fail
  exact ⟨rfl, rfl, rfl⟩
def isN (k : Int) : Bool := k == 1 || k == 4
theorem numeric_c (k : Int) : Calls Try.prog 100 #[.int .i64 k] w fun e w' => e = .returned (.bool (isN k)) ∧ w = w' := by
  have E := Lib.hid (show isN k = (k == 1 || k == 4) from rfl)
  cases h1 : (k == 1)
  · go_enter Try.func100, Try.ntmps100
    go_wp2_with fail
    go_ret
    rw [E.out, h1]
    exact ⟨rfl, rfl⟩
  · go_enter Try.func100, Try.ntmps100
    go_wp2_with fail
    go_ret
    rw [E.out, h1]
    exact ⟨rfl, rfl⟩
theorem assert_bad (xT : TypeId) (err : Int) (W : World) : (Instr.typeAssert (.iface 121 (.int .i64 err)) xT 121 true).run Try.prog W = .ok (.tuple #[.int .i64 err, .bool true]) W := by
  simp [Instr.typeAssert, run_underlying Try.underlying121]
set_option maxRecDepth 20000 in
/-- a refused part, caught -/
theorem caught_bad (p : Addr) (x err : Int) (older : List PanicEntry) (w : World) (hc : w.cell? p = some (.int .i64 x)) (hz : w.frozen? p = false) :
    CallsD Try.prog 85 #[.pointer (some p)] (.panicking ({ v := .iface 121 (.int .i64 err), recovered := false } :: older)) w fun e u' w' =>
      e = .returned (.tuple #[]) ∧ u' = .panicking ({ v := .iface 121 (.int .i64 err), recovered := true } :: older) ∧ w' = w.setCell p (.int .i64 err) := by
  have TA := fun xT W => assert_bad xT err W
  refine callsD_of_wpS Try.func85 rfl fun c₀ cs hu => ?_
  apply wpS_seq
  apply wpS_region
  simp [wpOpsS, go_sem, recoverD, hu, Try.ntmps85, Exit.thenS]
  refine wpS_of_wp ?_
  generalize hQ : (fun (e : Exit) (a' : Act) (w' : World) => bodyPostS Try.prog Try.f85 c₀ cs _ e a' _ w') = Q
  show Code.wp _ _ Q { tmps := #[.pointer (some p), undef, undef, undef, undef, .iface 121 (.int .i64 err), undef, undef, undef, undef, undef, undef, undef, undef], defers := [] } w
  go_wp2_with fail
  subst hQ
  simp [bodyPostS, results, Try.results85]
set_option maxRecDepth 20000 in
/-- nothing was refused -/
theorem caught_idle (p : Addr) (w : World) :
    CallsD Try.prog 85 #[.pointer (some p)] .returning w fun e u' w' => e = .returned (.tuple #[]) ∧ u' = .returning ∧ w' = w := by
  refine callsD_of_wpS Try.func85 rfl fun c₀ cs hu => ?_
  apply wpS_seq
  apply wpS_region
  simp [wpOpsS, go_sem, recoverD, hu, Try.ntmps85, Exit.thenS]
  refine wpS_of_wp ?_
  generalize hQ : (fun (e : Exit) (a' : Act) (w' : World) => bodyPostS Try.prog Try.f85 c₀ cs _ e a' _ w') = Q
  show Code.wp _ _ Q { tmps := #[.pointer (some p), undef, undef, undef, undef, .nilIface, undef, undef, undef, undef, undef, undef, undef, undef], defers := [] } w
  go_wp2_with fail
  subst hQ
  cases c₀
  simp_all [bodyPostS, results, Try.results85]
end
end Go.Proofs.Ytjnhgfmjehaalaa
