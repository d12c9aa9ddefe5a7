/- Package expr, walked: Check. -/
import Derived.Test.YtjnhgfmjehaalaaE12
namespace Go.Proofs.Ytjnhgfmjehaalaa
open Go.RowKit
set_option linter.unusedVariables false
/-- an expression's kind and 0; or 0 and the error -/
def chkE (fl : List Fld) (n : Nat) (e : Exp) : Int × Int := if small e then match kE fl n e with | .ok k => (k, 0) | .error x => (0, x) else (0, 51)
set_option maxRecDepth 20000 in
theorem leaves_caught {fn : Func} {tmps : Array Value} {R : Ending → World → Prop} {p : Addr} {x err : Int} {w : World} {v : Value} (hc : w.cell? p = some (.int .i64 x)) (hz : w.frozen? p = false)
    (hv : (results fn tmps).run Try.prog (w.setCell p (.int .i64 err)) = .ok v (w.setCell p (.int .i64 err))) (hR : R (.returned v) (w.setCell p (.int .i64 err))) :
    Leaves Try.prog fn tmps R [{ target := .fn (.func 85) #[], args := #[.pointer (some p)] }] (.panicking [{ v := .iface 121 (.int .i64 err), recovered := false }]) w := by
  refine leaves_cons (f := 85) (args := #[.pointer (some p)]) (by simp) (by simp [invoke, go_sem]) (CallsD.mono (caught_bad p x err [] w hc hz) ?_)
  rintro e u' w' ⟨rfl, rfl, rfl⟩
  exact ⟨v, hv, hR⟩
set_option maxRecDepth 20000 in
theorem leaves_idle {fn : Func} {tmps : Array Value} {R : Ending → World → Prop} {p : Addr} {w : World} {v : Value}
    (hv : (results fn tmps).run Try.prog w = .ok v w) (hR : R (.returned v) w) :
    Leaves Try.prog fn tmps R [{ target := .fn (.func 85) #[], args := #[.pointer (some p)] }] .returning w := by
  refine leaves_cons (f := 85) (args := #[.pointer (some p)]) (by simp) (by simp [invoke, go_sem]) (CallsD.mono (caught_idle p w) ?_)
  rintro e u' w' ⟨rfl, rfl, rfl⟩
  exact ⟨v, hv, hR⟩
section
variable {w : World}
set_option maxRecDepth 20000 in
theorem check_c {A : Option Addr} {N c : Nat} {fl : List Fld} {n : Nat} {cs : List Value} {e : Exp} (h : (kExp n).R (fun _ => True) w cs e) (hf : Sl kFld (fun _ => True) w (.slice A N c) fl) :
    Calls Try.prog 70 #[.agg cs.toArray, .slice A N c] w (Ret w (.tuple #[.int .i64 (chkE fl n e).1, .int .i64 (chkE fl n e).2])) := by
  obtain ⟨k, B, d, hk, rfl, hs⟩ := exp_open h
  have SF := store_f64
  have B0 := Lib.hid (show Below w.heap.size w ((w.alloc (.cells #[.int .i64 e.op, .slice B e.kids.length d, .string ⟨e.name.toArray⟩, .int .i64 e.val.kind, .int .i64 e.val.int, .bool e.val.bool, .string ⟨e.val.text.toArray⟩, .float .f64 e.val.num] 44)).alloc (.cells #[.int .i64 0] 28)) from ((Below.refl _ _).alloc (Nat.le_refl _) _).alloc (by simp) _)
  have L0 := Lib.hid (show Loc2 w.heap.size (w.heap.size + 1) 44 28 #[.int .i64 e.op, .slice B e.kids.length d, .string ⟨e.name.toArray⟩, .int .i64 e.val.kind, .int .i64 e.val.int, .bool e.val.bool, .string ⟨e.val.text.toArray⟩, .float .f64 e.val.num] #[.int .i64 0] ((w.alloc (.cells #[.int .i64 e.op, .slice B e.kids.length d, .string ⟨e.name.toArray⟩, .int .i64 e.val.kind, .int .i64 e.val.int, .bool e.val.bool, .string ⟨e.val.text.toArray⟩, .float .f64 e.val.num] 44)).alloc (.cells #[.int .i64 0] 28)) from
    ⟨(Below.heap_alloc _ _ _ (by simp)).trans (heap_new _ _), by have := heap_new (w.alloc (.cells #[.int .i64 e.op, .slice B e.kids.length d, .string ⟨e.name.toArray⟩, .int .i64 e.val.kind, .int .i64 e.val.int, .bool e.val.bool, .string ⟨e.val.text.toArray⟩, .float .f64 e.val.num] 44)) (.cells #[.int .i64 0] 28); simpa using this⟩)
  have HH := Lib.hid (show ∀ W : World, Below w.heap.size w W → (kExp n).R (fun _ => True) W [.int .i64 e.op, .slice B e.kids.length d, .string ⟨e.name.toArray⟩, .int .i64 e.val.kind, .int .i64 e.val.int, .bool e.val.bool, .string ⟨e.val.text.toArray⟩, .float .f64 e.val.num] e from fun W hW => (by rw [hk]; exact exp_mk (hs.below hW)))
  have HF := Lib.hid (show ∀ W : World, Below w.heap.size w W → Sl kFld (fun _ => True) W (.slice A N c) fl from fun W hW => hf.below hW)
  have E := Lib.hid (show chkE fl n e = if small e then match kE fl n e with | .ok k => (k, 0) | .error x => (0, x) else (0, 51) from rfl)
  generalize chkE fl n e = r at *
  clear h hf hs
  go_enter_defers Try.func70, Try.ntmps70
  go_wp2_with fail
  refine (small_c (HH.out _ B0.out)).mono ?_
  rintro e1 w1 ⟨rfl, hb⟩
  have B1 := Lib.hid (below_self B0.out hb)
  have L1 := Lib.hid (L0.out.below hb)
  clear hb B0 L0
  obtain ⟨e0, e1, e2, e3, e4, e5, e6, e7⟩ := cells8 L1.out.1
  cases hsm : small e
  · have E1 := Lib.hid (show r = (0, 51) by rw [E.out, hsm]; rfl)
    go_wp2_with fail
    refine (must_no 51).mono ?_
    rintro x9 w9 ⟨hbd, rfl⟩
    have hbd : x9 = .panicked [{ v := .iface 121 (.int .i64 51), recovered := false }] := hbd
    subst hbd
    go_wp2_with fail
    have q0 := cell_of L1.out.2 0
    have q1 := free_of L1.out.2 0
    simp only [List.getElem?_toArray, List.getElem?_cons_zero] at q0
    have KC := cell_of (heap_set L1.out.2 0 (.int .i64 51)) 0
    simp only [List.setIfInBounds_toArray, List.set_cons_zero, List.getElem?_toArray, List.getElem?_cons_zero] at KC
    rw [E1.out]
    exact leaves_caught (v := .tuple #[.int .i64 0, .int .i64 51]) (x := 0) q0 q1 (by simp [results, Try.results70, go_sem, KC]) ⟨rfl, below_ext_ne B1.out (ext_set_ne (Ext.refl (fun b => b ≠ w.heap.size + 1) _) 0 _) (Nat.le_succ _) (Nat.le_refl _)⟩
  · have E1 := Lib.hid (show r = match kE fl n e with | .ok k => (k, 0) | .error x => (0, x) by rw [E.out, hsm]; rfl)
    clear E
    go_wp2_with fail
    refine (must_ok 51).mono ?_
    rintro x9 w9 ⟨rfl, rfl⟩
    go_wp2_with fail
    refine (kind_c n _ _ e (HH.out _ B1.out) (HF.out _ B1.out)).mono ?_
    rintro x9 w2 ⟨hret, hb⟩
    have B2 := Lib.hid (below_self B1.out hb)
    have L2 := Lib.hid (L1.out.below hb)
    cases hr : kE fl n e with
    | error y =>
      rw [hr] at hret
      have hret : x9 = .panicked [{ v := .iface 121 (.int .i64 y), recovered := false }] := hret
      subst hret
      have E2 := Lib.hid (show r = (0, y) by rw [E1.out, hr])
      go_wp2_with fail
      have q0 := cell_of L2.out.2 0
      have q1 := free_of L2.out.2 0
      simp only [List.getElem?_toArray, List.getElem?_cons_zero] at q0
      have KC := cell_of (heap_set L2.out.2 0 (.int .i64 y)) 0
      simp only [List.setIfInBounds_toArray, List.set_cons_zero, List.getElem?_toArray, List.getElem?_cons_zero] at KC
      rw [E2.out]
      exact leaves_caught (v := .tuple #[.int .i64 0, .int .i64 y]) (x := 0) q0 q1 (by simp [results, Try.results70, go_sem, KC]) ⟨rfl, below_ext_ne B2.out (ext_set_ne (Ext.refl (fun b => b ≠ w.heap.size + 1) _) 0 _) (Nat.le_succ _) (Nat.le_refl _)⟩
    | ok k =>
      rw [hr] at hret
      have hret : x9 = .returned (.int .i64 k) := hret
      subst hret
      have E2 := Lib.hid (show r = (k, 0) by rw [E1.out, hr])
      have q0 := cell_of L2.out.2 0
      have q1 := free_of L2.out.2 0
      simp only [List.getElem?_toArray, List.getElem?_cons_zero] at q0
      go_wp2_with fail
      have KC := cell_of (heap_set L2.out.2 0 (.int .i64 0)) 0
      simp only [List.setIfInBounds_toArray, List.set_cons_zero, List.getElem?_toArray, List.getElem?_cons_zero] at KC
      rw [E2.out]
      exact leaves_idle (v := .tuple #[.int .i64 k, .int .i64 0]) (by simp [results, Try.results70, go_sem, KC]) ⟨rfl, below_ext_ne B2.out (ext_set_ne (Ext.refl (fun b => b ≠ w.heap.size + 1) _) 0 _) (Nat.le_succ _) (Nat.le_refl _)⟩
end
end Go.Proofs.Ytjnhgfmjehaalaa
