/- Package value, walked: Float. -/
import Derived.Test.YtijlamajcdekkaaE9
namespace Go.Proofs.Ytijlamajcdekkaa
open Go.RowKit
set_option linter.unusedVariables false
def floatV (a : Val) : Val × Int := if goodV a = true ∧ a.kind = 1 then (numV (codeB (floatOfInt .f64 a.int)), 0) else (zeroV, 40)
section
variable {w : World}
set_option maxHeartbeats 2000000 in
theorem float_c (a : Val) : Calls Try.prog 56 #[.agg #[.int .i64 a.kind, .int .i64 a.int, .bool a.bool, .string ⟨a.text.toArray⟩, .float .f64 a.num]] w (Ret w (.tuple #[.agg #[.int .i64 (floatV a).1.kind, .int .i64 (floatV a).1.int, .bool (floatV a).1.bool, .string ⟨(floatV a).1.text.toArray⟩, .float .f64 (floatV a).1.num], .int .i64 (floatV a).2])) := by
  have E := Lib.hid (show floatV a = if goodV a = true ∧ a.kind = 1 then (numV (codeB (floatOfInt .f64 a.int)), 0) else (zeroV, 40) from rfl)
  have HG := Lib.hid (fun W : World => good_c (w := W) a)
  generalize floatV a = r at *
  generalize goodV a = g at *
  have SF := store_f64
  have B0 := Lib.hid (show Below w.heap.size w ((w.alloc (.cells #[.int .i64 a.kind, .int .i64 a.int, .bool a.bool, .string ⟨a.text.toArray⟩, .float .f64 a.num] 25)).alloc (.cells #[.int .i64 0, .int .i64 0, .bool false, .string ⟨#[]⟩, .float .f64 0] 25)) from ((Below.refl _ _).alloc (Nat.le_refl _) _).alloc (by simp) _)
  have L0 := Lib.hid (show Loc2 w.heap.size (w.heap.size + 1) 25 25 #[.int .i64 a.kind, .int .i64 a.int, .bool a.bool, .string ⟨a.text.toArray⟩, .float .f64 a.num] #[.int .i64 0, .int .i64 0, .bool false, .string ⟨#[]⟩, .float .f64 0] ((w.alloc (.cells #[.int .i64 a.kind, .int .i64 a.int, .bool a.bool, .string ⟨a.text.toArray⟩, .float .f64 a.num] 25)).alloc (.cells #[.int .i64 0, .int .i64 0, .bool false, .string ⟨#[]⟩, .float .f64 0] 25)) from
    ⟨(Below.heap_alloc _ _ _ (by simp)).trans (heap_new _ _), by have := heap_new (w.alloc (.cells #[.int .i64 a.kind, .int .i64 a.int, .bool a.bool, .string ⟨a.text.toArray⟩, .float .f64 a.num] 25)) (.cells #[.int .i64 0, .int .i64 0, .bool false, .string ⟨#[]⟩, .float .f64 0] 25); simpa using this⟩)
  go_enter Try.func56, Try.ntmps56
  go_wp2_with fail
  refine (HG.out _).mono ?_
  rintro e w1 ⟨rfl, hb⟩
  have B1 := Lib.hid (below_self B0.out hb)
  have L1 := Lib.hid (L0.out.below hb)
  clear hb B0 L0
  obtain ⟨k0, k1, k2, k3, k4⟩ := cells5 L1.out.1
  obtain ⟨m0, m1, m2, m3, m4⟩ := cells5 L1.out.2
  obtain ⟨u0, u1, u2, u3, u4⟩ := frees5 L1.out.2
  have hz := lt_of_heap L1.out.2
  cases g
  · replace E := Lib.hid (show r = (zeroV, 40) by rw [E.out]; simp)
    go_wp2_with fail
    have KH := set5_heap (.int .i64 0) (.int .i64 0) (.bool false) (.string ⟨#[]⟩) (.float .f64 0) L1.out.2
    have X5 := set5_ext w1 (w.heap.size + 1) (.int .i64 0) (.int .i64 0) (.bool false) (.string ⟨#[]⟩) (.float .f64 0)
    obtain ⟨q0, q1, q2, q3, q4⟩ := cells5 KH
    unfold set5 at q0 q1 q2 q3 q4 X5
    rw [E.out]
    exact bodyPost_ret (v := .tuple #[.agg #[.int .i64 0, .int .i64 0, .bool false, .string ⟨#[]⟩, .float .f64 0], .int .i64 40]) (by simp [results, Try.results56, go_sem, q0, q1, q2, q3, q4]) rfl ⟨rfl, B1.out.trans (below_of_ext_ne X5 (by omega) B1.out.size)⟩
  · by_cases h1 : a.kind = 1
    · replace E := Lib.hid (show r = (numV (codeB (floatOfInt .f64 a.int)), 0) by rw [E.out]; simp [h1])
      rw [h1] at k0
      go_wp2_with fail
      refine (ofNum_c (floatOfInt .f64 a.int)).mono ?_
      rintro e w2 ⟨rfl, hb⟩
      have B2 := Lib.hid (below_self B1.out hb)
      have L2 := Lib.hid (L1.out.below hb)
      clear hb B1 L1
      generalize codeB (floatOfInt .f64 a.int) = q at *
      clear k0 k1 k2 k3 k4 m0 m1 m2 m3 m4 u0 u1 u2 u3 u4 hz
      obtain ⟨k0, k1, k2, k3, k4⟩ := cells5 L2.out.1
      obtain ⟨m0, m1, m2, m3, m4⟩ := cells5 L2.out.2
      obtain ⟨u0, u1, u2, u3, u4⟩ := frees5 L2.out.2
      have hz := lt_of_heap L2.out.2
      go_wp2_with fail
      have KH := set5_heap (.int .i64 4) (.int .i64 0) (.bool false) (.string ⟨#[]⟩) (.float .f64 q) L2.out.2
      have X5 := set5_ext w2 (w.heap.size + 1) (.int .i64 4) (.int .i64 0) (.bool false) (.string ⟨#[]⟩) (.float .f64 q)
      obtain ⟨q0, q1, q2, q3, q4⟩ := cells5 KH
      unfold set5 at q0 q1 q2 q3 q4 X5
      rw [E.out]
      exact bodyPost_ret (v := .tuple #[.agg #[.int .i64 4, .int .i64 0, .bool false, .string ⟨#[]⟩, .float .f64 q], .int .i64 0]) (by simp [results, Try.results56, go_sem, q0, q1, q2, q3, q4]) rfl ⟨rfl, B2.out.trans (below_of_ext_ne X5 (by omega) B2.out.size)⟩
    · replace E := Lib.hid (show r = (zeroV, 40) by rw [E.out]; simp [h1])
      go_wp2_with fail
      have KH := set5_heap (.int .i64 0) (.int .i64 0) (.bool false) (.string ⟨#[]⟩) (.float .f64 0) L1.out.2
      have X5 := set5_ext w1 (w.heap.size + 1) (.int .i64 0) (.int .i64 0) (.bool false) (.string ⟨#[]⟩) (.float .f64 0)
      obtain ⟨q0, q1, q2, q3, q4⟩ := cells5 KH
      unfold set5 at q0 q1 q2 q3 q4 X5
      rw [E.out]
      exact bodyPost_ret (v := .tuple #[.agg #[.int .i64 0, .int .i64 0, .bool false, .string ⟨#[]⟩, .float .f64 0], .int .i64 40]) (by simp [results, Try.results56, go_sem, q0, q1, q2, q3, q4]) rfl ⟨rfl, B1.out.trans (below_of_ext_ne X5 (by omega) B1.out.size)⟩
end
end Go.Proofs.Ytijlamajcdekkaa
