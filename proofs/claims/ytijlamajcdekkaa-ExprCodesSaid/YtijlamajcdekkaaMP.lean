/- Texts that go together. -/
import Derived.Test.YtijlamajcdekkaaE9
import Derived.Deep.RegionHeld3
/- Package value, walked: Float. -/
namespace Go.Proofs.Ytijlamajcdekkaa
open Go.RowKit
set_option linter.unusedVariables false
def floatV (a : Val) : Val × Int := if goodV a = true ∧ a.kind = 1 then (numV (codeB (floatOfInt .f64 a.int)), 0) else (zeroV, 40)
section
variable {w : World}
set_option maxHeartbeats 2000000 in
theorem float_c (a : Val) : Calls Try.prog 56 #[.agg #[.int .i64 a.kind, .int .i64 a.int, .bool a.bool, .string ⟨a.text.toArray⟩, .float .f64 a.num]] w (Ret w (.tuple #[.agg #[.int .i64 (floatV a).1.kind, .int .i64 (floatV a).1.int, .bool (floatV a).1.bool, .string ⟨(floatV a).1.text.toArray⟩, .float .f64 (floatV a).1.num], .int .i64 (floatV a).2])) := by
  have E := Lib.hid (show floatV a = if goodV a = true ∧ a.kind = 1 then (numV (codeB (floatOfInt .f64 a.int)), 0) else (zeroV, 40) from rfl)
  have HG := Lib.hid (fun W : World => good_c (w := W) a)
  generalize floatV a = r at *
  generalize goodV a = g at *
  have SF := store_f64
  have B0 := Lib.hid (show Below w.heap.size w ((w.alloc (.cells #[.int .i64 a.kind, .int .i64 a.int, .bool a.bool, .string ⟨a.text.toArray⟩, .float .f64 a.num] 25)).alloc (.cells #[.int .i64 0, .int .i64 0, .bool false, .string ⟨#[]⟩, .float .f64 0] 25)) from ((Below.refl _ _).alloc (Nat.le_refl _) _).alloc (by simp) _)
  have L0 := Lib.hid (show Loc2 w.heap.size (w.heap.size + 1) 25 25 #[.int .i64 a.kind, .int .i64 a.int, .bool a.bool, .string ⟨a.text.toArray⟩, .float .f64 a.num] #[.int .i64 0, .int .i64 0, .bool false, .string ⟨#[]⟩, .float .f64 0] ((w.alloc (.cells #[.int .i64 a.kind, .int .i64 a.int, .bool a.bool, .string ⟨a.text.toArray⟩, .float .f64 a.num] 25)).alloc (.cells #[.int .i64 0, .int .i64 0, .bool false, .string ⟨#[]⟩, .float .f64 0] 25)) from
    ⟨(Below.heap_alloc _ _ _ (by simp)).trans (heap_new _ _), by have := heap_new (w.alloc (.cells #[.int .i64 a.kind, .int .i64 a.int, .bool a.bool, .string ⟨a.text.toArray⟩, .float .f64 a.num] 25)) (.cells #[.int .i64 0, .int .i64 0, .bool false, .string ⟨#[]⟩, .float .f64 0] 25); simpa using this⟩)
  go_enter Try.func56, Try.ntmps56
  go_wp2_with fail
  refine (HG.out _).mono ?_
  rintro e w1 ⟨rfl, hb⟩
  have B1 := Lib.hid (below_self B0.out hb)
  have L1 := Lib.hid (L0.out.below hb)
  clear hb B0 L0
  obtain ⟨k0, k1, k2, k3, k4⟩ := cells5 L1.out.1
  obtain ⟨m0, m1, m2, m3, m4⟩ := cells5 L1.out.2
  obtain ⟨u0, u1, u2, u3, u4⟩ := frees5 L1.out.2
  have hz := lt_of_heap L1.out.2
  cases g
  · replace E := Lib.hid (show r = (zeroV, 40) by rw [E.out]; simp)
    go_wp2_with fail
    have KH := set5_heap (.int .i64 0) (.int .i64 0) (.bool false) (.string ⟨#[]⟩) (.float .f64 0) L1.out.2
    have X5 := set5_ext w1 (w.heap.size + 1) (.int .i64 0) (.int .i64 0) (.bool false) (.string ⟨#[]⟩) (.float .f64 0)
    obtain ⟨q0, q1, q2, q3, q4⟩ := cells5 KH
    unfold set5 at q0 q1 q2 q3 q4 X5
    rw [E.out]
    exact bodyPost_ret (v := .tuple #[.agg #[.int .i64 0, .int .i64 0, .bool false, .string ⟨#[]⟩, .float .f64 0], .int .i64 40]) (by simp [results, Try.results56, go_sem, q0, q1, q2, q3, q4]) rfl ⟨rfl, B1.out.trans (below_of_ext_ne X5 (by omega) B1.out.size)⟩
  · by_cases h1 : a.kind = 1
    · replace E := Lib.hid (show r = (numV (codeB (floatOfInt .f64 a.int)), 0) by rw [E.out]; simp [h1])
      rw [h1] at k0
      go_wp2_with fail
      refine (ofNum_c (floatOfInt .f64 a.int)).mono ?_
      rintro e w2 ⟨rfl, hb⟩
      have B2 := Lib.hid (below_self B1.out hb)
      have L2 := Lib.hid (L1.out.below hb)
      clear hb B1 L1
      generalize codeB (floatOfInt .f64 a.int) = q at *
      clear k0 k1 k2 k3 k4 m0 m1 m2 m3 m4 u0 u1 u2 u3 u4 hz
      obtain ⟨k0, k1, k2, k3, k4⟩ := cells5 L2.out.1
      obtain ⟨m0, m1, m2, m3, m4⟩ := cells5 L2.out.2
      obtain ⟨u0, u1, u2, u3, u4⟩ := frees5 L2.out.2
      have hz := lt_of_heap L2.out.2
      go_wp2_with fail
      have KH := set5_heap (.int .i64 4) (.int .i64 0) (.bool false) (.string ⟨#[]⟩) (.float .f64 q) L2.out.2
      have X5 := set5_ext w2 (w.heap.size + 1) (.int .i64 4) (.int .i64 0) (.bool false) (.string ⟨#[]⟩) (.float .f64 q)
      obtain ⟨q0, q1, q2, q3, q4⟩ := cells5 KH
      unfold set5 at q0 q1 q2 q3 q4 X5
      rw [E.out]
      exact bodyPost_ret (v := .tuple #[.agg #[.int .i64 4, .int .i64 0, .bool false, .string ⟨#[]⟩, .float .f64 q], .int .i64 0]) (by simp [results, Try.results56, go_sem, q0, q1, q2, q3, q4]) rfl ⟨rfl, B2.out.trans (below_of_ext_ne X5 (by omega) B2.out.size)⟩
    · replace E := Lib.hid (show r = (zeroV, 40) by rw [E.out]; simp [h1])
      go_wp2_with fail
      have KH := set5_heap (.int .i64 0) (.int .i64 0) (.bool false) (.string ⟨#[]⟩) (.float .f64 0) L1.out.2
      have X5 := set5_ext w1 (w.heap.size + 1) (.int .i64 0) (.int .i64 0) (.bool false) (.string ⟨#[]⟩) (.float .f64 0)
      obtain ⟨q0, q1, q2, q3, q4⟩ := cells5 KH
      unfold set5 at q0 q1 q2 q3 q4 X5
      rw [E.out]
      exact bodyPost_ret (v := .tuple #[.agg #[.int .i64 0, .int .i64 0, .bool false, .string ⟨#[]⟩, .float .f64 0], .int .i64 40]) (by simp [results, Try.results56, go_sem, q0, q1, q2, q3, q4]) rfl ⟨rfl, B1.out.trans (below_of_ext_ne X5 (by omega) B1.out.size)⟩
end
end Go.Proofs.Ytijlamajcdekkaa

/- Package value, walked: Neg. -/
namespace Go.Proofs.Ytijlamajcdekkaa
open Go.RowKit
set_option linter.unusedVariables false
def negV (a : Val) : Val × Int := if goodV a = true ∧ a.kind = 4 then (numV (codeB (Op.negFloat .f64 a.num)), 0) else reckV 5 (intV 0) a
section
variable {w : World}
set_option maxHeartbeats 2000000 in
theorem neg_c (a : Val) : Calls Try.prog 55 #[.agg #[.int .i64 a.kind, .int .i64 a.int, .bool a.bool, .string ⟨a.text.toArray⟩, .float .f64 a.num]] w (Ret w (.tuple #[.agg #[.int .i64 (negV a).1.kind, .int .i64 (negV a).1.int, .bool (negV a).1.bool, .string ⟨(negV a).1.text.toArray⟩, .float .f64 (negV a).1.num], .int .i64 (negV a).2])) := by
  have NF : ∀ (W : World) (b : Nat), (Op.unary .neg (.float .f64 b)).run Try.prog W = .ok (.float .f64 (Op.negFloat .f64 b)) W := fun _ _ => rfl
  have E := Lib.hid (show negV a = if goodV a = true ∧ a.kind = 4 then (numV (codeB (Op.negFloat .f64 a.num)), 0) else reckV 5 (intV 0) a from rfl)
  have HG := Lib.hid (fun W : World => good_c (w := W) a)
  have HR := Lib.hid (fun W : World => reckon_c (w := W) 5 (.inr (.inl rfl)) (intV 0) a)
  generalize negV a = r at *
  generalize goodV a = g at *
  have SF := store_f64
  have B0 := Lib.hid (show Below w.heap.size w ((w.alloc (.cells #[.int .i64 a.kind, .int .i64 a.int, .bool a.bool, .string ⟨a.text.toArray⟩, .float .f64 a.num] 25)).alloc (.cells #[.int .i64 0, .int .i64 0, .bool false, .string ⟨#[]⟩, .float .f64 0] 25)) from ((Below.refl _ _).alloc (Nat.le_refl _) _).alloc (by simp) _)
  have L0 := Lib.hid (show Loc2 w.heap.size (w.heap.size + 1) 25 25 #[.int .i64 a.kind, .int .i64 a.int, .bool a.bool, .string ⟨a.text.toArray⟩, .float .f64 a.num] #[.int .i64 0, .int .i64 0, .bool false, .string ⟨#[]⟩, .float .f64 0] ((w.alloc (.cells #[.int .i64 a.kind, .int .i64 a.int, .bool a.bool, .string ⟨a.text.toArray⟩, .float .f64 a.num] 25)).alloc (.cells #[.int .i64 0, .int .i64 0, .bool false, .string ⟨#[]⟩, .float .f64 0] 25)) from
    ⟨(Below.heap_alloc _ _ _ (by simp)).trans (heap_new _ _), by have := heap_new (w.alloc (.cells #[.int .i64 a.kind, .int .i64 a.int, .bool a.bool, .string ⟨a.text.toArray⟩, .float .f64 a.num] 25)) (.cells #[.int .i64 0, .int .i64 0, .bool false, .string ⟨#[]⟩, .float .f64 0] 25); simpa using this⟩)
  go_enter Try.func55, Try.ntmps55
  go_wp2_with fail
  refine (HG.out _).mono ?_
  rintro e w1 ⟨rfl, hb⟩
  have B1 := Lib.hid (below_self B0.out hb)
  have L1 := Lib.hid (L0.out.below hb)
  clear hb B0 L0
  obtain ⟨k0, k1, k2, k3, k4⟩ := cells5 L1.out.1
  obtain ⟨m0, m1, m2, m3, m4⟩ := cells5 L1.out.2
  obtain ⟨u0, u1, u2, u3, u4⟩ := frees5 L1.out.2
  have hz := lt_of_heap L1.out.2
  by_cases h4 : g = true ∧ a.kind = 4
  · replace E := Lib.hid (show r = (numV (codeB (Op.negFloat .f64 a.num)), 0) by rw [E.out, if_pos h4])
    obtain ⟨rfl, h4⟩ := h4
    rw [h4] at k0
    go_wp2_with fail
    refine (ofNum_c (Op.negFloat .f64 a.num)).mono ?_
    rintro e w2 ⟨rfl, hb⟩
    have B2 := Lib.hid (below_self B1.out hb)
    have L2 := Lib.hid (L1.out.below hb)
    clear hb B1 L1
    generalize codeB (Op.negFloat .f64 a.num) = q at *
    clear k0 k1 k2 k3 k4 m0 m1 m2 m3 m4 u0 u1 u2 u3 u4 hz
    obtain ⟨k0, k1, k2, k3, k4⟩ := cells5 L2.out.1
    obtain ⟨m0, m1, m2, m3, m4⟩ := cells5 L2.out.2
    obtain ⟨u0, u1, u2, u3, u4⟩ := frees5 L2.out.2
    have hz := lt_of_heap L2.out.2
    go_wp2_with fail
    have KH := set5_heap (.int .i64 4) (.int .i64 0) (.bool false) (.string ⟨#[]⟩) (.float .f64 q) L2.out.2
    have X5 := set5_ext w2 (w.heap.size + 1) (.int .i64 4) (.int .i64 0) (.bool false) (.string ⟨#[]⟩) (.float .f64 q)
    obtain ⟨q0, q1, q2, q3, q4⟩ := cells5 KH
    unfold set5 at q0 q1 q2 q3 q4 X5
    rw [E.out]
    exact bodyPost_ret (v := .tuple #[.agg #[.int .i64 4, .int .i64 0, .bool false, .string ⟨#[]⟩, .float .f64 q], .int .i64 0]) (by simp [results, Try.results55, go_sem, q0, q1, q2, q3, q4]) rfl ⟨rfl, B2.out.trans (below_of_ext_ne X5 (by omega) B2.out.size)⟩
  · replace E := Lib.hid (show r = reckV 5 (intV 0) a by rw [E.out, if_neg h4])
    generalize reckV 5 (intV 0) a = rv at *
    obtain ⟨p, pe⟩ := rv
    cases g
    · clear h4
      have KK := Lib.hid (show ∀ W : World, Below w1.heap.size w1 W → W.cell? ⟨w.heap.size, 0, none⟩ = some (.int .i64 a.kind) ∧ W.cell? ⟨w.heap.size, 1, none⟩ = some (.int .i64 a.int) ∧ W.cell? ⟨w.heap.size, 2, none⟩ = some (.bool a.bool) ∧ W.cell? ⟨w.heap.size, 3, none⟩ = some (.string ⟨a.text.toArray⟩) ∧ W.cell? ⟨w.heap.size, 4, none⟩ = some (.float .f64 a.num) from fun W hW => cells5 ((hW.block _ (lt_of_heap L1.out.1)).trans L1.out.1))
      have KR := Lib.hid (show ∀ W : World, Below w1.heap.size w1 W → Loc2 w.heap.size (w.heap.size + 1) 25 25 #[.int .i64 a.kind, .int .i64 a.int, .bool a.bool, .string ⟨a.text.toArray⟩, .float .f64 a.num] #[.int .i64 0, .int .i64 0, .bool false, .string ⟨#[]⟩, .float .f64 0] W from fun W hW => L1.out.below hW)
      have P1 := Lib.hid (ofInt_c (w := w1.drew) 0)
      clear m0 m1 m2 m3 m4 u0 u1 u2 u3 u4 hz
      go_wp2_with fail
      go_region_held3 (fun W => W.cell? ⟨w.heap.size, 0, none⟩ = some (.int .i64 a.kind) ∧ W.cell? ⟨w.heap.size, 1, none⟩ = some (.int .i64 a.int) ∧ W.cell? ⟨w.heap.size, 2, none⟩ = some (.bool a.bool) ∧ W.cell? ⟨w.heap.size, 3, none⟩ = some (.string ⟨a.text.toArray⟩) ∧ W.cell? ⟨w.heap.size, 4, none⟩ = some (.float .f64 a.num))
        (first | exact KS.out | exact KK.out _ HB2.out | exact KK.out _ HB1.out | exact KK.out _ (Below.refl _ _).drew | go_keep)
        (first
        | (go_at_call 82; refine P1.out.mono ?_; rintro e1 w2 ⟨rfl, hb⟩; have HB1 := Lib.hid (show Below w1.heap.size w1 w2 from (Below.refl _ _).drew.trans hb); clear hb)
        | (go_at_call 59; refine (HR.out _).mono ?_; rintro e1 w3 ⟨rfl, hb⟩; have HB2 := Lib.hid (show Below w1.heap.size w1 w3 from HB1.out.trans (hb.mono HB1.out.size)); obtain ⟨m0, m1, m2, m3, m4⟩ := cells5 (KR.out _ HB2.out).2; obtain ⟨u0, u1, u2, u3, u4⟩ := frees5 (KR.out _ HB2.out).2; have hz := lt_of_heap (KR.out _ HB2.out).2; clear hb))
      go_wp2_with fail
      have KH := set5_heap (.int .i64 p.kind) (.int .i64 p.int) (.bool p.bool) (.string ⟨p.text.toArray⟩) (.float .f64 p.num) (KR.out _ HB2.out).2
      have X5 := set5_ext w3 (w.heap.size + 1) (.int .i64 p.kind) (.int .i64 p.int) (.bool p.bool) (.string ⟨p.text.toArray⟩) (.float .f64 p.num)
      obtain ⟨q0, q1, q2, q3, q4⟩ := cells5 KH
      unfold set5 at q0 q1 q2 q3 q4 X5
      rw [E.out]
      exact bodyPost_ret (v := .tuple #[.agg #[.int .i64 p.kind, .int .i64 p.int, .bool p.bool, .string ⟨p.text.toArray⟩, .float .f64 p.num], .int .i64 pe]) (by simp [results, Try.results55, go_sem, q0, q1, q2, q3, q4]) rfl ⟨rfl, (B1.out.trans (HB2.out.mono B1.out.size)).trans (below_of_ext_ne X5 (by omega) (by have := B1.out.size; have := HB2.out.size; omega))⟩
    · have h4' : ¬ a.kind = 4 := fun h => h4 ⟨rfl, h⟩
      clear h4
      have KK := Lib.hid (show ∀ W : World, Below w1.heap.size w1 W → W.cell? ⟨w.heap.size, 0, none⟩ = some (.int .i64 a.kind) ∧ W.cell? ⟨w.heap.size, 1, none⟩ = some (.int .i64 a.int) ∧ W.cell? ⟨w.heap.size, 2, none⟩ = some (.bool a.bool) ∧ W.cell? ⟨w.heap.size, 3, none⟩ = some (.string ⟨a.text.toArray⟩) ∧ W.cell? ⟨w.heap.size, 4, none⟩ = some (.float .f64 a.num) from fun W hW => cells5 ((hW.block _ (lt_of_heap L1.out.1)).trans L1.out.1))
      have KR := Lib.hid (show ∀ W : World, Below w1.heap.size w1 W → Loc2 w.heap.size (w.heap.size + 1) 25 25 #[.int .i64 a.kind, .int .i64 a.int, .bool a.bool, .string ⟨a.text.toArray⟩, .float .f64 a.num] #[.int .i64 0, .int .i64 0, .bool false, .string ⟨#[]⟩, .float .f64 0] W from fun W hW => L1.out.below hW)
      have P1 := Lib.hid (ofInt_c (w := w1.drew) 0)
      clear m0 m1 m2 m3 m4 u0 u1 u2 u3 u4 hz
      go_wp2_with fail
      go_region_held3 (fun W => W.cell? ⟨w.heap.size, 0, none⟩ = some (.int .i64 a.kind) ∧ W.cell? ⟨w.heap.size, 1, none⟩ = some (.int .i64 a.int) ∧ W.cell? ⟨w.heap.size, 2, none⟩ = some (.bool a.bool) ∧ W.cell? ⟨w.heap.size, 3, none⟩ = some (.string ⟨a.text.toArray⟩) ∧ W.cell? ⟨w.heap.size, 4, none⟩ = some (.float .f64 a.num))
        (first | exact KS.out | exact KK.out _ HB2.out | exact KK.out _ HB1.out | exact KK.out _ (Below.refl _ _).drew | go_keep)
        (first
        | (go_at_call 82; refine P1.out.mono ?_; rintro e1 w2 ⟨rfl, hb⟩; have HB1 := Lib.hid (show Below w1.heap.size w1 w2 from (Below.refl _ _).drew.trans hb); clear hb)
        | (go_at_call 59; refine (HR.out _).mono ?_; rintro e1 w3 ⟨rfl, hb⟩; have HB2 := Lib.hid (show Below w1.heap.size w1 w3 from HB1.out.trans (hb.mono HB1.out.size)); obtain ⟨m0, m1, m2, m3, m4⟩ := cells5 (KR.out _ HB2.out).2; obtain ⟨u0, u1, u2, u3, u4⟩ := frees5 (KR.out _ HB2.out).2; have hz := lt_of_heap (KR.out _ HB2.out).2; clear hb))
      go_wp2_with fail
      have KH := set5_heap (.int .i64 p.kind) (.int .i64 p.int) (.bool p.bool) (.string ⟨p.text.toArray⟩) (.float .f64 p.num) (KR.out _ HB2.out).2
      have X5 := set5_ext w3 (w.heap.size + 1) (.int .i64 p.kind) (.int .i64 p.int) (.bool p.bool) (.string ⟨p.text.toArray⟩) (.float .f64 p.num)
      obtain ⟨q0, q1, q2, q3, q4⟩ := cells5 KH
      unfold set5 at q0 q1 q2 q3 q4 X5
      rw [E.out]
      exact bodyPost_ret (v := .tuple #[.agg #[.int .i64 p.kind, .int .i64 p.int, .bool p.bool, .string ⟨p.text.toArray⟩, .float .f64 p.num], .int .i64 pe]) (by simp [results, Try.results55, go_sem, q0, q1, q2, q3, q4]) rfl ⟨rfl, (B1.out.trans (HB2.out.mono B1.out.size)).trans (below_of_ext_ne X5 (by omega) (by have := B1.out.size; have := HB2.out.size; omega))⟩
end
end Go.Proofs.Ytijlamajcdekkaa
