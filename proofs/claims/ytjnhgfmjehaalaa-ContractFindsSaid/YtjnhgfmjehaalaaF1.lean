/- The references' values, walked: Bits, Same, Good, Int, Num, Truth. -/
import Derived.Test.YtjnhgfmjehaalaaE10
namespace Go.Proofs.Ytjnhgfmjehaalaa
open Go.RowKit
set_option linter.unusedVariables false
section
variable {w : World}
theorem bits_c (b : Nat) : Calls Try.prog 90 #[.float .f64 b] w fun e w' => e = .returned (.int .u64 (codeB b : Nat)) ∧ w = w' := by
  have FB := f64bits_run
  have E := Lib.hid (show codeB b = if nanB b then 9221120237041090561 else b from rfl)
  cases hn : nanB b
  · have hn' : (FloatKind.f64.format.order b b != some Ordering.eq) = false := hn
    go_enter Try.func90, Try.ntmps90
    go_wp2_with fail
    all_goals go_ret
    all_goals rw [E.out, hn]
    all_goals exact ⟨rfl, rfl⟩
  · have hn' : (FloatKind.f64.format.order b b != some Ordering.eq) = true := hn
    go_enter Try.func90, Try.ntmps90
    go_wp2_with fail
    all_goals go_ret
    all_goals rw [E.out, hn]
    all_goals exact ⟨rfl, rfl⟩
set_option maxRecDepth 20000 in
set_option maxHeartbeats 2000000 in
theorem same4_c (x y : Val) : Calls Try.prog 103 #[.agg #[.int .i64 x.kind, .int .i64 x.int, .bool x.bool, .string ⟨x.text.toArray⟩, .float .f64 x.num], .agg #[.int .i64 y.kind, .int .i64 y.int, .bool y.bool, .string ⟨y.text.toArray⟩, .float .f64 y.num]] w (Ret w (.bool (sameV x y))) := by
  have SF := store_f64
  have E : sameV x y = ((x.kind == y.kind && x.int == y.int && x.bool == y.bool && x.text == y.text) && (codeB x.num == codeB y.num)) := rfl
  obtain ⟨k, i, b, t, n⟩ := x
  obtain ⟨k', i', b', t', n'⟩ := y
  simp only at *
  by_cases h1 : k = k'
  · subst h1
    by_cases h2 : i = i'
    · subst h2
      by_cases h3 : b = b'
      · subst h3
        by_cases h4 : t = t'
        · subst h4
          simp only [beq_self_eq_true, Bool.true_and] at E
          replace E := Lib.hid E
          go_enter Try.func103, Try.ntmps103
          go_wp2_with fail
          go_quiet ((first | (go_at_call 90; exact quiet_left (bits_c _))))
          generalize codeB n = ca at *
          generalize codeB n' = cb at *
          go_wp2_with fail
          go_ret
          rw [E.out, show ((ca : Int) == (cb : Int)) = (ca == cb) by rw [Bool.eq_iff_iff, beq_iff_eq, beq_iff_eq]; omega]
          exact ⟨rfl, by (go_grown; try exact below_drewN (by go_grown) _)⟩
        · replace E := Lib.hid (show sameV ⟨k, i, b, t, n⟩ ⟨k, i, b, t', n'⟩ = false by rw [E, show (t == t') = false by simpa using h4]; simp)
          have h5 : (t == t') = false := by simpa using h4
          clear h4
          go_enter Try.func103, Try.ntmps103
          go_wp2_with fail
          go_quiet ((first | (go_at_call 90; exact quiet_left (bits_c _))))
          go_wp2_with fail
          go_ret
          rw [E.out]
          exact ⟨rfl, by (go_grown; try exact below_drewN (by go_grown) _)⟩
      · replace E := Lib.hid (show sameV ⟨k, i, b, t, n⟩ ⟨k, i, b', t', n'⟩ = false by rw [E, show (b == b') = false by simpa using h3]; simp)
        have h5 : (b == b') = false := by simpa using h3
        clear h3
        go_enter Try.func103, Try.ntmps103
        go_wp2_with fail
        go_quiet ((first | (go_at_call 90; exact quiet_left (bits_c _))))
        go_wp2_with fail
        go_ret
        rw [E.out]
        exact ⟨rfl, by (go_grown; try exact below_drewN (by go_grown) _)⟩
    · replace E := Lib.hid (show sameV ⟨k, i, b, t, n⟩ ⟨k, i', b', t', n'⟩ = false by rw [E, show (i == i') = false by simpa using h2]; simp)
      have h5 : (i == i') = false := by simpa using h2
      clear h2
      go_enter Try.func103, Try.ntmps103
      go_wp2_with fail
      go_quiet ((first | (go_at_call 90; exact quiet_left (bits_c _))))
      go_wp2_with fail
      go_ret
      rw [E.out]
      exact ⟨rfl, by (go_grown; try exact below_drewN (by go_grown) _)⟩
  · replace E := Lib.hid (show sameV ⟨k, i, b, t, n⟩ ⟨k', i', b', t', n'⟩ = false by rw [E, show (k == k') = false by simpa using h1]; simp)
    have h5 : (k == k') = false := by simpa using h1
    clear h1
    go_enter Try.func103, Try.ntmps103
    go_wp2_with fail
    go_quiet ((first | (go_at_call 90; exact quiet_left (bits_c _))))
    go_wp2_with fail
    go_ret
    rw [E.out]
    exact ⟨rfl, by (go_grown; try exact below_drewN (by go_grown) _)⟩
end
end Go.Proofs.Ytjnhgfmjehaalaa
