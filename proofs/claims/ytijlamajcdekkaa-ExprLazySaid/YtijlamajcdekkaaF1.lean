/- The references' values, walked: Bits, Same, Good, Int, Num, Truth. -/
import Derived.Test.YtijlamajcdekkaaE10
namespace Go.Proofs.Ytijlamajcdekkaa
open Go.RowKit
set_option linter.unusedVariables false
section
variable {w : World}
theorem bits_c (b : Nat) : Calls Try.prog 38 #[.float .f64 b] w fun e w' => e = .returned (.int .u64 (codeB b : Nat)) ∧ w = w' := by
  have FB := f64bits_run
  have E := Lib.hid (show codeB b = if nanB b then 9221120237041090561 else b from rfl)
  cases hn : nanB b
  · have hn' : (FloatKind.f64.format.order b b != some Ordering.eq) = false := hn
    go_enter Try.func38, Try.ntmps38
    go_wp2_with fail
    all_goals go_ret
    all_goals rw [E.out, hn]
    all_goals exact ⟨rfl, rfl⟩
  · have hn' : (FloatKind.f64.format.order b b != some Ordering.eq) = true := hn
    go_enter Try.func38, Try.ntmps38
    go_wp2_with fail
    all_goals go_ret
    all_goals rw [E.out, hn]
    all_goals exact ⟨rfl, rfl⟩
theorem rInt_c (n : Int) : Calls Try.prog 16 #[.int .i64 n] w (Ret w (.agg #[.int .i64 1, .int .i64 n, .bool false, .string ⟨#[]⟩, .float .f64 0])) := by
  have SF := store_f64
  go_enter Try.func16, Try.ntmps16
  go_wp2_with fail
  exact bodyPost_ret (v := .agg #[.int .i64 1, .int .i64 n, .bool false, .string ⟨#[]⟩, .float .f64 0]) (by simp [results, Try.results16, go_sem]) rfl ⟨rfl, (Below.refl _ _).alloc (Nat.le_refl _) _⟩
theorem rTruth_c (b : Bool) : Calls Try.prog 35 #[.bool b] w (Ret w (.agg #[.int .i64 2, .int .i64 0, .bool b, .string ⟨#[]⟩, .float .f64 0])) := by
  have SF := store_f64
  go_enter Try.func35, Try.ntmps35
  go_wp2_with fail
  exact bodyPost_ret (v := .agg #[.int .i64 2, .int .i64 0, .bool b, .string ⟨#[]⟩, .float .f64 0]) (by simp [results, Try.results35, go_sem]) rfl ⟨rfl, (Below.refl _ _).alloc (Nat.le_refl _) _⟩
theorem rNum_c (n : Nat) (hn : nanB n = false) : Calls Try.prog 34 #[.float .f64 n] w (Ret w (.agg #[.int .i64 4, .int .i64 0, .bool false, .string ⟨#[]⟩, .float .f64 n])) := by
  have SF := store_f64
  have hn' : (FloatKind.f64.format.order n n != some Ordering.eq) = false := hn
  go_enter Try.func34, Try.ntmps34
  go_wp2_with fail
  all_goals exact bodyPost_ret (v := .agg #[.int .i64 4, .int .i64 0, .bool false, .string ⟨#[]⟩, .float .f64 n]) (by simp [results, Try.results34, go_sem]) rfl ⟨rfl, (Below.refl _ _).alloc (Nat.le_refl _) _⟩
set_option maxRecDepth 20000 in
set_option maxHeartbeats 2000000 in
theorem same4_c (x y : Val) : Calls Try.prog 18 #[.agg #[.int .i64 x.kind, .int .i64 x.int, .bool x.bool, .string ⟨x.text.toArray⟩, .float .f64 x.num], .agg #[.int .i64 y.kind, .int .i64 y.int, .bool y.bool, .string ⟨y.text.toArray⟩, .float .f64 y.num]] w (Ret w (.bool (sameV x y))) := by
  have SF := store_f64
  have E : sameV x y = ((x.kind == y.kind && x.int == y.int && x.bool == y.bool && x.text == y.text) && (codeB x.num == codeB y.num)) := rfl
  obtain ⟨k, i, b, t, n⟩ := x
  obtain ⟨k', i', b', t', n'⟩ := y
  simp only at *
  by_cases h1 : k = k'
  · subst h1
    by_cases h2 : i = i'
    · subst h2
      by_cases h3 : b = b'
      · subst h3
        by_cases h4 : t = t'
        · subst h4
          simp only [beq_self_eq_true, Bool.true_and] at E
          replace E := Lib.hid E
          go_enter Try.func18, Try.ntmps18
          go_wp2_with fail
          go_quiet ((first | (go_at_call 38; exact quiet_left (bits_c _))))
          generalize codeB n = ca at *
          generalize codeB n' = cb at *
          go_wp2_with fail
          go_ret
          rw [E.out, show ((ca : Int) == (cb : Int)) = (ca == cb) by rw [Bool.eq_iff_iff, beq_iff_eq, beq_iff_eq]; omega]
          exact ⟨rfl, by (go_grown; try exact below_drewN (by go_grown) _)⟩
        · replace E := Lib.hid (show sameV ⟨k, i, b, t, n⟩ ⟨k, i, b, t', n'⟩ = false by rw [E, show (t == t') = false by simpa using h4]; simp)
          have h5 : (t == t') = false := by simpa using h4
          clear h4
          go_enter Try.func18, Try.ntmps18
          go_wp2_with fail
          go_quiet ((first | (go_at_call 38; exact quiet_left (bits_c _))))
          go_wp2_with fail
          go_ret
          rw [E.out]
          exact ⟨rfl, by (go_grown; try exact below_drewN (by go_grown) _)⟩
      · replace E := Lib.hid (show sameV ⟨k, i, b, t, n⟩ ⟨k, i, b', t', n'⟩ = false by rw [E, show (b == b') = false by simpa using h3]; simp)
        have h5 : (b == b') = false := by simpa using h3
        clear h3
        go_enter Try.func18, Try.ntmps18
        go_wp2_with fail
        go_quiet ((first | (go_at_call 38; exact quiet_left (bits_c _))))
        go_wp2_with fail
        go_ret
        rw [E.out]
        exact ⟨rfl, by (go_grown; try exact below_drewN (by go_grown) _)⟩
    · replace E := Lib.hid (show sameV ⟨k, i, b, t, n⟩ ⟨k, i', b', t', n'⟩ = false by rw [E, show (i == i') = false by simpa using h2]; simp)
      have h5 : (i == i') = false := by simpa using h2
      clear h2
      go_enter Try.func18, Try.ntmps18
      go_wp2_with fail
      go_quiet ((first | (go_at_call 38; exact quiet_left (bits_c _))))
      go_wp2_with fail
      go_ret
      rw [E.out]
      exact ⟨rfl, by (go_grown; try exact below_drewN (by go_grown) _)⟩
  · replace E := Lib.hid (show sameV ⟨k, i, b, t, n⟩ ⟨k', i', b', t', n'⟩ = false by rw [E, show (k == k') = false by simpa using h1]; simp)
    have h5 : (k == k') = false := by simpa using h1
    clear h1
    go_enter Try.func18, Try.ntmps18
    go_wp2_with fail
    go_quiet ((first | (go_at_call 38; exact quiet_left (bits_c _))))
    go_wp2_with fail
    go_ret
    rw [E.out]
    exact ⟨rfl, by (go_grown; try exact below_drewN (by go_grown) _)⟩
end
end Go.Proofs.Ytijlamajcdekkaa
