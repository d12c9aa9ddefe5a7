/- The references' Good and Fit, walked. -/
import Derived.Test.YtjnhgfmjehaalaaF1
namespace Go.Proofs.Ytjnhgfmjehaalaa
open Go.RowKit
set_option linter.unusedVariables false
set_option linter.unusedSimpArgs false
theorem codeB_0 : codeB 0 = 0 := by decide +kernel
/-- good, as the reference says it -/
theorem goodV_eq (k i : Int) (b : Bool) (t : List UInt8) (n : Nat) : goodV ⟨k, i, b, t, n⟩ =
    (decide (1 ≤ k ∧ k ≤ 4 ∧ (t.length : Int) ≤ 32) && (decide (k = 1 ∨ i = 0) && decide (k = 2 ∨ b = false) && decide (k = 3 ∨ t = [])) && decide (k = 4 ∨ codeB n = 0)) := by
  unfold goodV isK sameV partV
  rw [Bool.eq_iff_iff]
  by_cases h1 : k = 1
  · subst h1; simp [codeB_0]; grind
  · by_cases h2 : k = 2
    · subst h2; simp [codeB_0]; grind
    · by_cases h3 : k = 3
      · subst h3; simp [codeB_0]; grind
      · by_cases h4 : k = 4
        · subst h4; simp [codeB_0]; grind
        · simp [h1, h2, h3, h4, codeB_0]; omega
section
variable {w : World}
set_option maxHeartbeats 4000000 in
theorem good4_c (v : Val) : Calls Try.prog 75 #[.agg #[.int .i64 v.kind, .int .i64 v.int, .bool v.bool, .string ⟨v.text.toArray⟩, .float .f64 v.num]] w (Ret w (.bool (goodV v))) := by
  have SF := store_f64
  obtain ⟨k, i, b, t, n⟩ := v
  have E := goodV_eq k i b t n
  simp only
  by_cases hk : 1 ≤ k ∧ k ≤ 4 ∧ (t.length : Int) ≤ 32
  · obtain ⟨hk1, hk4, hlen⟩ := hk
    rcases (show k = 1 ∨ k = 2 ∨ k = 3 ∨ k = 4 by omega) with rfl | rfl | rfl | rfl
    · skip
      cases b
      · skip
        by_cases ht : t = []
        · subst ht
          replace E := Lib.hid (E.trans (by simp [hlen] : _ = decide (codeB n = 0)))
          go_enter Try.func75, Try.ntmps75
          go_wp2_with fail
          refine (bits_c n).mono ?_
          rintro e w1 ⟨rfl, rfl⟩
          generalize codeB n = cn at *
          go_wp2_with fail
          go_ret
          rw [E.out, show ((cn : Int) == 0) = decide (cn = 0) by rw [Bool.eq_iff_iff, beq_iff_eq, decide_eq_true_iff]; omega]
          exact ⟨rfl, by go_grown⟩
        · replace E := Lib.hid (E.trans (by simp [ht] : _ = false))
          have hte : t.isEmpty = false := by simpa using ht
          go_enter Try.func75, Try.ntmps75
          go_wp2_with fail
          go_ret
          rw [E.out]
          exact ⟨rfl, by go_grown⟩
      · replace E := Lib.hid (E.trans (by simp : _ = false))
        go_enter Try.func75, Try.ntmps75
        go_wp2_with fail
        go_ret
        rw [E.out]
        exact ⟨rfl, by go_grown⟩
    · skip
      by_cases hi : i = 0
      · subst hi
        by_cases ht : t = []
        · subst ht
          replace E := Lib.hid (E.trans (by simp [hlen] : _ = decide (codeB n = 0)))
          go_enter Try.func75, Try.ntmps75
          go_wp2_with fail
          refine (bits_c n).mono ?_
          rintro e w1 ⟨rfl, rfl⟩
          generalize codeB n = cn at *
          go_wp2_with fail
          go_ret
          rw [E.out, show ((cn : Int) == 0) = decide (cn = 0) by rw [Bool.eq_iff_iff, beq_iff_eq, decide_eq_true_iff]; omega]
          exact ⟨rfl, by go_grown⟩
        · replace E := Lib.hid (E.trans (by simp [ht] : _ = false))
          have hte : t.isEmpty = false := by simpa using ht
          go_enter Try.func75, Try.ntmps75
          go_wp2_with fail
          go_ret
          rw [E.out]
          exact ⟨rfl, by go_grown⟩
      · replace E := Lib.hid (E.trans (by simp [hi] : _ = false))
        go_enter Try.func75, Try.ntmps75
        go_wp2_with fail
        go_ret
        rw [E.out]
        exact ⟨rfl, by go_grown⟩
    · skip
      by_cases hi : i = 0
      · subst hi
        cases b
        · skip
          replace E := Lib.hid (E.trans (by simp [hlen] : _ = decide (codeB n = 0)))
          go_enter Try.func75, Try.ntmps75
          go_wp2_with fail
          refine (bits_c n).mono ?_
          rintro e w1 ⟨rfl, rfl⟩
          generalize codeB n = cn at *
          go_wp2_with fail
          go_ret
          rw [E.out, show ((cn : Int) == 0) = decide (cn = 0) by rw [Bool.eq_iff_iff, beq_iff_eq, decide_eq_true_iff]; omega]
          exact ⟨rfl, by go_grown⟩
        · replace E := Lib.hid (E.trans (by simp : _ = false))
          go_enter Try.func75, Try.ntmps75
          go_wp2_with fail
          go_ret
          rw [E.out]
          exact ⟨rfl, by go_grown⟩
      · replace E := Lib.hid (E.trans (by simp [hi] : _ = false))
        go_enter Try.func75, Try.ntmps75
        go_wp2_with fail
        go_ret
        rw [E.out]
        exact ⟨rfl, by go_grown⟩
    · skip
      by_cases hi : i = 0
      · subst hi
        cases b
        · skip
          by_cases ht : t = []
          · subst ht
            replace E := Lib.hid (E.trans (by simp [hlen] : _ = true))
            go_enter Try.func75, Try.ntmps75
            go_wp2_with fail
            go_ret
            rw [E.out]
            exact ⟨rfl, by go_grown⟩
          · replace E := Lib.hid (E.trans (by simp [ht] : _ = false))
            have hte : t.isEmpty = false := by simpa using ht
            go_enter Try.func75, Try.ntmps75
            go_wp2_with fail
            go_ret
            rw [E.out]
            exact ⟨rfl, by go_grown⟩
        · replace E := Lib.hid (E.trans (by simp : _ = false))
          go_enter Try.func75, Try.ntmps75
          go_wp2_with fail
          go_ret
          rw [E.out]
          exact ⟨rfl, by go_grown⟩
      · replace E := Lib.hid (E.trans (by simp [hi] : _ = false))
        go_enter Try.func75, Try.ntmps75
        go_wp2_with fail
        go_ret
        rw [E.out]
        exact ⟨rfl, by go_grown⟩
  · rw [decide_eq_false hk] at E
    simp only [Bool.false_and] at E
    replace E := Lib.hid E
    by_cases h1 : k < 1
    · go_enter Try.func75, Try.ntmps75
      go_wp2_with fail
      go_ret
      rw [E.out]
      exact ⟨rfl, by go_grown⟩
    · by_cases h2 : k > 4
      · go_enter Try.func75, Try.ntmps75
        go_wp2_with fail
        go_ret
        rw [E.out]
        exact ⟨rfl, by go_grown⟩
      · have h3 : (t.length : Int) > 32 := by omega
        clear hk
        go_enter Try.func75, Try.ntmps75
        go_wp2_with fail
        go_ret
        rw [E.out]
        exact ⟨rfl, by go_grown⟩
end
end Go.Proofs.Ytjnhgfmjehaalaa
