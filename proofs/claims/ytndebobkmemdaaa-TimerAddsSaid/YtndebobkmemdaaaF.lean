/- TimerFires, TimerAdds, TimerNone, walked. -/
import Derived.Test.YtndebobkmemdaaaE
namespace Go.Proofs.Ytndebobkmemdaaa
open Go.RowKit
set_option linter.unusedVariables false

theorem fires_no {l d : Int} (h : pos l = false) : fires l d = false := by simp [fires, h]
theorem tickL_no {l d : Int} (h : fires l d = false) (hp : pos l = true) (hd : 1 ≤ d) : tickL l d = l - d := by simp [tickL, h, hp, hd]
theorem tickL_stay {l d : Int} (h : fires l d = false) (hp : ¬ (pos l = true ∧ 1 ≤ d)) : tickL l d = l := by
  unfold tickL
  rw [h, if_neg hp]
  simp
/-! ### TimerAdds -/
theorem adds_pure {x l a b : Int} (h0 : 0 ≤ l) (ha : 0 ≤ a) (hb : 0 ≤ b) (hf : fires l a = false) :
    fires (tickL l a) b = (fires l (a + b) && decide (0 < b)) ∧ (0 < b → tickX x (tickL l a) b = tickX x l (a + b) ∧ tickL (tickL l a) b = tickL l (a + b)) ∧ 0 ≤ tickL l a ∧ tickL l a ≤ l := by
  cases hp : pos l
  · have e : tickL l a = l := tickL_stay hf (by simp [hp])
    rw [e, fires_no hp, fires_no hp]
    refine ⟨by simp, fun _ => ⟨?_, ?_⟩, h0, Int.le_refl _⟩
    · simp [tickX, fires_no hp]
    · rw [tickL_stay (fires_no hp) (by simp [hp]), tickL_stay (fires_no hp) (by simp [hp])]
  · have hl : 0 < l := by simpa [pos] using hp
    have hal : a < l := by
      rw [fires_eq hp] at hf
      simpa using hf
    have e : tickL l a = l - a := by
      by_cases h1 : 1 ≤ a
      · exact tickL_no hf hp h1
      · rw [tickL_stay hf (by simp [hp]; omega)]; omega
    rw [e]
    have hp1 : pos (l - a) = true := by simp [pos]; omega
    rw [fires_eq hp1, fires_eq hp]
    refine ⟨?_, fun hb0 => ?_, by omega, by omega⟩
    · by_cases h1 : l - a ≤ b
      · have h2 : l ≤ a + b := by omega
        have h3 : 0 < b := by omega
        simp [h1, h2, h3]
      · have h2 : ¬ l ≤ a + b := by omega
        simp [h1, h2]
    · by_cases h1 : l - a ≤ b
      · have e1 : fires (l - a) b = true := by rw [fires_eq hp1]; simpa using h1
        have e2 : fires l (a + b) = true := by rw [fires_eq hp]; simp; omega
        simp [tickX, tickL, e1, e2]
      · have e1 : fires (l - a) b = false := by rw [fires_eq hp1]; simpa using h1
        have e2 : fires l (a + b) = false := by rw [fires_eq hp]; simp; omega
        constructor
        · simp [tickX, e1, e2]
        · rw [tickL_no e1 hp1 (by omega), tickL_no e2 hp (by omega)]; omega
theorem inv_tick {x l : Int} (d : Int) (h : Inv x l) : Inv (tickX x l d) (tickL l d) := by simpa [stepX, stepL] using inv_step 4 d h

theorem adds_any (A : Option Addr) (n c : Nat) (l : List (Int × Int)) (a b : Int) (w : World) (h : Acts w A n l) : Calls Try.prog 8 #[.slice A n c, .int .i64 a, .int .i64 b] w (RetTrue w) := by
  have bh := fun (w1 : World) (hb : Below w.heap.size w w1) => behind_any A n c l w1 (h.below (Nat.le_refl _) hb)
  have hi := run_inv l n
  generalize (run l n).1 = x at *
  generalize (run l n).2 = y at *
  have H := Lib.hid h
  have BH := Lib.hid bh
  clear h bh
  by_cases hg : n ≤ 200 ∧ 0 ≤ a ∧ 0 ≤ b ∧ a ≤ 1099511627776 ∧ b ≤ 1099511627776
  · obtain ⟨g1, g2, g3, g4, g5⟩ := hg
    have d1 : decide (200 < (n : Int)) = false := by simp; omega
    have d2 : decide (a < 0) = false := by simp; omega
    have d3 : decide (b < 0) = false := by simp; omega
    have d4 : decide (1099511627776 < a) = false := by simp; omega
    have d5 : decide (1099511627776 < b) = false := by simp; omega
    go_enter Try.func8, Try.ntmps8
    go_wp2_with fail
    clear d1 d2 d3 d4 d5
    refine (BH.out w (Below.refl _ _)).mono ?_
    rintro e w1 ⟨bt, rfl, hbt, ht, hbel⟩
    have P1 := Lib.hid ht; have B1 := Lib.hid hbel; clear ht hbel
    go_wp2_with fail
    refine (BH.out w1 B1.out).mono ?_
    rintro e w2 ⟨bu, rfl, hbu, hu, hbel⟩
    have hlt := lt_of_heap P1.out
    have P2 := Lib.hid ((hbel.block bt hlt).trans P1.out)
    have Q2 := Lib.hid hu
    have B2 := Lib.hid (B1.out.trans (hbel.mono B1.out.size))
    have hne : bt ≠ bu := by omega
    clear hu hbel P1 B1
    go_wp2_with fail
    obtain ⟨i1, i2, i3, i4, i5⟩ := hi
    refine (tick_t bt x y _ a P2.out i1 i2 i3 i4).mono ?_
    rintro e w3 ⟨rfl, hp⟩
    have B3 := Lib.hid (below_put B2.out hp hbt B2.out.size)
    have P3 := Lib.hid hp.1
    have Q3 := Lib.hid ((hp.2.block bu (lt_of_heap Q2.out) (by simpa using (Ne.symm hne))).trans Q2.out)
    clear hp
    cases hf : fires y a
    · have pu := adds_pure (x := x) i3 g2 g3 hf
      have hi1 := inv_tick a (show Inv x y from ⟨i1, i2, i3, i4, i5⟩)
      have e1 : tickX x y a = x := by simp [tickX, hf]
      rw [e1] at hi1
      have P3' := P3.out
      rw [e1] at P3'
      generalize tickL y a = y1 at *
      obtain ⟨j1, j2, j3, j4, j5⟩ := hi1
      clear P3
      have P3 := Lib.hid P3'
      clear P3' e1 i5
      obtain ⟨pu1, pu2, _, _⟩ := pu
      have PU1 := Lib.hid pu1
      have PU2 := Lib.hid pu2
      clear pu1 pu2
      have W4 := Lib.hid (show ∀ (w4 : World), Put bt 40 (tc (tickX x y1 b) (tickL y1 b)) w3 w4 → Below w.heap.size w w4 ∧ w4.heap[bu]? = some (.cells (tc x y) 40 (0, 0)) from fun w4 hp => ⟨below_put B3.out hp hbt B3.out.size, (hp.2.block bu (lt_of_heap Q3.out) (by simpa using (Ne.symm hne))).trans Q3.out⟩)
      have W5 := Lib.hid (show ∀ (d : Int) (w4 w5 : World), Put bt 40 (tc (tickX x y1 b) (tickL y1 b)) w3 w4 → Put bu 40 (tc (tickX x y d) (tickL y d)) w4 w5 → Below w.heap.size w w5 ∧ w5.heap[bt]? = some (.cells (tc (tickX x y1 b) (tickL y1 b)) 40 (0, 0)) from fun d w4 w5 hp hq => ⟨below_put (below_put B3.out hp hbt B3.out.size) hq (by have := B3.out.size; have := B2.out.size; omega) (below_put B3.out hp hbt B3.out.size).size, (hq.2.block bt (lt_of_heap hp.1) (by simpa using hne)).trans hp.1⟩)
      by_cases hb0 : 0 < b
      · obtain ⟨eX, eL⟩ := PU2.out hb0
        have e1 : fires y1 b = fires y (a + b) := by rw [PU1.out]; simp [hb0]
        have EX := Lib.hid eX
        have EL := Lib.hid eL
        have E1 := Lib.hid e1
        clear eX eL e1 PU1 PU2
        cases hr : fires y (a + b)
        all_goals
          have R1 := Lib.hid (E1.out.trans hr)
          have R2 := Lib.hid hr
          clear hr
          go_wp2_with fail
          refine (tick_t bt x y1 _ b P3.out j1 j2 j3 j4).mono ?_
          rintro e w4 ⟨rfl, hp⟩
          rw [R1.out]
          have HP := Lib.hid hp
          clear hp
          go_wp2_with fail
          refine (tick_t bu x y _ (a + b) (W4.out _ HP.out).2 i1 i2 i3 i4).mono ?_
          rintro e w5 ⟨rfl, hq⟩
          rw [R2.out]
          have HQ := Lib.hid hq
          clear hq
          obtain ⟨B5, T5⟩ := W5.out _ _ _ HP.out HQ.out
          have U5 := HQ.out.1
          rw [← EX.out, ← EL.out] at U5
          generalize tickX x y1 b = X5 at *
          generalize tickL y1 b = L5 at *
          have B5 := Lib.hid B5
          have T5 := Lib.hid T5
          have U5 := Lib.hid U5
          clear HQ HP W4 W5 EX EL E1
          go_wp2_with fail
          refine (wait_t bt X5 L5 _ T5.out).mono ?_
          rintro e w' ⟨rfl, rfl⟩
          go_wp2_with fail
          refine (wait_t bu X5 L5 _ U5.out).mono ?_
          rintro e w' ⟨rfl, rfl⟩
          go_wp2_with fail
          refine (left_t bt X5 L5 _ T5.out).mono ?_
          rintro e w' ⟨rfl, rfl⟩
          go_wp2_with fail
          refine (left_t bu X5 L5 _ U5.out).mono ?_
          rintro e w' ⟨rfl, rfl⟩
          go_wp2_with (go_at_call 13; refine (awake_from B5.out).mono ?_; rintro e w' ⟨rfl, hb⟩)
          go_ret
          exact ⟨rfl, hb⟩
      · have hb1 : b = 0 := by omega
        subst hb1
        have e1 : fires y1 0 = false := by simp [fires]
        have E1 := Lib.hid e1
        have HF := Lib.hid hf
        clear e1 PU1 PU2
        go_wp2_with fail
        refine (tick_t bt x y1 _ 0 P3.out j1 j2 j3 j4).mono ?_
        rintro e w4 ⟨rfl, hp⟩
        rw [E1.out]
        have HP := Lib.hid hp
        clear hp
        go_wp2_with fail
        refine (tick_t bu x y _ a (W4.out _ HP.out).2 i1 i2 i3 i4).mono ?_
        rintro e w5 ⟨rfl, hq⟩
        rw [HF.out]
        have B5 := Lib.hid (W5.out _ _ _ HP.out hq).1
        clear hq W4 W5
        go_wp2_with (go_at_call 13; refine (awake_from B5.out).mono ?_; rintro e w' ⟨rfl, hb⟩)
        go_ret
        exact ⟨rfl, hb⟩
    · go_wp2_with (go_at_call 13; refine (awake_from B3.out).mono ?_; rintro e w' ⟨rfl, hb⟩)
      go_ret
      exact ⟨rfl, hb⟩
  · have out : ∀ w' : World, w = w' → RetTrue w (.returned (.bool true)) w' := fun w' e => ⟨rfl, e ▸ Below.refl _ _⟩
    by_cases k1 : n ≤ 200
    · by_cases k2 : 0 ≤ a
      · by_cases k3 : 0 ≤ b
        · by_cases k4 : a ≤ 1099511627776
          · have k5 : 1099511627776 < b := by omega
            clear hg
            go_enter Try.func8, Try.ntmps8
            go_wp2_with fail
            go_ret
            exact out _ rfl
          · clear hg
            go_enter Try.func8, Try.ntmps8
            go_wp2_with fail
            go_ret
            exact out _ rfl
        · clear hg
          go_enter Try.func8, Try.ntmps8
          go_wp2_with fail
          go_ret
          exact out _ rfl
      · clear hg
        go_enter Try.func8, Try.ntmps8
        go_wp2_with fail
        go_ret
        exact out _ rfl
    · clear hg
      go_enter Try.func8, Try.ntmps8
      go_wp2_with fail
      go_ret
      exact out _ rfl
end Go.Proofs.Ytndebobkmemdaaa
