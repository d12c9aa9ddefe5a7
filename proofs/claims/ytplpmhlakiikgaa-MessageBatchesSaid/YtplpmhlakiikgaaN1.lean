/- The references' comparisons, walked. -/
import Derived.Test.YtplpmhlakiikgaaM8
namespace Go.Proofs.Ytplpmhlakiikgaa
open Go.RowKit
set_option linter.unusedVariables false
/-- are two rows one? -/
def eqL {α : Type} [DecidableEq α] (xs ys : List α) : Bool := decide (xs = ys)
theorem eqL_len {α : Type} [DecidableEq α] {xs ys : List α} (h : xs.length ≠ ys.length) : eqL xs ys = false := by
  unfold eqL; rw [decide_eq_false_iff_not]; intro e; exact h (by rw [e])
theorem eqL_at {α : Type} [DecidableEq α] {xs ys : List α} {k : Nat} (h : xs[k]? ≠ ys[k]?) : eqL xs ys = false := by
  unfold eqL; rw [decide_eq_false_iff_not]; intro e; exact h (by rw [e])
theorem eqL_all {α : Type} [DecidableEq α] {xs ys : List α} {n : Nat} (h1 : xs.length = n) (h2 : ys.length = n) (h : ∀ j, j < n → xs[j]? = ys[j]?) : eqL xs ys = true := by
  unfold eqL
  rw [decide_eq_true_iff]
  apply List.ext_getElem?
  intro j
  by_cases hj : j < n
  · exact h j hj
  · rw [List.getElem?_eq_none (by omega), List.getElem?_eq_none (by omega)]
section
variable {ok ok2 : Nat → Prop} {w : World} {A B : Option Addr} {n c n' c' : Nat}
theorem same_u8 {xs ys : List UInt8} (h : Sl kU8 ok w (.slice A n c) xs) (h2 : Sl kU8 ok2 w (.slice B n' c') ys) : Calls Try.prog 13 #[.slice A n c, .slice B n' c'] w (Ret w (.bool (eqL xs ys))) := by
  have C1 := conv_bs (P := Try.prog) h 23 9 5 Try.underlying23 Try.underlying5 Try.underlying9
  have C2 := conv_bs (P := Try.prog) h2 23 9 5 Try.underlying23 Try.underlying5 Try.underlying9
  clear h h2
  go_enter Try.func13, Try.ntmps13
  go_wp2_with fail
  go_ret
  have e : (xs == ys) = eqL xs ys := by rw [Bool.eq_iff_iff]; unfold eqL; simp
  rw [e]
  exact ⟨rfl, Below.refl _ _⟩
def eqE (a b : Env) : Bool := decide (a = b)
def eqC (a b : Crt) : Bool := decide (a = b)
def eqM (a b : Msg) : Bool := decide (a = b)
theorem eqE_and (a b : Env) : eqE a b = ((a.signer == b.signer) && eqL a.body b.body) := by
  obtain ⟨s, x⟩ := a
  obtain ⟨t, y⟩ := b
  rw [Bool.eq_iff_iff]
  unfold eqE eqL
  simp
theorem sameE_c {cs cs' : List Value} {e e' : Env} (h : kEnv.R ok w cs e) (h2 : kEnv.R ok2 w cs' e') : Calls Try.prog 39 #[.agg cs.toArray, .agg cs'.toArray] w (Ret w (.bool (eqE e e'))) := by
  obtain ⟨A1, c1, rfl, h1⟩ := env_open h
  obtain ⟨A2, c2, rfl, h3⟩ := env_open h2
  have B0 := Lib.hid (show Below w.heap.size w ((w.alloc (.cells #[.int .i64 e.signer, .slice A1 e.body.length c1] 45)).alloc (.cells #[.int .i64 e'.signer, .slice A2 e'.body.length c2] 45)) from ((Below.refl _ _).alloc (Nat.le_refl _) _).alloc (by simp) _)
  have HC := Lib.hid (same_u8 (h1.below B0.out) (h3.below B0.out))
  have EA := Lib.hid (eqE_and e e')
  clear h h1 h2 h3
  cases hs : (e.signer == e'.signer)
  · go_enter Try.func39, Try.ntmps39
    go_wp2_with fail
    go_ret
    rw [EA.out, hs]
    exact ⟨rfl, B0.out⟩
  · go_enter Try.func39, Try.ntmps39
    go_wp2_with fail
    refine HC.out.mono ?_
    rintro e1 w1 ⟨rfl, hb⟩
    have HB := Lib.hid (below_self B0.out hb)
    clear hb
    go_wp2_with fail
    go_ret
    rw [EA.out, hs]
    exact ⟨rfl, HB.out⟩
theorem all_c {xs ys : List Env} (h : Sl kEnv ok w (.slice A n c) xs) (h2 : Sl kEnv ok2 w (.slice B n' c') ys) : Calls Try.prog 18 #[.slice A n c, .slice B n' c'] w (Ret w (.bool (eqL xs ys))) := by
  have hl := h.len.1
  have hl2 := h2.len.1
  have hmax := h.len.2.2.1
  have hnc := h.len.2.1
  by_cases hn : n = n'
  · subst hn
    have H := Lib.hid h
    have H2 := Lib.hid h2
    clear h h2
    go_enter Try.func18, Try.ntmps18
    go_wp2_with fail
    go_loopw [5] (fun v wr => ∃ k : Nat, k ≤ n ∧ v = .int .i64 k ∧ (∀ j, j < k → xs[j]? = ys[j]?) ∧ Below w.heap.size w wr) (fun v _ => n - (intOf v).toNat)
    case atStart => exact ⟨0, Nat.zero_le _, rfl, fun j hj => absurd hj (Nat.not_lt_zero _), Below.refl _ _⟩
    case round =>
      obtain ⟨k, hk, rfl, hp, hb⟩ := hrel
      have HP := Lib.hid hp
      have HB := Lib.hid hb
      have HLs := Lib.hid (And.intro hl hl2)
      clear hp hb hl hl2
      by_cases hlt : k < n
      · obtain ⟨a1, e, B1, d1, rfl, he, p0, p1, s1⟩ := env_at (H.out.below HB.out) hlt
        obtain ⟨a2, e', B2, d2, rfl, he', q0, q1, s2⟩ := env_at (H2.out.below HB.out) hlt
        have HE := Lib.hid (And.intro he he')
        have HC := Lib.hid (sameE_c (env_mk (s1.below (Below.refl _ _).drew)) (env_mk (s2.below (Below.refl _ _).drew)))
        have KK := Lib.hid (show ∀ W : World, Below wr.heap.size wr W → W.cell? (a1.add (k * 2)) = some (.int .i64 e.signer) ∧ W.cell? ⟨(a1.add (k * 2)).block, (a1.add (k * 2)).off + 1, none⟩ = some (.slice B1 e.body.length d1) ∧ W.cell? (a2.add (k * 2)) = some (.int .i64 e'.signer) ∧ W.cell? ⟨(a2.add (k * 2)).block, (a2.add (k * 2)).off + 1, none⟩ = some (.slice B2 e'.body.length d2) from
          fun W hW => ⟨(hW.cell (cell_lt p0)).trans p0, (hW.cell (cell_lt p1)).trans p1, (hW.cell (cell_lt q0)).trans q0, (hW.cell (cell_lt q1)).trans q1⟩)
        clear he he' s1 s2
        cases hm : eqE e e'
        · have E := Lib.hid (show eqL xs ys = false from eqL_at (k := k) (by rw [HE.out.1, HE.out.2]; intro h; injection h with h; rw [eqE, h] at hm; simp at hm))
          rw [hm] at HC
          go_wp2_with fail
          go_region_held3 (fun W => W.cell? (a1.add (k * 2)) = some (.int .i64 e.signer) ∧ W.cell? ⟨(a1.add (k * 2)).block, (a1.add (k * 2)).off + 1, none⟩ = some (.slice B1 e.body.length d1) ∧ W.cell? (a2.add (k * 2)) = some (.int .i64 e'.signer) ∧ W.cell? ⟨(a2.add (k * 2)).block, (a2.add (k * 2)).off + 1, none⟩ = some (.slice B2 e'.body.length d2))
            (first | exact KK.out _ HB1.out | exact KK.out _ (Below.refl _ _).drew)
            (first | (go_at_call 39; refine HC.out.mono ?_; rintro e1 w1 ⟨rfl, hb1⟩; have HB1 := Lib.hid (show Below wr.heap.size wr w1 from (Below.refl _ _).drew.trans hb1); clear hb1))
          go_wp2_with fail
          go_ret
          rw [E.out]
          exact ⟨rfl, HB.out.trans (HB1.out.mono HB.out.size)⟩
        · have E := Lib.hid (show e = e' by simpa [eqE] using hm)
          rw [hm] at HC
          go_wp2_with fail
          go_region_held3 (fun W => W.cell? (a1.add (k * 2)) = some (.int .i64 e.signer) ∧ W.cell? ⟨(a1.add (k * 2)).block, (a1.add (k * 2)).off + 1, none⟩ = some (.slice B1 e.body.length d1) ∧ W.cell? (a2.add (k * 2)) = some (.int .i64 e'.signer) ∧ W.cell? ⟨(a2.add (k * 2)).block, (a2.add (k * 2)).off + 1, none⟩ = some (.slice B2 e'.body.length d2))
            (first | exact KK.out _ HB1.out | exact KK.out _ (Below.refl _ _).drew)
            (first | (go_at_call 39; refine HC.out.mono ?_; rintro e1 w1 ⟨rfl, hb1⟩; have HB1 := Lib.hid (show Below wr.heap.size wr w1 from (Below.refl _ _).drew.trans hb1); clear hb1))
          go_wp2_with fail
          go_roundw
          case rel =>
            refine ⟨k + 1, by omega, by go_num, fun j hj => ?_, HB.out.trans (HB1.out.mono HB.out.size)⟩
            rcases Nat.lt_or_ge j k with h | h
            · exact HP.out j h
            · obtain rfl : j = k := by omega
              rw [HE.out.1, HE.out.2, E.out]
          case measure => simp [intOf]; omega
      · have E := Lib.hid (show eqL xs ys = true from eqL_all HLs.out.1 HLs.out.2 (fun j hj => HP.out j (by omega)))
        go_wp2_with fail
        go_ret
        rw [E.out]
        exact ⟨rfl, HB.out⟩
  · have E := Lib.hid (show eqL xs ys = false from eqL_len (by omega))
    have hn' : ¬ (n : Int) = n' := by omega
    clear h h2
    go_enter Try.func18, Try.ntmps18
    go_wp2_with fail
    go_ret
    rw [E.out]
    exact ⟨rfl, Below.refl _ _⟩
end
end Go.Proofs.Ytplpmhlakiikgaa
