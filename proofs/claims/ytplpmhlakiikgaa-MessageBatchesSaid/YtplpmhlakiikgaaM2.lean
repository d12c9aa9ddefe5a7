/- Package message, walked: Check. -/
import Derived.Test.YtplpmhlakiikgaaM
namespace Go.Proofs.Ytplpmhlakiikgaa
open Go.RowKit
set_option linter.unusedVariables false
section
variable {ok : Nat → Prop} {w : World}
/-- is a number from one to another one, or 0 where it is not had? -/
def inB (has field n least greatest : Int) : Bool := if Go.bits .and .i64 has field = 0 then decide (n = 0) else decide (least ≤ n) && decide (n ≤ greatest)
theorem in_c (a b c d f n l g : Int) : Calls Try.prog 25 #[.agg #[.int .i64 a, .int .i64 b, .int .i64 c, .int .i64 d], .int .i64 f, .int .i64 n, .int .i64 l, .int .i64 g] w (Ret w (.bool (inB a f n l g))) := by
  unfold inB
  by_cases h : Go.bits .and .i64 a f = 0
  · rw [if_pos h]
    have hb : (Go.bits .and .i64 a f == 0) = true := by simpa using h
    clear h
    by_cases h1 : n = 0
    · subst h1
      go_enter Try.func25, Try.ntmps25
      go_wp2
      go_ret
      exact ⟨rfl, by go_grown⟩
    · have e : decide (n = 0) = false := by simpa using h1
      rw [e]
      by_cases h2 : 0 ≤ n
      · have h3 : ¬ n ≤ 0 := by omega
        clear h1 e
        go_enter Try.func25, Try.ntmps25
        go_wp2
        go_ret
        exact ⟨rfl, by go_grown⟩
      · clear h1 e
        go_enter Try.func25, Try.ntmps25
        go_wp2
        go_ret
        exact ⟨rfl, by go_grown⟩
  · rw [if_neg h]
    have hb : (Go.bits .and .i64 a f == 0) = false := by simpa using h
    clear h
    by_cases h1 : l ≤ n
    · go_enter Try.func25, Try.ntmps25
      go_wp2
      go_ret
      exact ⟨by simp [h1], by go_grown⟩
    · go_enter Try.func25, Try.ntmps25
      go_wp2
      go_ret
      exact ⟨by simp; intro; omega, by go_grown⟩
/-- has a certificate too many votes? -/
def many (c : Crt) : Bool := decide (7 < (c.votes.length : Int))
theorem check1_c {cs : List Value} {e : Crt} (h : kCrt.R ok w cs e) : Calls Try.prog 27 #[.agg cs.toArray] w (Ret w (.bool (many e))) := by
  obtain ⟨A, c, A', c', rfl, _, hv⟩ := crt_open h
  have hl := hv.len
  clear h hv
  unfold many
  go_enter Try.func27, Try.ntmps27
  go_wp2
  go_ret
  exact ⟨rfl, by go_grown⟩
def idx {α : Type} (p : α → Bool) (l : List α) : Int := match l.findIdx? p with | some i => i | none => -1
theorem index_c {A : Option Addr} {n c : Nat} {l : List Crt} (h : Sl kCrt ok w (.slice A n c) l) : Calls Try.prog 41 #[.slice A n c, .func (.func 27) #[] #[]] w (Ret w (.int .i64 (idx many l))) := by
  have H := Lib.hid h
  have hmax := h.len.2.2.1
  have hnc := h.len.2.1
  clear h
  go_enter Try.func41, Try.ntmps41
  go_wp2_with fail
  go_loopw [8] (fun v wr => ∃ k : Nat, k ≤ n ∧ v = .int .i64 k ∧ (∀ j x, j < k → l[j]? = some x → many x = false) ∧ Below w.heap.size w wr) (fun v _ => n - (intOf v).toNat)
  case atStart => exact ⟨0, Nat.zero_le _, rfl, fun j x hj => absurd hj (Nat.not_lt_zero _), Below.refl _ _⟩
  case round =>
    obtain ⟨k, hk, rfl, hp, hb⟩ := hrel
    have HP := Lib.hid hp
    have HB := Lib.hid hb
    clear hp hb
    by_cases hlt : k < n
    · obtain ⟨ad, e, B, d, B', d', rfl, he, c0, c1, c2, s1, s2⟩ := crt_at (H.out.below HB.out) hlt
      have HE := Lib.hid he
      have HC := Lib.hid (check1_c (w := wr) (ok := ok) (crt_mk s1 s2))
      clear he s1 s2
      cases hm : many e
      · have HM := Lib.hid hm
        go_wp2_with (go_at_call 27; refine HC.out.mono ?_; rintro e1 w1 ⟨rfl, hb1⟩; have HB1 := Lib.hid (HB.out.trans (hb1.mono HB.out.size)); clear hb1)
        go_roundw
        case rel =>
          refine ⟨k + 1, by omega, by go_num, fun j x hj hx => ?_, HB1.out⟩
          rcases Nat.lt_or_ge j k with h | h
          · exact HP.out j x h hx
          · have : j = k := by omega
            subst this
            rw [HE.out] at hx
            injection hx with hx
            rw [← hx]
            exact HM.out
        case measure => simp [intOf]; omega
      · have e1 : idx many l = k := by
          unfold idx
          have : l.findIdx? many = some k := by
            rw [List.findIdx?_eq_some_iff_getElem]
            obtain ⟨hkl, hke⟩ := List.getElem?_eq_some_iff.1 HE.out
            refine ⟨hkl, by rw [hke]; exact hm, fun j hj => ?_⟩
            have := HP.out j l[j] hj (List.getElem?_eq_getElem (by omega))
            simp [this]
          rw [this]
        rw [e1]
        clear e1
        go_wp2_with (go_at_call 27; refine HC.out.mono ?_; rintro e1 w1 ⟨rfl, hb1⟩; have HB1 := Lib.hid (HB.out.trans (hb1.mono HB.out.size)); clear hb1)
        go_ret
        exact ⟨rfl, HB1.out⟩
    · have e1 : idx many l = -1 := by
        unfold idx
        have : l.findIdx? many = none := by
          rw [List.findIdx?_eq_none_iff]
          intro x hx
          obtain ⟨j, hj, rfl⟩ := List.getElem_of_mem hx
          exact HP.out j _ (by have := H.out.len.1; omega) (List.getElem?_eq_getElem hj)
        rw [this]
      have E1 := Lib.hid e1
      clear e1
      go_wp2_with fail
      go_ret
      refine ⟨?_, HB.out⟩
      rw [E1.out]
      rfl
theorem idx_any {α : Type} (p : α → Bool) (l : List α) : decide (0 ≤ idx p l) = l.any p := by
  unfold idx
  cases h : l.findIdx? p with
  | none =>
    have := List.findIdx?_eq_none_iff.1 h
    simp only [List.any_eq]
    simp
    exact this
  | some i =>
    obtain ⟨hi, hp, _⟩ := List.findIdx?_eq_some_iff_getElem.1 h
    have : l.any p = true := List.any_eq_true.2 ⟨_, List.getElem_mem hi, hp⟩
    rw [this]
    simp
theorem contains_c {A : Option Addr} {n c : Nat} {l : List Crt} (h : Sl kCrt ok w (.slice A n c) l) : Calls Try.prog 26 #[.slice A n c, .func (.func 27) #[] #[]] w (Ret w (.bool (l.any many))) := by
  have H := Lib.hid (index_c h)
  rw [← idx_any]
  clear h
  go_enter Try.func26, Try.ntmps26
  go_wp2_with (go_at_call 41; refine H.out.mono ?_; rintro e1 w1 ⟨rfl, hb1⟩; have HB1 := Lib.hid hb1; clear hb1)
  go_ret
  exact ⟨rfl, HB1.out⟩
end
end Go.Proofs.Ytplpmhlakiikgaa
