/- No kind's error is nought. -/
import Derived.Test.YtjnhgfmjehaalaaE12
namespace Go.Proofs.Ytjnhgfmjehaalaa
open Go.RowKit
set_option linter.unusedVariables false
/-- so many stories are enough -/
def Dp : Nat → Exp → Prop
  | 0, _ => False
  | n + 1, e => ∀ x ∈ e.kids, Dp n x
theorem kR_dp : ∀ {n : Nat} {ok : Nat → Prop} {w : World} {cs : List Value} {e : Exp}, (kExp n).R ok w cs e → Dp n e
  | 0, _, _, _, _, h => h.elim
  | n + 1, _, _, _, e, h => by
    obtain ⟨k, A, c, hk, rfl, hs⟩ := exp_open h
    obtain rfl : n = k := by omega
    intro x hx
    obtain ⟨i, hi, rfl⟩ := List.getElem_of_mem hx
    obtain ⟨ad, cs', _, _, hr, _⟩ := hs.at_ (List.getElem?_eq_getElem hi)
    exact kR_dp hr
/-- no error is 0 -/
theorem ne_ite {c : Prop} [Decidable c] {a b : Except Int Int} (ha : ¬ a = .error 0) (hb : ¬ b = .error 0) : ¬ (if c then a else b) = .error 0 := by split <;> assumption
theorem ne_err {x : Int} (h : ¬ x = 0) : ¬ (.error x : Except Int Int) = .error 0 := fun e => by injection e with e; exact h e
theorem ne_ok {x : Int} : ¬ (.ok x : Except Int Int) = .error 0 := fun e => by cases e
theorem kind3_err (fl : List Fld) (e : Exp) (a0 a1 a2 : Int) : ¬ kind3 fl e a0 a1 a2 = .error 0 := by
  unfold kind3
  repeat' first
    | exact ne_err (by decide)
    | exact ne_ok
    | apply ne_ite
  split
  · exact ne_ite ne_ok (ne_err (by decide))
  · exact ne_err (by decide)
theorem manyK_err0 {p : Exp → Except Int Int} : ∀ {l : List Exp}, (∀ x ∈ l, ¬ p x = .error 0) → ¬ manyK p l = .error 0
  | [], _, h => by cases h
  | x :: l, hp, h => by
    rw [manyK] at h
    cases hx : p x with
    | error y =>
      rw [hx] at h
      have h : Except.error y = .error 0 := h
      injection h with h
      subst h
      exact hp x (by simp) hx
    | ok k =>
      rw [hx] at h
      simp only at h
      cases hl : manyK p l with
      | error y =>
        rw [hl] at h
        have h : Except.error y = .error 0 := h
        injection h with h
        subst h
        exact manyK_err0 (fun z hz => hp z (by simp [hz])) hl
      | ok ks => rw [hl] at h; cases h
theorem kE_err {fl : List Fld} : ∀ (n : Nat) (e : Exp), Dp n e → ¬ kE fl n e = .error 0
  | 0, _, h, _ => h
  | n + 1, e, hd, h => by
    rw [kE] at h
    cases hm : manyK (kE fl n) e.kids with
    | error x =>
      rw [hm] at h
      have h : Except.error x = .error 0 := h
      injection h with h
      subst h
      exact manyK_err0 (fun x hx => kE_err n x (hd x hx)) hm
    | ok ks => rw [hm] at h; exact kind3_err _ _ _ _ _ h
end Go.Proofs.Ytjnhgfmjehaalaa
