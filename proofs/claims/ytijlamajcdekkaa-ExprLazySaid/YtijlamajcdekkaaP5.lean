/- What is checked tells a value of its kind, or errs by 41 or 42: the plain side. -/
import Derived.Test.YtijlamajcdekkaaE17
namespace Go.Proofs.Ytijlamajcdekkaa
open Go.RowKit
set_option linter.unusedVariables false
theorem intsF_err (op a b : Int) : (intsF op a b).2 = 0 ∨ (intsF op a b).2 = 41 ∨ (intsF op a b).2 = 42 := by
  have k : ∀ ok n, (okd ok n).2 = 0 ∨ (okd ok n).2 = 41 ∨ (okd ok n).2 = 42 := fun ok n => by cases ok <;> simp [okd]
  unfold intsF
  split
  · exact k _ _
  · split
    · exact k _ _
    · split
      · exact k _ _
      · split
        · split
          · exact .inr (.inr rfl)
          · exact k _ _
        · split
          · exact .inl rfl
          · split <;> exact .inl rfl
theorem good_int (n : Int) : goodV (intV n) = true := by rw [intV, goodV_eq]; simp [codeB_0]
theorem good_truth (b : Bool) : goodV (truthV b) = true := by rw [truthV, goodV_eq]; simp [codeB_0]
theorem good_num (n : Nat) : goodV (numV n) = true := by rw [numV, goodV_eq]; simp
/-- what is fine of a result: the kind told and good; or 41 or 42 -/
def Fine (k : Int) (r : Except Int Val) : Prop := match r with | .ok v => v.kind = k ∧ goodV v = true | .error x => x = 41 ∨ x = 42
theorem fine_told {k : Int} {r : Val × Int} (h0 : r.2 = 0 → r.1.kind = k ∧ goodV r.1 = true) (h1 : r.2 = 0 ∨ r.2 = 41 ∨ r.2 = 42) : Fine k (toldR r) := by
  unfold toldR
  by_cases h : r.2 = 0
  · rw [if_pos h]; exact h0 h
  · rw [if_neg h]
    rcases h1 with h1 | h1
    · exact absurd h1 h
    · exact h1
theorem fine_reck (op : Int) {a b : Val} {k : Int} (ha : a.kind = k ∧ goodV a = true) (hb : b.kind = k ∧ goodV b = true) (hk : isN k = true) : Fine k (toldR (reckV op a b)) := by
  have hbo : bothV a b = true := by unfold bothV; rw [ha.2, hb.2, ha.1, hb.1]; simp
  have h14 : k = 1 ∨ k = 4 := by unfold isN at hk; simpa using hk
  unfold reckV
  rcases h14 with rfl | rfl
  · rw [if_neg (by rw [ha.1]; intro h; exact absurd h.2 (by decide)), if_pos ⟨hbo, ha.1⟩]
    split
    · exact fine_told (fun _ => ⟨rfl, good_int _⟩) (.inl rfl)
    · rename_i hne
      exact fine_told (fun h => absurd h hne) (intsF_err op a.int b.int)
  · rw [if_pos ⟨hbo, ha.1⟩]
    exact fine_told (fun _ => ⟨rfl, good_num _⟩) (.inl rfl)
theorem fine_neg {a : Val} {k : Int} (ha : a.kind = k ∧ goodV a = true) (hk : isN k = true) : Fine k (toldR (negV a)) := by
  have h14 : k = 1 ∨ k = 4 := by unfold isN at hk; simpa using hk
  unfold negV
  rcases h14 with rfl | rfl
  · rw [if_neg (by rw [ha.1]; intro h; exact absurd h.2 (by decide))]
    exact fine_reck 5 ⟨rfl, good_int 0⟩ ha rfl
  · rw [if_pos ⟨ha.2, ha.1⟩]
    exact fine_told (fun _ => ⟨rfl, good_num _⟩) (.inl rfl)
theorem fine_float {a : Val} (ha : a.kind = 1 ∧ goodV a = true) : Fine 4 (toldR (floatV a)) := by
  unfold floatV
  rw [if_pos ⟨ha.2, ha.1⟩]
  exact fine_told (fun _ => ⟨rfl, good_num _⟩) (.inl rfl)
theorem fine_step {fl : List Fld} {e : Exp} {a0 a1 a2 k : Int} {a : Val} {rb rc : Except Int Val} (hk : kind3 fl e a0 a1 a2 = .ok k) (h1 : ¬ e.op = 1) (h2 : ¬ e.op = 2) (ha : a.kind = a0 ∧ goodV a = true) (hb : e.kids.length ≥ 2 → Fine a1 rb) (hc : e.kids.length ≥ 3 → Fine a2 rc) : Fine k (step1 e.op a rb rc) := by
  unfold kind3 at hk
  by_cases hari : ariF e.op = e.kids.length
  rotate_left
  · rw [if_pos hari] at hk; cases hk
  rw [if_neg (fun h => h hari)] at hk
  by_cases hnm : e.op = 2 ∨ e.name = []
  rotate_left
  · rw [if_pos hnm] at hk; cases hk
  rw [if_neg (fun h => h hnm)] at hk
  by_cases hvl : e.op = 1 ∨ sameV e.val ⟨0, 0, false, [], 0⟩ = true
  rotate_left
  · rw [if_pos hvl] at hk; cases hk
  rw [if_neg (fun h => h hvl), if_neg h1, if_neg h2] at hk
  clear hnm hvl
  unfold ariF at hari
  unfold step1
  by_cases h12 : e.op = 12
  · rw [if_neg (by omega), if_neg (by omega), if_pos h12] at hk
    rw [if_pos h12]
    split at hk
    · injection hk with hk; rename_i h; subst hk; rw [h]; exact ⟨rfl, good_truth _⟩
    · cases hk
  rw [if_neg h12]
  by_cases h3 : e.op = 3
  · rw [if_neg (by omega), if_neg (by omega), if_neg h12, if_neg (by omega), if_neg (by omega), if_neg (by omega), if_pos h3] at hk
    rw [if_pos h3]
    split at hk
    · injection hk with hk; rename_i h; subst hk; exact fine_neg ha h
    · cases hk
  rw [if_neg h3]
  by_cases h16 : e.op = 16
  · rw [if_neg (by omega), if_neg (by omega), if_neg h12, if_neg (by omega), if_neg (by omega), if_pos h16] at hk
    rw [if_pos h16]
    split at hk
    · injection hk with hk; rename_i h; subst hk; rw [h] at ha; exact fine_float ha
    · cases hk
  rw [if_neg h16]
  have hlen2 : e.kids.length ≥ 2 := by omega
  by_cases h10 : e.op = 10 ∨ e.op = 11
  · rw [if_neg (by omega), if_neg (by omega), if_neg h12, if_pos h10] at hk
    split at hk
    · rename_i h
      injection hk with hk; subst hk
      obtain ⟨h0, h1'⟩ := h
      have hfa : Fine a0 (.ok a) := ha
      split
      · exact hfa
      · split
        · exact hfa
        · rw [if_neg (by omega)]
          have hbb := hb hlen2
          rw [h1'] at hbb
          rw [h0]
          cases rb with
          | error x => exact hbb
          | ok b =>
            show Fine 2 (step2 e.op a b)
            unfold step2
            rw [if_pos h10]
            exact hbb
    · cases hk
  rw [if_neg (fun h => h10 (.inl h.1)), if_neg (fun h => h10 (.inr h.1))]
  by_cases h13 : e.op = 13
  · have hlen3 : e.kids.length ≥ 3 := by omega
    rw [if_neg (by omega), if_neg (by omega), if_neg h12, if_neg h10, if_pos h13] at hk
    rw [if_pos h13]
    split at hk
    · rename_i h
      injection hk with hk; subst hk
      split
      · exact hb hlen2
      · rw [h.2]; exact hc hlen3
    · cases hk
  rw [if_neg h13]
  have hbb := hb hlen2
  cases rb with
  | error x => exact hbb
  | ok b =>
    show Fine k (step2 e.op a b)
    unfold step2
    rw [if_neg h10]
    by_cases h8 : e.op = 8
    · rw [if_pos h8] at hk ⊢
      split at hk
      · injection hk with hk; subst hk; exact ⟨rfl, good_truth _⟩
      · cases hk
    rw [if_neg h8] at hk ⊢
    by_cases h9 : e.op = 9
    · rw [if_pos h9] at hk ⊢
      split at hk
      · injection hk with hk; subst hk; exact ⟨rfl, good_truth _⟩
      · cases hk
    rw [if_neg h9] at hk ⊢
    rw [if_neg h12, if_neg h10, if_neg h13, if_neg h16, if_neg h3] at hk
    split at hk
    · rename_i h
      injection hk with hk; subst hk
      rw [← h.1] at hbb
      exact fine_reck e.op ha hbb h.2
    · cases hk
theorem sound (fl : List Fld) (vs : List Val) (hfit : fitB fl vs = true) : ∀ (n : Nat) (e : Exp) (k : Int), kE fl n e = .ok k → Fine k (evE fl vs n e)
  | 0, e, k, h => by cases h
  | n + 1, e, k, h => by
    rw [evE]
    obtain ⟨ks, hm, hk⟩ := kE_open h
    by_cases h1 : e.op = 1
    · rw [if_pos h1]
      have hari := kE_ari h
      unfold kindOf kind3 at hk
      rw [if_neg (fun h => h hari)] at hk
      by_cases hnm : e.op = 2 ∨ e.name = []
      rotate_left
      · rw [if_pos hnm] at hk; cases hk
      · rw [if_neg (fun h => h hnm), if_neg (fun h => h (.inl h1)), if_pos h1] at hk
        split at hk
        · injection hk with hk
          rename_i hg
          exact ⟨hk, hg⟩
        · cases hk
    rw [if_neg h1]
    by_cases h2 : e.op = 2
    · rw [if_pos h2]
      obtain ⟨i, f, e1, e2, e3, _⟩ := kE_find h h2
      rw [e1]
      have hi : i < vs.length := by rw [← fitB_len hfit]; exact (List.getElem?_eq_some_iff.1 e2).1
      have hv : vs[i]? = some vs[i] := List.getElem?_eq_getElem hi
      have := fitB_at hfit e2 hv
      show Fine k (.ok (vs.getD i zeroV))
      rw [List.getD_eq_getElem?_getD, hv]
      exact ⟨this.2.trans e3, this.1⟩
    rw [if_neg h2]
    have hari := kE_ari h
    have hlen1 : e.kids.length ≥ 1 := by
      unfold ariF at hari
      omega
    have hx : ∀ i, i < e.kids.length → Fine (ks.getD i 0) (evE fl vs n (e.kids.getD i noE)) := fun i hi => by
      have hx : e.kids[i]? = some e.kids[i] := List.getElem?_eq_getElem hi
      rw [getD_at hx]
      exact sound fl vs hfit n _ _ (manyK_at _ _ _ hm i _ hx)
    have h0 := hx 0 (by omega)
    cases ha : evE fl vs n (e.kids.getD 0 noE) with
    | error x =>
      rw [ha] at h0
      exact h0
    | ok a =>
      rw [ha] at h0
      exact fine_step hk h1 h2 h0 (fun h => hx 1 (by omega)) (fun h => hx 2 (by omega))
end Go.Proofs.Ytijlamajcdekkaa
