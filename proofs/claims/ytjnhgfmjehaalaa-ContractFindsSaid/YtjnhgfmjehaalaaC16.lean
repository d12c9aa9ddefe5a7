/- Chapter 6: the program's Check and the reference's are one: the plain law. -/
import Derived.Test.YtjnhgfmjehaalaaC15
namespace Go.Proofs.Ytjnhgfmjehaalaa
open Go.RowKit
set_option linter.unusedVariables false
set_option linter.unusedSimpArgs false
theorem fits0 {v : Val} {f : Fld} (h : fitsF v f = 0) : goodV v = true ∧ v.kind = f.kind := by
  unfold fitsF at h
  cases hg : goodV v
  · rw [hg] at h; simp at h
  · by_cases hk : v.kind = f.kind
    · exact ⟨rfl, hk⟩
    · rw [hg] at h; simp [hk] at h
theorem good_kind {v : Val} (h : goodV v = true) : 1 ≤ v.kind ∧ v.kind ≤ 4 := by
  obtain ⟨k, i, b, t, n⟩ := v
  rw [goodV_eq] at h
  simp only [Bool.and_eq_true, decide_eq_true_eq] at h
  exact ⟨h.1.1.1, h.1.1.2.1⟩
theorem pEnum_eq (l : List (List UInt8)) : allI (pEnum l) l = (!longS l && apartB l) := by
  rw [Bool.eq_iff_iff, allI_iff, Bool.and_eq_true, Bool.not_eq_true']
  unfold longS apartB
  rw [allI_iff, List.any_eq_false]
  constructor
  · intro h
    refine ⟨fun s hs => ?_, fun j s hs => ?_⟩
    · obtain ⟨j, hj, rfl⟩ := List.getElem_of_mem hs
      have := h j _ (List.getElem?_eq_getElem hj)
      unfold pEnum at this
      simp only [Bool.and_eq_true, decide_eq_true_eq] at this
      simp only [decide_eq_true_eq]
      omega
    · have := h j s hs
      unfold pEnum at this
      rw [Bool.and_eq_true] at this
      exact this.2
  · rintro ⟨h1, h2⟩ j s hs
    unfold pEnum
    rw [Bool.and_eq_true]
    refine ⟨?_, h2 j s hs⟩
    have := h1 s (List.mem_of_getElem? hs)
    simp only [decide_eq_true_eq] at this ⊢
    omega
theorem gField_eq (f : Fld) : gField f = (decide (1 ≤ f.kind) && decide (f.kind ≤ 4) && enumR f && fitsF f.init f == 0) := by
  unfold gField enumR
  rw [pEnum_eq]
  by_cases h0 : fitsF f.init f = 0
  · obtain ⟨h1, h2⟩ := fits0 h0
    obtain ⟨h3, h4⟩ := good_kind h1
    rw [h0, decide_eq_true (show 1 ≤ f.kind by omega), decide_eq_true (show f.kind ≤ 4 by omega)]
    have e1 : (((f.enum.length : Int) == 0) || f.kind == 3) = !(decide (0 < (f.enum.length : Int)) && f.kind != 3) := by
      rw [Bool.eq_iff_iff]
      simp only [Bool.or_eq_true, beq_iff_eq, Bool.not_eq_true', Bool.and_eq_false_imp, decide_eq_true_eq, bne_eq_false_iff_eq]
      constructor
      · rintro (h | h) h'
        · omega
        · exact h
      · intro h
        by_cases hp : 0 < (f.enum.length : Int)
        · exact .inr (h hp)
        · exact .inl (by omega)
    have e2 : decide (f.enum.length ≤ 4) = decide ((f.enum.length : Int) ≤ 4) := by rw [Bool.eq_iff_iff]; simp only [decide_eq_true_eq]; omega
    rw [e1, e2]
    cases decide ((f.enum.length : Int) ≤ 4) <;> cases longS f.enum <;> cases apartB f.enum <;> cases (decide (0 < (f.enum.length : Int)) && f.kind != 3) <;> rfl
  · rw [show (fitsF f.init f == 0) = false by simpa using h0]
    simp
theorem fieldsR_eq (c : Con) : fieldsR c = !(decide (6 < c.fields.length) || !onceF c.fields || badF c.fields) := by
  rw [Bool.eq_iff_iff]
  unfold fieldsR onceF badF onceB
  rw [Bool.and_eq_true, allI_iff, Bool.not_eq_true', Bool.or_eq_false_iff, Bool.or_eq_false_iff, Bool.not_eq_false', allI_iff, List.any_eq_false]
  simp only [decide_eq_true_eq, decide_eq_false_iff_not]
  constructor
  · rintro ⟨h1, h2⟩
    refine ⟨⟨by omega, fun j x hx => ?_⟩, fun x hx => ?_⟩
    · have := h2 j x hx
      unfold pField at this
      simp only [Bool.and_eq_true] at this ⊢
      exact this.1.1.1.1
    · obtain ⟨j, hj, rfl⟩ := List.getElem_of_mem hx
      have := h2 j _ (List.getElem?_eq_getElem hj)
      unfold pField at this
      rw [gField_eq]
      simp only [Bool.and_eq_true] at this
      rw [this.1.1.1.2, this.1.1.2, this.1.2, this.2]; decide
  · rintro ⟨⟨h1, h2⟩, h3⟩
    refine ⟨by omega, fun j x hx => ?_⟩
    have h4 := h2 j x hx
    have h5 := h3 x (List.mem_of_getElem? hx)
    rw [gField_eq] at h5
    simp only [Bool.not_eq_true, Bool.not_eq_false'] at h5
    unfold pField
    simp only [Bool.and_eq_true] at h4 h5 ⊢
    exact ⟨⟨⟨⟨h4, h5.1.1.1⟩, h5.1.1.2⟩, h5.1.2⟩, h5.2⟩
theorem rises_iff : ∀ (l : List Int) (last : Int), -1 ≤ last → (risesF last l = true ↔ ∀ (k : Nat) (o : Int), l[k]? = some o → 0 ≤ o ∧ o < 4 ∧ (k = 0 → last < o) ∧ (k ≠ 0 → l.getD (k - 1) 0 < o))
  | [], last, _ => by simp [risesF]
  | o :: l, last, hl => by
    rw [risesF, Bool.and_eq_true]
    simp only [Bool.not_eq_true', Bool.or_eq_false_iff, decide_eq_false_iff_not]
    constructor
    · rintro ⟨⟨h1, h2⟩, h3⟩ k x hx
      rw [rises_iff l o (by omega)] at h3
      cases k with
      | zero =>
        injection hx with hx
        subst hx
        exact ⟨by omega, by omega, fun _ => by omega, fun h => absurd rfl h⟩
      | succ k =>
        have hx' : l[k]? = some x := hx
        obtain ⟨a, b, c, d⟩ := h3 k x hx'
        refine ⟨a, b, fun h => by omega, fun _ => ?_⟩
        cases k with
        | zero => exact c rfl
        | succ k => have := d (by omega); simpa using this
    · intro h
      obtain ⟨a, b, c, _⟩ := h 0 o rfl
      refine ⟨⟨by have := c rfl; omega, by omega⟩, ?_⟩
      rw [rises_iff l o (by omega)]
      intro k x hx
      obtain ⟨a', b', c', d'⟩ := h (k + 1) x hx
      have d2 := d' (by omega)
      refine ⟨a', b', fun hk => ?_, fun hk => ?_⟩
      · subst hk; simpa using d2
      · obtain ⟨k', rfl⟩ : ∃ k', k = k' + 1 := ⟨k - 1, by omega⟩
        simpa using d2
theorem pOrg_eq (l : List Int) : allI (pOrg l) l = risesF (-1) l := by
  rw [Bool.eq_iff_iff, allI_iff, rises_iff l (-1) (by omega)]
  constructor
  · intro h k o ho
    have := h k o ho
    unfold pOrg at this
    simp only [Bool.and_eq_true, decide_eq_true_eq, Bool.or_eq_true, beq_iff_eq] at this
    obtain ⟨⟨a, b⟩, c⟩ := this
    exact ⟨a, b, fun _ => by omega, fun hk => by rcases c with c | c; exact absurd c hk; exact c⟩
  · intro h k o ho
    obtain ⟨a, b, c, d⟩ := h k o ho
    unfold pOrg
    simp only [Bool.and_eq_true, decide_eq_true_eq, Bool.or_eq_true, beq_iff_eq]
    refine ⟨⟨a, b⟩, ?_⟩
    by_cases hk : k = 0
    · exact .inl hk
    · exact .inr (d hk)
theorem stagesR_eq (c : Con) : stagesR c = !((c.stages.length : Int) == 0 || decide (6 < c.stages.length) || !onceS c.stages || badS c.stages) := by
  rw [Bool.eq_iff_iff]
  unfold stagesR onceS badS onceB
  rw [Bool.and_eq_true, allI_iff, Bool.not_eq_true', Bool.or_eq_false_iff, Bool.or_eq_false_iff, Bool.or_eq_false_iff, Bool.not_eq_false', allI_iff, List.any_eq_false]
  simp only [decide_eq_true_eq, decide_eq_false_iff_not, Bool.and_eq_true, beq_eq_false_iff_ne]
  constructor
  · rintro ⟨⟨h0, h1⟩, h2⟩
    refine ⟨⟨⟨by omega, by omega⟩, fun j x hx => ?_⟩, fun x hx => ?_⟩
    · have := h2 j x hx
      unfold pStage hStage at this
      simp only [Bool.and_eq_true] at this ⊢
      exact this.1.1.1.1
    · obtain ⟨j, hj, rfl⟩ := List.getElem_of_mem hx
      have := h2 j _ (List.getElem?_eq_getElem hj)
      unfold pStage hStage at this
      rw [pOrg_eq] at this
      simp only [Bool.and_eq_true, decide_eq_true_eq] at this
      unfold gStage
      rw [this.2, decide_eq_false (by omega), decide_eq_false (by omega), decide_eq_false (by omega)]; decide
  · rintro ⟨⟨⟨h0, h1⟩, h2⟩, h3⟩
    refine ⟨⟨by omega, by omega⟩, fun j x hx => ?_⟩
    have h4 := h2 j x hx
    have h5 : gStage x = true := by simpa using h3 x (List.mem_of_getElem? hx)
    unfold gStage at h5
    simp only [Bool.and_eq_true, Bool.not_eq_true', Bool.or_eq_false_iff, decide_eq_false_iff_not] at h5
    unfold pStage hStage
    rw [pOrg_eq]
    simp only [Bool.and_eq_true, decide_eq_true_eq] at h4 ⊢
    exact ⟨⟨⟨⟨h4, by omega⟩, by omega⟩, by omega⟩, h5.2⟩
theorem movesR_eq (c : Con) (n : Nat) : (decide (8 < (c.moves.length : Int)) || !allI (pMove c n) c.moves) = (decide (8 < c.moves.length) || !onceM c.moves || badM c n c.moves) := by
  rw [show decide (8 < (c.moves.length : Int)) = decide (8 < c.moves.length) by rw [Bool.eq_iff_iff]; simp only [decide_eq_true_eq]; omega, Bool.or_assoc]
  congr 1
  rw [← Bool.not_not (!onceM c.moves || badM c n c.moves)]
  congr 1
  rw [Bool.eq_iff_iff]
  unfold onceM badM onceB
  rw [allI_iff, Bool.not_eq_true', Bool.or_eq_false_iff, Bool.not_eq_false', allI_iff, List.any_eq_false]
  constructor
  · intro h2
    refine ⟨fun j x hx => ?_, fun x hx => ?_⟩
    · have := h2 j x hx
      unfold pMove at this
      simp only [Bool.and_eq_true] at this ⊢
      exact this.1
    · obtain ⟨j, hj, rfl⟩ := List.getElem_of_mem hx
      have := h2 j _ (List.getElem?_eq_getElem hj)
      unfold pMove at this
      simp only [Bool.and_eq_true] at this
      rw [this.2]; decide
  · rintro ⟨h2, h3⟩ j x hx
    have h4 := h2 j x hx
    have h5 := h3 x (List.mem_of_getElem? hx)
    unfold pMove
    simp only [Bool.and_eq_true, Bool.not_eq_true, Bool.not_eq_false'] at h4 h5 ⊢
    exact ⟨h4, h5⟩
theorem chk_eq (c : Con) (n : Nat) : chkR c n = chkC c n := by
  unfold chkR chkC
  rw [fieldsR_eq, stagesR_eq, Bool.not_not, Bool.not_not, ← movesR_eq]
  cases named c.name
  · rfl
  cases (decide (6 < c.fields.length) || !onceF c.fields || badF c.fields)
  · cases ((c.stages.length : Int) == 0 || decide (6 < c.stages.length) || !onceS c.stages || badS c.stages)
    · cases decide (8 < (c.moves.length : Int)) <;> cases allI (pMove c n) c.moves <;> rfl
    · rfl
  · rfl
end Go.Proofs.Ytjnhgfmjehaalaa
