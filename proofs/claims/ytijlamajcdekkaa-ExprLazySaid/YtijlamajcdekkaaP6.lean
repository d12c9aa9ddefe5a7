/- What does not count is not reckoned; other fields do not count: the plain side. -/
import Derived.Test.YtijlamajcdekkaaP5
import Derived.Test.YtijlamajcdekkaaH1
namespace Go.Proofs.Ytijlamajcdekkaa
open Go.RowKit
set_option linter.unusedVariables false
/-! ### a field that is not named -/
theorem findF_app {name : List UInt8} {l : List Fld} {f : Fld} (h : ¬ f.name = name) : findF name (l ++ [f]) = findF name l := by
  unfold findF idx
  rw [List.findIdx?_append]
  have : List.findIdx? (isF name) [f] = none := by
    rw [List.findIdx?_eq_none_iff]
    intro x hx
    rw [List.mem_singleton] at hx
    subst hx
    simpa [isF] using h
  rw [this]
  cases List.findIdx? (isF name) l <;> rfl
theorem kind3_app {fl : List Fld} {f : Fld} {e : Exp} (h : ¬ f.name = e.name) (a0 a1 a2 : Int) : kind3 (fl ++ [f]) e a0 a1 a2 = kind3 fl e a0 a1 a2 := by
  have h1 := findF_app (l := fl) h
  unfold kind3
  rw [h1]
  by_cases hp : 0 ≤ findF e.name fl
  · have e4 : (fl ++ [f])[(findF e.name fl).toNat]? = fl[(findF e.name fl).toNat]? := by
      obtain ⟨i, g, e1, e2, _⟩ := findF_some hp
      rw [e1]
      exact List.getElem?_append_left (List.getElem?_eq_some_iff.1 e2).1
    rw [e4]
  · generalize (fl ++ [f])[(findF e.name fl).toNat]? = o1
    generalize fl[(findF e.name fl).toNat]? = o2
    cases o1 <;> cases o2 <;> simp only [if_neg hp]
theorem manyK_congr {p q : Exp → Except Int Int} : ∀ {l : List Exp}, (∀ x ∈ l, p x = q x) → manyK p l = manyK q l
  | [], _ => rfl
  | x :: l, h => by
    rw [manyK, manyK, h x (by simp), manyK_congr fun y hy => h y (by simp [hy])]
theorem kE_app {fl : List Fld} {f : Fld} : ∀ (n : Nat) (e : Exp), usE f.name n e = false → kE (fl ++ [f]) n e = kE fl n e
  | 0, e, _ => rfl
  | n + 1, e, h => by
    rw [usE, Bool.or_eq_false_iff] at h
    have hk : ∀ x ∈ e.kids, kE (fl ++ [f]) n x = kE fl n x := fun x hx => kE_app n x (by
      have := List.any_eq_false.1 h.2 x hx
      simpa using this)
    rw [kE, kE, manyK_congr hk]
    cases manyK (kE fl n) e.kids with
    | error x => rfl
    | ok ks => exact kind3_app (by have := h.1; rw [beq_eq_false_iff_ne] at this; exact fun e => this e.symm) _ _ _
theorem evE_noE (fl : List Fld) (vs : List Val) : ∀ n : Nat, evE fl vs n noE = .error 0
  | 0 => rfl
  | n + 1 => by
    rw [evE, if_neg (by decide), if_neg (by decide)]
    show (match evE fl vs n noE with | .error x => _ | .ok a => _) = _
    rw [evE_noE fl vs n]
theorem evE_app {fl : List Fld} {f : Fld} {vs : List Val} {v : Val} (hl : fl.length = vs.length) : ∀ (n : Nat) (e : Exp) (k : Int), usE f.name n e = false → kE fl n e = .ok k → evE (fl ++ [f]) (vs ++ [v]) n e = evE fl vs n e
  | 0, e, k, _, _ => rfl
  | n + 1, e, k, h, hk => by
    have hkk := hk
    rw [usE, Bool.or_eq_false_iff] at h
    have hnm : ¬ f.name = e.name := by have := h.1; rw [beq_eq_false_iff_ne] at this; exact fun e => this e.symm
    have hx : ∀ i, evE (fl ++ [f]) (vs ++ [v]) n (e.kids.getD i noE) = evE fl vs n (e.kids.getD i noE) := fun i => by
      cases hi : e.kids[i]? with
      | none =>
        rw [List.getD_eq_getElem?_getD, hi]
        show evE _ _ n noE = evE _ _ n noE
        rw [evE_noE, evE_noE]
      | some x =>
        rw [getD_at hi]
        obtain ⟨k', hk'⟩ := kE_kid hkk hi
        refine evE_app hl n x k' ?_ hk'
        have := List.any_eq_false.1 h.2 x (List.mem_of_getElem? hi)
        simpa using this
    rw [evE, evE, hx 0, hx 1, hx 2]
    by_cases h1 : e.op = 1
    · rw [if_pos h1, if_pos h1]
    rw [if_neg h1, if_neg h1]
    by_cases h2 : e.op = 2
    · rw [if_pos h2, if_pos h2, findF_app hnm]
      obtain ⟨i, g, e1, e2, _⟩ := kE_find hkk h2
      rw [e1]
      show Except.ok ((vs ++ [v]).getD i zeroV) = Except.ok (vs.getD i zeroV)
      rw [List.getD_eq_getElem?_getD, List.getD_eq_getElem?_getD, List.getElem?_append_left (by rw [← hl]; exact (List.getElem?_eq_some_iff.1 e2).1)]
    · rw [if_neg h2, if_neg h2]
theorem fitB_app {f : Fld} {v : Val} (hg : goodV v = true) (hk : v.kind = f.kind) : ∀ {fl : List Fld} {vs : List Val}, fl.length = vs.length → fitB (fl ++ [f]) (vs ++ [v]) = fitB fl vs
  | [], [], _ => by simp [fitB, hg, hk]
  | [], _ :: _, h => by cases h
  | _ :: _, [], h => by cases h
  | g :: fl, u :: vs, h => by
    rw [List.cons_append, List.cons_append, fitB, fitB, fitB_app hg hk (by simpa using h)]
/-- other fields may have any values -/
theorem fields_law {fl : List Fld} {vs : List Val} {n : Nat} {e : Exp} {f : Fld} {v : Val} (hg : goodV v = true) (hk : v.kind = f.kind) (h1 : ¬ (evalR fl vs n e).2 = 1) (hu : small e = true → usE f.name n e = false) : evalR (fl ++ [f]) (vs ++ [v]) n e = evalR fl vs n e := by
  unfold evalR at *
  by_cases hs : small e = true
  · rw [if_pos hs] at h1
    rw [if_pos hs, if_pos hs, kE_app n e (hu hs)]
    cases hke : kE fl n e with
    | error x => rfl
    | ok k =>
      rw [hke] at h1
      by_cases hl : fl.length = vs.length
      · show (if fitB (fl ++ [f]) (vs ++ [v]) = true then _ else _) = (if fitB fl vs = true then _ else _)
        rw [fitB_app hg hk hl, evE_app hl n e k (hu hs) hke]
      · exfalso
        apply h1
        show (if fitB fl vs = true then _ else _ : Val × Int).2 = 1
        rw [if_neg (by rw [fitB_ne hl]; decide)]
  · rw [if_neg hs, if_neg hs]
/-! ### what does not count -/
def zE : Exp := oE 8 [oE 7 [cE (intV 1), cE (intV 0)], cE (intV 1)]
theorem kE_con (fl : List Fld) (n : Nat) {v : Val} (hg : goodV v = true) : kE fl (n + 1) (cE v) = .ok v.kind := by
  show kindOf fl (cE v) [] = _
  unfold kindOf kind3
  rw [if_neg (fun h => h rfl), if_neg (fun h => h (.inr rfl)), if_neg (fun h => h (.inl rfl)), if_pos (show (cE v).op = 1 from rfl)]
  exact if_pos hg
theorem kE_zE (fl : List Fld) (n : Nat) : kE fl (n + 3) zE = .ok 2 := by
  have h1 := kE_con fl n (good_int 1)
  have h0 := kE_con fl n (good_int 0)
  have h1' := kE_con fl (n + 1) (good_int 1)
  have h7 : kE fl (n + 2) (oE 7 [cE (intV 1), cE (intV 0)]) = .ok 1 := by
    show (match manyK (kE fl (n + 1)) [cE (intV 1), cE (intV 0)] with | .error x => (.error x : Except Int Int) | .ok ks => kindOf fl (oE 7 [cE (intV 1), cE (intV 0)]) ks) = _
    rw [manyK, h1]
    simp only
    rw [manyK, h0]
    rfl
  show (match manyK (kE fl (n + 2)) [oE 7 [cE (intV 1), cE (intV 0)], cE (intV 1)] with | .error x => (.error x : Except Int Int) | .ok ks => kindOf fl zE ks) = _
  rw [manyK, h7]
  simp only
  rw [manyK, h1']
  rfl
theorem evE_con (fl : List Fld) (vs : List Val) (n : Nat) (v : Val) : evE fl vs (n + 1) (cE v) = .ok v := by rw [evE, if_pos (show (cE v).op = 1 from rfl)]; rfl
theorem sameZ : sameV zeroV ⟨0, 0, false, [], 0⟩ = true := by decide +kernel
theorem opn {o j : Int} {ks : List Exp} (h : ¬ o = j) : ¬ (oE o ks).op = j := h
theorem opn2 {o i j : Int} {ks : List Exp} (h : ¬ (o = i ∨ o = j)) : ¬ ((oE o ks).op = i ∨ (oE o ks).op = j) := h
theorem opp {o j : Int} {ks : List Exp} (h : o = j) : (oE o ks).op = j := h
theorem opp2 {o i j : Int} {ks : List Exp} (h : o = i ∨ o = j) : (oE o ks).op = i ∨ (oE o ks).op = j := h
theorem kE_if {fl : List Fld} {n : Nat} {e c d : Exp} {k : Int} (he : kE fl n e = .ok 2) (hc : kE fl n c = .ok k) (hd : kE fl n d = .ok k) : kE fl (n + 1) (oE 13 [e, c, d]) = .ok k := by
  show (match manyK (kE fl n) [e, c, d] with | .error x => (.error x : Except Int Int) | .ok ks => kindOf fl (oE 13 [e, c, d]) ks) = _
  rw [manyK, he]
  simp only
  rw [manyK, hc]
  simp only
  rw [manyK, hd]
  show kindOf fl (oE 13 [e, c, d]) [2, k, k] = _
  unfold kindOf kind3
  rw [if_neg (fun h => h rfl), if_neg (fun h => h (.inr rfl)), if_neg (fun h => h (.inr sameZ)), if_neg (opn (by decide)), if_neg (opn (by decide)), if_neg (opn (by decide)), if_neg (opn (by decide)), if_neg (opn (by decide)), if_neg (opn2 (by decide)), if_pos (opp (by decide))]
  exact if_pos ⟨rfl, rfl⟩
theorem kE_logic {fl : List Fld} {n : Nat} {e d : Exp} {o : Int} (ho : o = 10 ∨ o = 11) (he : kE fl n e = .ok 2) (hd : kE fl n d = .ok 2) : kE fl (n + 1) (oE o [e, d]) = .ok 2 := by
  show (match manyK (kE fl n) [e, d] with | .error x => (.error x : Except Int Int) | .ok ks => kindOf fl (oE o [e, d]) ks) = _
  rw [manyK, he]
  simp only
  rw [manyK, hd]
  show kindOf fl (oE o [e, d]) [2, 2] = _
  unfold kindOf kind3
  rw [if_neg (fun h => h (by rcases ho with rfl | rfl <;> rfl)), if_neg (fun h => h (.inr rfl)), if_neg (fun h => h (.inr sameZ))]
  rcases ho with rfl | rfl
  · rw [if_neg (opn (by decide)), if_neg (opn (by decide)), if_neg (opn (by decide)), if_neg (opn (by decide)), if_neg (opn (by decide)), if_pos (opp2 (by decide))]
    exact if_pos ⟨rfl, rfl⟩
  · rw [if_neg (opn (by decide)), if_neg (opn (by decide)), if_neg (opn (by decide)), if_neg (opn (by decide)), if_neg (opn (by decide)), if_pos (opp2 (by decide))]
    exact if_pos ⟨rfl, rfl⟩
theorem evE_op {fl : List Fld} {vs : List Val} {n : Nat} {o : Int} {ks : List Exp} {a : Val} (h1 : ¬ o = 1) (h2 : ¬ o = 2) (ha : evE fl vs n (ks.getD 0 noE) = .ok a) : evE fl vs (n + 1) (oE o ks) = step1 o a (evE fl vs n (ks.getD 1 noE)) (evE fl vs n (ks.getD 2 noE)) := by
  rw [evE, if_neg (show ¬ (oE o ks).op = 1 from h1), if_neg (show ¬ (oE o ks).op = 2 from h2)]
  show (match evE fl vs n (ks.getD 0 noE) with | .error x => _ | .ok a => step1 o a _ _) = _
  rw [ha]
  rfl
/-- so many stories are enough -/
def Dp : Nat → Exp → Prop
  | 0, _ => False
  | n + 1, e => ∀ x ∈ e.kids, Dp n x
theorem kR_dp : ∀ {n : Nat} {ok : Nat → Prop} {w : World} {cs : List Value} {e : Exp}, (kExp n).R ok w cs e → Dp n e
  | 0, _, _, _, _, h => h.elim
  | n + 1, _, _, _, e, h => by
    obtain ⟨k, A, c, hk, rfl, hs⟩ := exp_open h
    obtain rfl : n = k := by omega
    intro x hx
    obtain ⟨i, hi, rfl⟩ := List.getElem_of_mem hx
    obtain ⟨ad, cs', _, _, hr, _⟩ := hs.at_ (List.getElem?_eq_getElem hi)
    exact kR_dp hr
/-- no error is 0 -/
theorem ne_ite {c : Prop} [Decidable c] {a b : Except Int Int} (ha : ¬ a = .error 0) (hb : ¬ b = .error 0) : ¬ (if c then a else b) = .error 0 := by split <;> assumption
theorem ne_err {x : Int} (h : ¬ x = 0) : ¬ (.error x : Except Int Int) = .error 0 := fun e => by injection e with e; exact h e
theorem ne_ok {x : Int} : ¬ (.ok x : Except Int Int) = .error 0 := fun e => by cases e
theorem kind3_err (fl : List Fld) (e : Exp) (a0 a1 a2 : Int) : ¬ kind3 fl e a0 a1 a2 = .error 0 := by
  unfold kind3
  repeat' first
    | exact ne_err (by decide)
    | exact ne_ok
    | apply ne_ite
  split
  · exact ne_ite ne_ok (ne_err (by decide))
  · exact ne_err (by decide)
theorem manyK_err0 {p : Exp → Except Int Int} : ∀ {l : List Exp}, (∀ x ∈ l, ¬ p x = .error 0) → ¬ manyK p l = .error 0
  | [], _, h => by cases h
  | x :: l, hp, h => by
    rw [manyK] at h
    cases hx : p x with
    | error y =>
      rw [hx] at h
      have h : Except.error y = .error 0 := h
      injection h with h
      subst h
      exact hp x (by simp) hx
    | ok k =>
      rw [hx] at h
      simp only at h
      cases hl : manyK p l with
      | error y =>
        rw [hl] at h
        have h : Except.error y = .error 0 := h
        injection h with h
        subst h
        exact manyK_err0 (fun z hz => hp z (by simp [hz])) hl
      | ok ks => rw [hl] at h; cases h
theorem kE_err {fl : List Fld} : ∀ (n : Nat) (e : Exp), Dp n e → ¬ kE fl n e = .error 0
  | 0, _, h, _ => h
  | n + 1, e, hd, h => by
    rw [kE] at h
    cases hm : manyK (kE fl n) e.kids with
    | error x =>
      rw [hm] at h
      have h : Except.error x = .error 0 := h
      injection h with h
      subst h
      exact manyK_err0 (fun x hx => kE_err n x (hd x hx)) hm
    | ok ks => rw [hm] at h; exact kind3_err _ _ _ _ _ h
/-- what an expression that is checked tells over values that fit -/
theorem evalR_of {fl : List Fld} {vs : List Val} {n : Nat} {e : Exp} {k : Int} {v : Val} (hs : small e = true) (hk : kE fl n e = .ok k) (hf : fitB fl vs = true) (hv : evE fl vs n e = .ok v) : evalR fl vs n e = (v, 0) := by
  unfold evalR
  rw [if_pos hs, hk]
  show (if fitB fl vs = true then (match evE fl vs n e with | .error x => (zeroV, x) | .ok v => (v, 0)) else (zeroV, 1)) = _
  rw [if_pos hf, hv]
theorem evalR_ok {fl : List Fld} {vs : List Val} {n : Nat} {e : Exp} (hd : Dp n e) (h : (evalR fl vs n e).2 = 0) : ∃ k v, small e = true ∧ kE fl n e = .ok k ∧ fitB fl vs = true ∧ evE fl vs n e = .ok v ∧ evalR fl vs n e = (v, 0) ∧ v.kind = k ∧ goodV v = true := by
  have hh := h
  unfold evalR at h
  by_cases hs : small e = true
  · rw [if_pos hs] at h
    cases hk : kE fl n e with
    | error x =>
      rw [hk] at h
      have h : x = 0 := h
      subst h
      exact absurd hk (kE_err n e hd)
    | ok k =>
      rw [hk] at h
      by_cases hf : fitB fl vs = true
      · have h : (if fitB fl vs = true then (match evE fl vs n e with | .error x => (zeroV, x) | .ok v => (v, 0)) else (zeroV, 1)).2 = 0 := h
        rw [if_pos hf] at h
        have hS := sound fl vs hf n e k hk
        cases hv : evE fl vs n e with
        | error x =>
          rw [hv] at h hS
          have h : x = 0 := h
          rcases hS with hS | hS <;> omega
        | ok v =>
          rw [hv] at hS
          exact ⟨k, v, hs, rfl, hf, rfl, evalR_of hs hk hf hv, hS.1, hS.2⟩
      · have h : (if fitB fl vs = true then (match evE fl vs n e with | .error x => (zeroV, x) | .ok v => (v, 0)) else (zeroV, 1)).2 = 0 := h
        rw [if_neg hf] at h
        cases h
  · rw [if_neg hs] at h
    cases h
/-- a choice, a conjunction, a disjunction: what does not count may divide by nought -/
theorem lazy_ifT {fl : List Fld} {vs : List Val} {n : Nat} {e : Exp} {v : Val} (hk : kE fl (n + 3) e = .ok 2) (hf : fitB fl vs = true) (hv : evE fl vs (n + 3) e = .ok v) (hg : goodV v = true) (h2 : v.kind = 2) (hb : v.bool = true) (hs : small (oE 13 [e, cE v, zE]) = true) :
    evalR fl vs (n + 3 + 1) (oE 13 [e, cE v, zE]) = (v, 0) := by
  have hc := kE_con fl (n + 2) hg
  rw [h2] at hc
  refine evalR_of hs (kE_if hk hc (kE_zE fl n)) hf ?_
  rw [evE_op (a := v) (by decide) (by decide) hv]
  unfold step1
  rw [if_neg (by decide), if_neg (by decide), if_neg (by decide), if_neg (fun h => absurd h.1 (by decide)), if_neg (fun h => absurd h.1 (by decide)), if_pos rfl, if_pos hb]
  exact evE_con fl vs (n + 2) v
theorem lazy_ifF {fl : List Fld} {vs : List Val} {n : Nat} {e : Exp} {v : Val} (hk : kE fl (n + 3) e = .ok 2) (hf : fitB fl vs = true) (hv : evE fl vs (n + 3) e = .ok v) (hg : goodV v = true) (h2 : v.kind = 2) (hb : v.bool = false) (hs : small (oE 13 [e, zE, cE v]) = true) :
    evalR fl vs (n + 3 + 1) (oE 13 [e, zE, cE v]) = (v, 0) := by
  have hc := kE_con fl (n + 2) hg
  rw [h2] at hc
  refine evalR_of hs (kE_if hk (kE_zE fl n) hc) hf ?_
  rw [evE_op (a := v) (by decide) (by decide) hv]
  unfold step1
  rw [if_neg (by decide), if_neg (by decide), if_neg (by decide), if_neg (fun h => absurd h.1 (by decide)), if_neg (fun h => absurd h.1 (by decide)), if_pos rfl, if_neg (by rw [hb]; decide)]
  exact evE_con fl vs (n + 2) v
theorem lazy_or {fl : List Fld} {vs : List Val} {n : Nat} {e : Exp} {v : Val} (hk : kE fl (n + 3) e = .ok 2) (hf : fitB fl vs = true) (hv : evE fl vs (n + 3) e = .ok v) (hb : v.bool = true) (hs : small (oE 11 [e, zE]) = true) :
    evalR fl vs (n + 3 + 1) (oE 11 [e, zE]) = (v, 0) := by
  refine evalR_of hs (kE_logic (.inr rfl) hk (kE_zE fl n)) hf ?_
  rw [evE_op (a := v) (by decide) (by decide) hv]
  unfold step1
  rw [if_neg (by decide), if_neg (by decide), if_neg (by decide), if_neg (fun h => absurd h.1 (by decide)), if_pos ⟨rfl, hb⟩]
theorem lazy_and {fl : List Fld} {vs : List Val} {n : Nat} {e : Exp} {v : Val} (hk : kE fl (n + 3) e = .ok 2) (hf : fitB fl vs = true) (hv : evE fl vs (n + 3) e = .ok v) (hb : v.bool = false) (hs : small (oE 10 [e, zE]) = true) :
    evalR fl vs (n + 3 + 1) (oE 10 [e, zE]) = (v, 0) := by
  refine evalR_of hs (kE_logic (.inl rfl) hk (kE_zE fl n)) hf ?_
  rw [evE_op (a := v) (by decide) (by decide) hv]
  unfold step1
  rw [if_neg (by decide), if_neg (by decide), if_neg (by decide), if_pos ⟨rfl, hb⟩]
end Go.Proofs.Ytijlamajcdekkaa
