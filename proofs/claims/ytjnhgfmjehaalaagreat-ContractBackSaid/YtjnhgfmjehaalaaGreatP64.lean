/- The normal form of values and expressions: the plain law. -/
import Derived.Test.YtjnhgfmjehaalaaGreatP63
import Derived.Test.YtjnhgfmjehaalaaGreatMC
namespace Go.Proofs.YtjnhgfmjehaalaaGreat
open Go.RowKit
set_option linter.unusedVariables false
set_option linter.unusedSimpArgs false
theorem codeB_idem (b : Nat) : codeB (codeB b) = codeB b := by
  cases h : nanB b
  · have e : codeB b = b := by unfold codeB; rw [h]; rfl
    rw [e, e]
  · have e : codeB b = 9221120237041090561 := by unfold codeB; rw [h]; rfl
    rw [e]
    unfold codeB
    rw [nan_one]
    rfl
theorem sameV_nV (v z : Val) : sameV (nV v) z = sameV v z := by
  unfold sameV nV
  simp only [codeB_idem]
theorem goodV_nV (v : Val) : goodV (nV v) = goodV v := by
  obtain ⟨k, i, b, t, n⟩ := v
  unfold nV
  rw [goodV_eq, goodV_eq]
  simp only [codeB_idem]
theorem bVal_nV (v : Val) : bVal (nV v) = bVal v := by
  unfold bVal nV
  simp only [codeB_idem]
theorem valI_nV {v : Val} (h : ValI v) : ValI (nV v) := ⟨h.kind, h.int, codeB_lt2 h.num⟩
theorem nE_op : ∀ (n : Nat) (e : Exp), (nE n e).op = e.op
  | 0, _ => rfl
  | _ + 1, _ => rfl
theorem nE_name : ∀ (n : Nat) (e : Exp), (nE n e).name = e.name
  | 0, _ => rfl
  | _ + 1, _ => rfl
theorem expI_nE : ∀ (n : Nat) {e : Exp}, ExpI e → ExpI (nE n e)
  | 0, _, h => h
  | n + 1, _, .mk (op := o) (kids := ks) (name := nm) (val := v) a b c => .mk (op := o) (kids := ks.map (nE n)) (name := nm) (val := nV v) a (fun k hk => by
      obtain ⟨x, hx, rfl⟩ := List.mem_map.1 hk
      exact expI_nE n (b x hx)) (valI_nV c)
theorem spD_nE : ∀ (d n : Nat) (e : Exp) (N : Int), spD d (nE n e) N = spD d e N := by
  intro d
  induction d with
  | zero => intro n e N; rfl
  | succ d ih =>
    intro n e N
    cases n with
    | zero => rfl
    | succ n =>
      rw [spD_suc, spD_suc]
      show (if N - 1 < 0 then (false, N - 1) else (e.kids.map (nE n)).foldl (spF d) (true, N - 1)) = _
      rw [List.foldl_map]
      congr 2
      funext r k
      show (if r.1 then spD d (nE n k) r.2 else r) = (if r.1 then spD d k r.2 else r)
      rw [ih]
theorem small_nE (n : Nat) (e : Exp) : small (nE n e) = small e := by
  unfold small
  rw [spD_nE]
theorem spF_mem {d : Nat} : ∀ {l : List Exp} {a M : Int}, l.foldl (spF d) (true, a) = (true, M) → ∀ x ∈ l, ∃ N M, spD d x N = (true, M)
  | [], _, _, _, x, hx => by cases hx
  | y :: l, a, M, h, x, hx => by
    rw [List.foldl_cons] at h
    have e1 : spF d (true, a) y = spD d y a := rfl
    rw [e1] at h
    cases hq : spD d y a with
    | mk t q =>
      rw [hq] at h
      cases t with
      | false => rw [spF_no] at h; simp at h
      | true =>
        rcases List.mem_cons.1 hx with rfl | hx
        · exact ⟨a, q, hq⟩
        · exact spF_mem h x hx
theorem bX_nE : ∀ (d n : Nat) (e : Exp) (N M : Int), Vd n e → spD d e N = (true, M) → bX d (nE n e) = bX n e := by
  intro d
  induction d with
  | zero => intro n e N M hv hs; simp [spD] at hs
  | succ d ih =>
    intro n e N M hv hs
    cases n with
    | zero => exact hv.elim
    | succ n =>
      obtain ⟨_, hk⟩ := hv
      rw [spD_suc] at hs
      by_cases hN : N - 1 < 0
      · rw [if_pos hN] at hs; simp at hs
      rw [if_neg hN] at hs
      rw [bX_suc, bX_suc]
      show bInt e.op ++ (bCount (e.kids.map (nE n)).length ++ (bBytes e.name ++ (bVal (nV e.val) ++ ((e.kids.map (nE n)).map (bX d)).flatten))) = _
      rw [List.length_map, bVal_nV, List.map_map]
      have h2 : e.kids.map (bX d ∘ nE n) = e.kids.map (bX n) := List.map_congr_left fun x hx => by
        obtain ⟨a, b, h⟩ := spF_mem hs x hx
        exact ih n x a b (hk x hx) h
      rw [h2]
theorem manyK_map {p q : Exp → Except Int Int} {f : Exp → Exp} : ∀ {l : List Exp} {ks : List Int}, manyK p l = .ok ks → (∀ x ∈ l, ∀ k, p x = .ok k → q (f x) = .ok k) → manyK q (l.map f) = .ok ks
  | [], ks, h, _ => h
  | a :: l, ks, h, hx => by
    rw [manyK] at h
    cases ha : p a with
    | error x => rw [ha] at h; cases h
    | ok k =>
      rw [ha] at h
      simp only at h
      cases hl : manyK p l with
      | error x => rw [hl] at h; cases h
      | ok ks' =>
        rw [hl] at h
        simp only at h
        rw [List.map_cons, manyK, hx a (by simp) k ha]
        simp only
        rw [manyK_map hl fun y hy => hx y (by simp [hy])]
        exact h
/-- a field as it is read -/
def nF (f : Fld) : Fld := ⟨f.name, f.kind, f.enum, nV f.init⟩
theorem findF_nF (name : List UInt8) (fl : List Fld) : findF name (fl.map nF) = findF name fl := by
  unfold findF
  rw [idx_map]
  rfl
theorem kindOf_nE (fl : List Fld) (n : Nat) (e : Exp) (ks : List Int) : kindOf (fl.map nF) (nE (n + 1) e) ks = kindOf fl e ks := by
  show kindOf (fl.map nF) (.mk e.op (e.kids.map (nE n)) e.name (nV e.val)) ks = kindOf fl e ks
  unfold kindOf kind3
  have e1 : (Exp.mk e.op (e.kids.map (nE n)) e.name (nV e.val)).op = e.op := rfl
  have e2 : (Exp.mk e.op (e.kids.map (nE n)) e.name (nV e.val)).kids = e.kids.map (nE n) := rfl
  have e3 : (Exp.mk e.op (e.kids.map (nE n)) e.name (nV e.val)).name = e.name := rfl
  have e4 : (Exp.mk e.op (e.kids.map (nE n)) e.name (nV e.val)).val = nV e.val := rfl
  have e5 : (nV e.val).kind = e.val.kind := rfl
  rw [e1, e2, e3, e4, e5, List.length_map, sameV_nV, goodV_nV, findF_nF, List.getElem?_map]
  cases fl[(findF e.name fl).toNat]? <;> rfl
theorem kE_suc (fl : List Fld) (n : Nat) (e : Exp) : kE fl (n + 1) e = match manyK (kE fl n) e.kids with | .error x => .error x | .ok ks => kindOf fl e ks := rfl
theorem kE_nE (fl : List Fld) : ∀ (d n : Nat) (e : Exp) (N M k : Int), spD d e N = (true, M) → kE fl n e = .ok k → kE (fl.map nF) d (nE n e) = .ok k := by
  intro d
  induction d with
  | zero => intro n e N M k hs h; simp [spD] at hs
  | succ d ih =>
    intro n e N M k hs h
    cases n with
    | zero => cases h
    | succ n =>
      rw [spD_suc] at hs
      by_cases hN : N - 1 < 0
      · rw [if_pos hN] at hs; simp at hs
      rw [if_neg hN] at hs
      rw [kE_suc] at h
      cases hm : manyK (kE fl n) e.kids with
      | error x => rw [hm] at h; cases h
      | ok ks =>
        rw [hm] at h
        simp only at h
        have h2 : manyK (kE (fl.map nF) d) (nE (n + 1) e).kids = .ok ks := manyK_map (f := nE n) hm fun x hx k hk => by
          obtain ⟨a, b, hab⟩ := spF_mem hs x hx
          exact ih n x a b k hab hk
        rw [kE_suc, h2]
        simp only
        rw [kindOf_nE]
        exact h
/-- what is right stays right as it is read -/
theorem isE_nE {fl : List Fld} {n : Nat} {e : Exp} {k : Int} (hf : ∀ f ∈ fl, f.name.length ≤ 16) (hi : ExpI e) (hd : Dp n e) (h : isE fl n e k = true) : isE (fl.map nF) 6 (nE n e) k = true ∧ bE 5 (nE n e) = bX n e ∧ small e = true ∧ Vd n e := by
  obtain ⟨hs, hk, hv⟩ := isE_vd hf hi hd h
  have hs' := hs
  unfold small at hs'
  cases hr : spD 6 e 24 with
  | mk b M =>
    rw [hr] at hs'
    have hb : b = true := hs'
    subst hb
    refine ⟨?_, ?_, hs, hv⟩
    · unfold isE chkE
      rw [small_nE, hs, kE_nE fl 6 n e 24 M k hr hk]
      simp
    · unfold bE
      rw [small_nE, hs]
      exact bX_nE 6 n e 24 M hv hr
end Go.Proofs.YtjnhgfmjehaalaaGreat
