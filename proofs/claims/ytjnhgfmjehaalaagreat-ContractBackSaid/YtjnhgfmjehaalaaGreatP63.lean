/- Bytes put are read again: expressions: the plain law. -/
import Derived.Test.YtjnhgfmjehaalaaGreatP62
import Derived.Test.YtjnhgfmjehaalaaGreatMN
namespace Go.Proofs.YtjnhgfmjehaalaaGreat
open Go.RowKit
set_option linter.unusedVariables false
set_option linter.unusedSimpArgs false
theorem sameV_zero {v : Val} (h : sameV v ⟨0, 0, false, [], 0⟩ = true) : v.kind = 0 ∧ v.int = 0 ∧ v.bool = false ∧ v.text = [] ∧ codeB v.num = 0 := by
  unfold sameV at h
  simp only [Bool.and_eq_true, beq_iff_eq, codeB_0] at h
  exact ⟨h.1.1.1.1, h.1.1.1.2, h.1.1.2, h.1.2, h.2⟩
abbrev Vok (v : Val) : Prop := goodV v = true ∨ sameV v ⟨0, 0, false, [], 0⟩ = true
theorem bVal_split (v : Val) (t : List UInt8) : ∃ r, bVal v ++ t = bInt v.kind ++ r := ⟨_, by unfold bVal; rw [List.append_assoc]⟩
theorem vX_put {v : Val} (h : Vok v) (hw : ValW v) (t : List UInt8) : vX (bVal v ++ t, 0) = .ok (nV v, (t, 0)) := by
  rcases h with h | h
  · obtain ⟨r, hr⟩ := bVal_split v t
    have hk := (good_parts h).1
    have h1 := rInt_put v.kind hw.kind r
    unfold vX
    rw [gVal_put h hw t, hr, h1]
    rw [if_neg (by intro h0; have := h0.1; simp only at this; omega)]
    rfl
  · obtain ⟨k, i, b, x, n⟩ := sameV_zero h
    have e : bVal v ++ t = bInt 0 ++ t := by unfold bVal; rw [k]; simp
    have h1 := rInt_put 0 (by unfold i64; decide) t
    unfold vX
    rw [e, h1]
    simp [nV, k, i, b, x, n, zeroV]
def nE : Nat → Exp → Exp
  | 0, e => e
  | n + 1, e => .mk e.op (e.kids.map (nE n)) e.name (nV e.val)
def Vd : Nat → Exp → Prop
  | 0, _ => False
  | n + 1, e => (NodeOk e ∧ Vok e.val) ∧ ∀ k ∈ e.kids, Vd n k
theorem spF_prefix {d : Nat} {l : List Exp} {a M : Int} (h : l.foldl (spF d) (true, a) = (true, M)) (i : Nat) : ∃ m, (l.take i).foldl (spF d) (true, a) = (true, m) := by
  cases hq : (l.take i).foldl (spF d) (true, a) with
  | mk b m =>
    cases b with
    | true => exact ⟨m, rfl⟩
    | false =>
      rw [← List.take_append_drop i l, List.foldl_append, hq, spF_no] at h
      injection h with h
      cases h
/-- the parts, read one by one -/
theorem gI_put {d n : Nat} {e : Exp} {N M : Int} (t : List UInt8) (ih : ∀ (x : Exp) (N M : Int) (t : List UInt8), x ∈ e.kids → spD d x N = (true, M) → gX d N (bX n x ++ t, 0) = .ok (nE n x, M, (t, 0)))
    (hs : e.kids.foldl (spF d) (true, N) = (true, M)) : ∀ i, i ≤ e.kids.length → ∀ m, (e.kids.take i).foldl (spF d) (true, N) = (true, m) →
        gI (gX d) N ((e.kids.map (bX n)).flatten ++ t, 0) i = .ok ((e.kids.take i).map (nE n), m, (((e.kids.drop i).map (bX n)).flatten ++ t, 0)) := by
  intro i
  induction i with
  | zero =>
    intro _ m hm
    simp at hm
    subst hm
    simp [gI]
  | succ i ih2 =>
    intro hi m hm
    obtain ⟨m1, hm1⟩ := spF_prefix hs i
    have hx := List.getElem?_eq_getElem (show i < e.kids.length by omega)
    have h1 := spF_next hm1 hx
    rw [hm] at h1
    have h2 := ih e.kids[i] m1 m (((e.kids.drop (i + 1)).map (bX n)).flatten ++ t) (List.getElem_mem _) h1.symm
    have h3 : ((e.kids.drop i).map (bX n)).flatten ++ t = bX n e.kids[i] ++ (((e.kids.drop (i + 1)).map (bX n)).flatten ++ t) := by
      rw [List.drop_eq_getElem_cons (show i < e.kids.length by omega), List.map_cons, List.flatten_cons, List.append_assoc]
    have h4 : (e.kids.take (i + 1)).map (nE n) = (e.kids.take i).map (nE n) ++ [nE n e.kids[i]] := by
      rw [List.take_add_one, hx, List.map_append]
      rfl
    rw [gI, ih2 (by omega) m1 hm1]
    simp only
    rw [h3, h2, h4]
theorem gX_suc (d : Nat) (N : Int) (s : RS) : gX (d + 1) N s = if N ≤ 0 then .error 51 else gTail (gX d) N (rInt s).1 (rCount 3 (rInt s).2).1 (rBytes 16 (rCount 3 (rInt s).2).2) := rfl
theorem gX_of {d : Nat} {N M o : Int} {s s1 s2 s4 s5 : RS} {n : Nat} {b s3 : List UInt8} {v : Val} {l : List Exp} (hN : ¬ N ≤ 0) (r1 : rInt s = (o, s1)) (r2 : rCount 3 s1 = (n, s2)) (r3 : rBytes 16 s2 = (b, (s3, 0))) (r4 : vX (s3, 0) = .ok (v, s4)) (r5 : gI (gX d) (N - 1) s4 n = .ok (l, M, s5)) : gX (d + 1) N s = .ok (.mk o l b v, M, s5) := by
  rw [gX_suc, if_neg hN, r1]
  simp only
  rw [r2]
  simp only
  rw [r3]
  unfold gTail
  rw [if_neg (fun h => h rfl), r4]
  simp only
  rw [r5]
theorem spD_suc (d : Nat) (e : Exp) (N : Int) : spD (d + 1) e N = if N - 1 < 0 then (false, N - 1) else e.kids.foldl (spF d) (true, N - 1) := rfl
theorem bX_suc (n : Nat) (e : Exp) : bX (n + 1) e = bInt e.op ++ (bCount e.kids.length ++ (bBytes e.name ++ (bVal e.val ++ (e.kids.map (bX n)).flatten))) := rfl
theorem gX_put : ∀ (d n : Nat) (e : Exp) (N M : Int) (t : List UInt8), Vd n e → spD d e N = (true, M) → gX d N (bX n e ++ t, 0) = .ok (nE n e, M, (t, 0)) := by
  intro d
  induction d with
  | zero => intro n e N M t hv hs; simp [spD] at hs
  | succ d ih =>
    intro n e N M t hv hs
    cases n with
    | zero => exact hv.elim
    | succ n =>
    obtain ⟨⟨hn, hok⟩, hk⟩ := hv
    rw [spD_suc] at hs
    by_cases hN : N - 1 < 0
    · rw [if_pos hN] at hs; simp at hs
    rw [if_neg hN] at hs
    have h0 := gI_put (n := n) t (fun x N M t hx h => ih n x N M t (hk x hx) h) hs e.kids.length (Nat.le_refl _) M (by rw [List.take_length]; exact hs)
    rw [List.take_length, List.drop_length, List.map_nil, List.flatten_nil, List.nil_append] at h0
    have e1 : bX (n + 1) e ++ t = bInt e.op ++ (bCount e.kids.length ++ (bBytes e.name ++ (bVal e.val ++ ((e.kids.map (bX n)).flatten ++ t)))) := by
      rw [bX_suc]
      simp only [List.append_assoc]
    have r1 := rInt_put e.op hn.op (bCount e.kids.length ++ (bBytes e.name ++ (bVal e.val ++ ((e.kids.map (bX n)).flatten ++ t))))
    have r2 := rCount_put 3 e.kids.length (by have := hn.kids; omega) (by have := hn.kids; omega) (bBytes e.name ++ (bVal e.val ++ ((e.kids.map (bX n)).flatten ++ t)))
    have r3 := rBytes_put 16 e.name (by have := hn.name; omega) (by have := hn.name; omega) (bVal e.val ++ ((e.kids.map (bX n)).flatten ++ t))
    have r4 := vX_put hok hn.val ((e.kids.map (bX n)).flatten ++ t)
    rw [e1]
    exact gX_of (by omega) r1 r2 r3 r4 h0
theorem gE_put {n : Nat} {e : Exp} (hv : Vd n e) (hs : small e = true) (t : List UInt8) : gE (bX n e ++ t, 0) = .ok (nE n e, (t, 0)) := by
  unfold small at hs
  cases hr : spD 6 e 24 with
  | mk b M =>
    rw [hr] at hs
    have hs : b = true := hs
    subst hs
    unfold gE
    rw [if_neg (by simp), gX_put 6 n e 24 M t hv hr]
theorem kindOf_vok {fl : List Fld} {e : Exp} {ks : List Int} {k : Int} (h : kindOf fl e ks = .ok k) : Vok e.val := by
  obtain ⟨_, _, g3, g4, _⟩ := kindOf_head h
  rcases g3 with g | g
  · exact .inl (g4 g)
  · exact .inr g
theorem kE_vd {fl : List Fld} (hf : ∀ f ∈ fl, f.name.length ≤ 16) : ∀ (n : Nat) {e : Exp} {k : Int}, ExpI e → kE fl n e = .ok k → Vd n e
  | 0, _, _, _, h => by cases h
  | n + 1, e, k, hi, h => by
    rw [kE] at h
    cases hm : manyK (kE fl n) e.kids with
    | error x => rw [hm] at h; cases h
    | ok ks =>
      rw [hm] at h
      refine ⟨⟨kindOf_node hf hi h, kindOf_vok h⟩, fun x hx => ?_⟩
      obtain ⟨k', hk'⟩ := manyK_mem hm x hx
      cases hi with
      | mk a b c => exact kE_vd hf n (b x hx) hk'
theorem isE_vd {fl : List Fld} {n : Nat} {e : Exp} {k : Int} (hf : ∀ f ∈ fl, f.name.length ≤ 16) (hi : ExpI e) (hd : Dp n e) (h : isE fl n e k = true) : small e = true ∧ kE fl n e = .ok k ∧ Vd n e := by
  unfold isE chkE at h
  cases hs : small e with
  | false => rw [hs] at h; simp at h
  | true =>
    rw [hs] at h
    cases hk : kE fl n e with
    | ok k' =>
      rw [hk] at h
      simp at h
      subst h
      exact ⟨rfl, rfl, kE_vd hf n hi hk⟩
    | error x =>
      exfalso
      rw [hk] at h
      simp at h
      exact kE_err n e hd (by rw [hk, h.1])
end Go.Proofs.YtjnhgfmjehaalaaGreat
