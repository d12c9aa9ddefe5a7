/- A checked expression may be put: its numbers and texts are small. -/
import Derived.Test.YtjnhgfmjehaalaaGreatMK
import Derived.Test.YtjnhgfmjehaalaaGreatMC
namespace Go.Proofs.YtjnhgfmjehaalaaGreat
open Go.RowKit
set_option linter.unusedVariables false
set_option linter.unusedSimpArgs false
/-- a part that may be put -/
structure NodeOk (e : Exp) : Prop where
 op : i64 e.op
 val : ValW e.val
 text : e.val.text.length ≤ 32
 name : e.name.length ≤ 16
 kids : e.kids.length ≤ 3
def ExpOk : Nat → Exp → Prop
 | 0, _ => True
 | n + 1, e => NodeOk e ∧ ∀ k ∈ e.kids, ExpOk n k
theorem ExpOk.w : ∀ (n : Nat) {e : Exp}, ExpOk n e → ExpW n e
 | 0, _, _ => trivial
 | n + 1, e, h => ⟨h.1.op, h.1.val, by have := h.1.name; omega, by have := h.1.kids; omega, fun k hk => ExpOk.w n (h.2 k hk)⟩
theorem manyK_mem {p : Exp → Except Int Int} : ∀ {l : List Exp} {ks : List Int}, manyK p l = .ok ks → ∀ e ∈ l, ∃ k, p e = .ok k
 | [], _, _, e, he => by cases he
 | a :: l, ks, h, e, he => by
  rw [manyK] at h
  cases ha : p a with
  | error x => rw [ha] at h; cases h
  | ok k =>
   rw [ha] at h
   simp only at h
   rcases List.mem_cons.1 he with rfl | he
   ·exact ⟨k, ha⟩
   ·cases hl : manyK p l with
    | error x => rw [hl] at h; cases h
    | ok ks' => exact manyK_mem hl e he
theorem good_text {v : Val} (h : goodV v = true) : v.text.length ≤ 32 := by
 unfold goodV at h
 simp only [Bool.and_eq_true, decide_eq_true_eq, Bool.or_eq_true] at h
 omega
theorem sameV_text {v : Val} (h : sameV v ⟨0, 0, false, [], 0⟩ = true) : v.text = [] := by
 unfold sameV at h
 simp only [Bool.and_eq_true, beq_iff_eq] at h
 exact h.1.2
theorem ariF_le (o : Int) : ariF o ≤ 3 := by
 unfold ariF
 split
 ·omega
 split
 ·omega
 split
 ·omega
 split <;> omega
theorem find_name {name : List UInt8} {fl : List Fld} (hf : ∀ f ∈ fl, f.name.length ≤ 16) (h : 0 ≤ findF name fl) : name.length ≤ 16 := by
 obtain ⟨i, f, _, hx, hp⟩ := idx_lt h
 have hp' : f.name = name := by simpa [isF] using hp
 rw [← hp']
 exact hf f (List.mem_of_getElem? hx)
theorem kindOf_head {fl : List Fld} {e : Exp} {ks : List Int} {k : Int} (h : kindOf fl e ks = .ok k) : ariF e.op = e.kids.length ∧ (e.op = 2 ∨ e.name = []) ∧ (e.op = 1 ∨ sameV e.val ⟨0, 0, false, [], 0⟩ = true) ∧ (e.op = 1 → goodV e.val = true) ∧ (e.op = 2 → 0 ≤ findF e.name fl) := by
 unfold kindOf kind3 at h
 by_cases g1 : ariF e.op = e.kids.length
 rotate_left
 ·rw [if_pos g1] at h; cases h
 rw [if_neg (by simpa using g1)] at h
 by_cases g2 : e.op = 2 ∨ e.name = []
 rotate_left
 ·rw [if_pos g2] at h; cases h
 rw [if_neg (fun hn => hn g2)] at h
 by_cases g3 : e.op = 1 ∨ sameV e.val ⟨0, 0, false, [], 0⟩ = true
 rotate_left
 ·rw [if_pos g3] at h; cases h
 rw [if_neg (fun hn => hn g3)] at h
 refine ⟨g1, g2, g3, fun g => ?_, fun g => ?_⟩
 ·rw [if_pos g] at h
  by_cases g4 : goodV e.val = true
  ·exact g4
  ·rw [if_neg g4] at h; cases h
 ·rw [if_neg (by rw [g]; decide), if_pos g] at h
  by_cases g5 : 0 ≤ findF e.name fl
  ·exact g5
  ·split at h
   ·rw [if_neg g5] at h; cases h
   ·cases h
theorem kindOf_node {fl : List Fld} {e : Exp} {ks : List Int} {k : Int} (hf : ∀ f ∈ fl, f.name.length ≤ 16) (hi : ExpI e) (h : kindOf fl e ks = .ok k) : NodeOk e := by
 obtain ⟨g1, g2, g3, g4, g5⟩ := kindOf_head h
 have hk : e.kids.length ≤ 3 := by have := ariF_le e.op; omega
 have ht : e.val.text.length ≤ 32 := by
  rcases g3 with g | g
  ·exact good_text (g4 g)
  ·rw [sameV_text g]; simp
 have hn : e.name.length ≤ 16 := by
  rcases g2 with g | g
  ·exact find_name hf (g5 g)
  ·rw [g]; simp
 cases hi with
 | mk a b c => exact ⟨a, ⟨c.kind, c.int, c.num, by have : _ ≤ 32 := ht; omega⟩, ht, hn, hk⟩
theorem kE_okN {fl : List Fld} (hf : ∀ f ∈ fl, f.name.length ≤ 16) : ∀ (n : Nat) {e : Exp} {k : Int}, ExpI e → kE fl n e = .ok k → ExpOk n e
 | 0, _, _, _, _ => trivial
 | n + 1, e, k, hi, h => by
  rw [kE] at h
  cases hm : manyK (kE fl n) e.kids with
  | error x => rw [hm] at h; cases h
  | ok ks =>
   rw [hm] at h
   refine ⟨kindOf_node hf hi h, fun x hx => ?_⟩
   obtain ⟨k', hk'⟩ := manyK_mem hm x hx
   cases hi with
   | mk a b c => exact kE_okN hf n (b x hx) hk'
theorem bVal_le {v : Val} (h : v.text.length ≤ 32) : (bVal v).length ≤ 44 := by
 unfold bVal
 rw [List.length_append, bInt_len]
 repeat' split
 all_goals first | (rw [bInt_len]; omega) | (rw [bBytes_len]; omega) | (rw [be_len]; omega) | simp
theorem bX_le : ∀ (d n : Nat) (e : Exp) (N M : Int), ExpOk n e → spD d e N = (true, M) → ((bX n e).length : Int) ≤ 76 * (N - M)
 | 0, n, e, N, M, h, hs => by simp [spD] at hs
 | d + 1, 0, e, N, M, h, hs => by
  have := spD_le (d + 1) e N M hs
  show (([] : List UInt8).length : Int) ≤ _
  simp
  omega
 | d + 1, n + 1, e, N, M, h, hs => by
  obtain ⟨hn, hk⟩ := h
  rw [spD] at hs
  by_cases hN : N - 1 < 0
  ·rw [if_pos hN] at hs; simp at hs
  rw [if_neg hN] at hs
  have key : ∀ (l : List Exp) (a b : Int), 0 ≤ a → (∀ x ∈ l, ExpOk n x) → l.foldl (spF d) (true, a) = (true, b) → (((l.map (bX n)).flatten).length : Int) ≤ 76 * (a - b) := by
   intro l
   induction l with
   | nil => intro a b h0 _ h; simp at h; simp [h]
   | cons x l ih =>
    intro a b h0 hx h
    rw [List.foldl_cons] at h
    have e1 : spF d (true, a) x = spD d x a := rfl
    rw [e1] at h
    cases hq : spD d x a with
    | mk t q =>
     rw [hq] at h
     cases t with
     | false => rw [spF_no] at h; simp at h
     | true =>
      have h1 := bX_le d n x a q (hx x (by simp)) hq
      have h2 := spD_le d x a q hq
      have h3 := ih q b h2.1 (fun y hy => hx y (by simp [hy])) h
      rw [List.map_cons, List.flatten_cons, List.length_append]
      omega
  have h1 := key e.kids (N - 1) M (by omega) hk hs
  show ((bInt e.op ++ (bCount e.kids.length ++ (bBytes e.name ++ (bVal e.val ++ (e.kids.map (bX n)).flatten)))).length : Int) ≤ _
  have h2 := bVal_le hn.text
  have h3 := hn.name
  simp only [List.length_append, bInt_len, bCount_len, bBytes_len]
  omega
theorem bE_le {n : Nat} {e : Exp} (h : small e = true) (ho : ExpOk (n + 1) e) : (bE n e).length ≤ 1824 := by
 unfold bE
 rw [h]
 have h' := h
 unfold small at h'
 cases hr : spD 6 e 24 with
 | mk b M =>
  rw [hr] at h'
  have h' : b = true := h'
  subst h'
  have h1 := bX_le 6 (n + 1) e 24 M ho hr
  have h2 := spD_le 6 e 24 M hr
  show (bX (n + 1) e).length ≤ _
  omega
end Go.Proofs.YtjnhgfmjehaalaaGreat
