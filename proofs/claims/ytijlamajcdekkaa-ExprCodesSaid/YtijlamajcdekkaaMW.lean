/- Texts that go together. -/
import Derived.Test.YtijlamajcdekkaaMK
import Derived.Test.YtijlamajcdekkaaMC
import Derived.Test.YtijlamajcdekkaaV4
/- A checked expression may be put: its numbers and texts are small. -/
namespace Go.Proofs.Ytijlamajcdekkaa
open Go.RowKit
set_option linter.unusedVariables false
set_option linter.unusedSimpArgs false
/-- a part that may be put -/
structure NodeOk (e : Exp) : Prop where
  op : i64 e.op
  val : ValW e.val
  text : e.val.text.length ≤ 32
  name : e.name.length ≤ 16
  kids : e.kids.length ≤ 3
def ExpOk : Nat → Exp → Prop
  | 0, _ => True
  | n + 1, e => NodeOk e ∧ ∀ k ∈ e.kids, ExpOk n k
theorem ExpOk.w : ∀ (n : Nat) {e : Exp}, ExpOk n e → ExpW n e
  | 0, _, _ => trivial
  | n + 1, e, h => ⟨h.1.op, h.1.val, by have := h.1.name; omega, by have := h.1.kids; omega, fun k hk => ExpOk.w n (h.2 k hk)⟩
theorem manyK_mem {p : Exp → Except Int Int} : ∀ {l : List Exp} {ks : List Int}, manyK p l = .ok ks → ∀ e ∈ l, ∃ k, p e = .ok k
  | [], _, _, e, he => by cases he
  | a :: l, ks, h, e, he => by
    rw [manyK] at h
    cases ha : p a with
    | error x => rw [ha] at h; cases h
    | ok k =>
      rw [ha] at h
      simp only at h
      rcases List.mem_cons.1 he with rfl | he
      · exact ⟨k, ha⟩
      · cases hl : manyK p l with
        | error x => rw [hl] at h; cases h
        | ok ks' => exact manyK_mem hl e he
theorem good_text {v : Val} (h : goodV v = true) : v.text.length ≤ 32 := by
  unfold goodV at h
  simp only [Bool.and_eq_true, decide_eq_true_eq, Bool.or_eq_true] at h
  omega
theorem sameV_text {v : Val} (h : sameV v ⟨0, 0, false, [], 0⟩ = true) : v.text = [] := by
  unfold sameV at h
  simp only [Bool.and_eq_true, beq_iff_eq] at h
  exact h.1.2
theorem ariF_le (o : Int) : ariF o ≤ 3 := by
  unfold ariF
  split
  · omega
  split
  · omega
  split
  · omega
  split <;> omega
theorem idx_lt60 {α : Type} {l : List α} {p : α → Bool} (h : 0 ≤ idx p l) : ∃ i x, idx p l = (i : Nat) ∧ l[i]? = some x ∧ p x = true := by
  unfold idx at *
  cases hf : l.findIdx? p with
  | none => rw [hf] at h; exact absurd h (by decide)
  | some i =>
    rw [List.findIdx?_eq_some_iff_getElem] at hf
    obtain ⟨hi, hp, _⟩ := hf
    exact ⟨i, l[i], rfl, List.getElem?_eq_getElem hi, hp⟩
theorem find_name {name : List UInt8} {fl : List Fld} (hf : ∀ f ∈ fl, f.name.length ≤ 16) (h : 0 ≤ findF name fl) : name.length ≤ 16 := by
  obtain ⟨i, f, _, hx, hp⟩ := idx_lt60 h
  have hp' : f.name = name := by simpa [isF] using hp
  rw [← hp']
  exact hf f (List.mem_of_getElem? hx)
theorem kindOf_head {fl : List Fld} {e : Exp} {ks : List Int} {k : Int} (h : kindOf fl e ks = .ok k) : ariF e.op = e.kids.length ∧ (e.op = 2 ∨ e.name = []) ∧ (e.op = 1 ∨ sameV e.val ⟨0, 0, false, [], 0⟩ = true) ∧ (e.op = 1 → goodV e.val = true) ∧ (e.op = 2 → 0 ≤ findF e.name fl) := by
  unfold kindOf kind3 at h
  by_cases g1 : ariF e.op = e.kids.length
  rotate_left
  · rw [if_pos g1] at h; cases h
  rw [if_neg (by simpa using g1)] at h
  by_cases g2 : e.op = 2 ∨ e.name = []
  rotate_left
  · rw [if_pos g2] at h; cases h
  rw [if_neg (fun hn => hn g2)] at h
  by_cases g3 : e.op = 1 ∨ sameV e.val ⟨0, 0, false, [], 0⟩ = true
  rotate_left
  · rw [if_pos g3] at h; cases h
  rw [if_neg (fun hn => hn g3)] at h
  refine ⟨g1, g2, g3, fun g => ?_, fun g => ?_⟩
  · rw [if_pos g] at h
    by_cases g4 : goodV e.val = true
    · exact g4
    · rw [if_neg g4] at h; cases h
  · rw [if_neg (by rw [g]; decide), if_pos g] at h
    by_cases g5 : 0 ≤ findF e.name fl
    · exact g5
    · split at h
      · rw [if_neg g5] at h; cases h
      · cases h
theorem kindOf_node {fl : List Fld} {e : Exp} {ks : List Int} {k : Int} (hf : ∀ f ∈ fl, f.name.length ≤ 16) (hi : ExpI e) (h : kindOf fl e ks = .ok k) : NodeOk e := by
  obtain ⟨g1, g2, g3, g4, g5⟩ := kindOf_head h
  have hk : e.kids.length ≤ 3 := by have := ariF_le e.op; omega
  have ht : e.val.text.length ≤ 32 := by
    rcases g3 with g | g
    · exact good_text (g4 g)
    · rw [sameV_text g]; simp
  have hn : e.name.length ≤ 16 := by
    rcases g2 with g | g
    · exact find_name hf (g5 g)
    · rw [g]; simp
  cases hi with
  | mk a b c => exact ⟨a, ⟨c.kind, c.int, c.num, by have : _ ≤ 32 := ht; omega⟩, ht, hn, hk⟩
theorem kE_okN {fl : List Fld} (hf : ∀ f ∈ fl, f.name.length ≤ 16) : ∀ (n : Nat) {e : Exp} {k : Int}, ExpI e → kE fl n e = .ok k → ExpOk n e
  | 0, _, _, _, _ => trivial
  | n + 1, e, k, hi, h => by
    rw [kE] at h
    cases hm : manyK (kE fl n) e.kids with
    | error x => rw [hm] at h; cases h
    | ok ks =>
      rw [hm] at h
      refine ⟨kindOf_node hf hi h, fun x hx => ?_⟩
      obtain ⟨k', hk'⟩ := manyK_mem hm x hx
      cases hi with
      | mk a b c => exact kE_okN hf n (b x hx) hk'
theorem bVal_le {v : Val} (h : v.text.length ≤ 32) : (bVal v).length ≤ 44 := by
  unfold bVal
  rw [List.length_append, bInt_len]
  repeat' split
  all_goals first | (rw [bInt_len]; omega) | (rw [bBytes_len]; omega) | (rw [be_len]; omega) | simp
theorem bX_le : ∀ (d n : Nat) (e : Exp) (N M : Int), ExpOk n e → spD d e N = (true, M) → ((bX n e).length : Int) ≤ 76 * (N - M)
  | 0, n, e, N, M, h, hs => by simp [spD] at hs
  | d + 1, 0, e, N, M, h, hs => by
    have := spD_le (d + 1) e N M hs
    show (([] : List UInt8).length : Int) ≤ _
    simp
    omega
  | d + 1, n + 1, e, N, M, h, hs => by
    obtain ⟨hn, hk⟩ := h
    rw [spD] at hs
    by_cases hN : N - 1 < 0
    · rw [if_pos hN] at hs; simp at hs
    rw [if_neg hN] at hs
    have key : ∀ (l : List Exp) (a b : Int), 0 ≤ a → (∀ x ∈ l, ExpOk n x) → l.foldl (spF d) (true, a) = (true, b) → (((l.map (bX n)).flatten).length : Int) ≤ 76 * (a - b) := by
      intro l
      induction l with
      | nil => intro a b h0 _ h; simp at h; simp [h]
      | cons x l ih =>
        intro a b h0 hx h
        rw [List.foldl_cons] at h
        have e1 : spF d (true, a) x = spD d x a := rfl
        rw [e1] at h
        cases hq : spD d x a with
        | mk t q =>
          rw [hq] at h
          cases t with
          | false => rw [spF_no] at h; simp at h
          | true =>
            have h1 := bX_le d n x a q (hx x (by simp)) hq
            have h2 := spD_le d x a q hq
            have h3 := ih q b h2.1 (fun y hy => hx y (by simp [hy])) h
            rw [List.map_cons, List.flatten_cons, List.length_append]
            omega
    have h1 := key e.kids (N - 1) M (by omega) hk hs
    show ((bInt e.op ++ (bCount e.kids.length ++ (bBytes e.name ++ (bVal e.val ++ (e.kids.map (bX n)).flatten)))).length : Int) ≤ _
    have h2 := bVal_le hn.text
    have h3 := hn.name
    simp only [List.length_append, bInt_len, bCount_len, bBytes_len]
    omega
theorem bE_le {n : Nat} {e : Exp} (h : small e = true) (ho : ExpOk (n + 1) e) : (bE n e).length ≤ 1824 := by
  unfold bE
  rw [h]
  have h' := h
  unfold small at h'
  cases hr : spD 6 e 24 with
  | mk b M =>
    rw [hr] at h'
    have h' : b = true := h'
    subst h'
    have h1 := bX_le 6 (n + 1) e 24 M ho hr
    have h2 := spD_le 6 e 24 M hr
    show (bX (n + 1) e).length ≤ _
    omega
end Go.Proofs.Ytijlamajcdekkaa

/- Bytes put are read again: numbers, texts, values: the plain law. -/
namespace Go.Proofs.Ytijlamajcdekkaa
open Go.RowKit
set_option linter.unusedVariables false
set_option linter.unusedSimpArgs false
theorem pow_byte (k : Nat) : 2 ^ (8 * k) = 256 ^ k := by rw [Nat.pow_mul]
theorem num_from : ∀ (l : List UInt8) (a : Nat), l.foldl (fun n x => n * 256 + x.toNat) a = a * 256 ^ l.length + num l
  | [], a => by simp [num]
  | y :: l, a => by
    unfold num
    rw [List.foldl_cons, List.foldl_cons, num_from l, num_from l, List.length_cons, Nat.pow_succ, Nat.add_mul, Nat.mul_assoc, Nat.mul_comm 256, Nat.zero_mul, Nat.zero_add]
    omega
theorem num_cons (x : UInt8) (l : List UInt8) : num (x :: l) = x.toNat * 256 ^ l.length + num l := by
  unfold num
  rw [List.foldl_cons, num_from, Nat.zero_mul, Nat.zero_add]
  rfl
theorem num_be : ∀ k n, num (be k n) = n % 256 ^ k
  | 0, n => by simp [be, num, Nat.mod_one]
  | k + 1, n => by
    rw [be, num_cons, num_be k n, be_len, pow_byte, Nat.pow_succ, Nat.mod_mul]
    have : (UInt8.ofNat (n / 256 ^ k)).toNat = n / 256 ^ k % 256 := by simp
    rw [this, Nat.mul_comm]
    omega
theorem be_add : ∀ k n m, be k (n + m * 256 ^ k) = be k n
  | 0, _, _ => rfl
  | k + 1, n, m => by
    have e : n + m * 256 ^ (k + 1) = n + (m * 256) * 256 ^ k := by rw [Nat.pow_succ, Nat.mul_assoc, Nat.mul_comm 256]
    have hp : 0 < 256 ^ k := Nat.pow_pos (by omega)
    rw [be, be, e, be_add k n (m * 256), pow_byte, Nat.add_mul_div_right _ _ hp]
    congr 1
    apply UInt8.toNat_inj.1
    simp
theorem be_num : ∀ l : List UInt8, be l.length (num l) = l
  | [] => rfl
  | x :: l => by
    have hl := num_lt l
    have hp : 0 < 256 ^ l.length := Nat.pow_pos (by omega)
    have e : x.toNat * 256 ^ l.length + num l = num l + x.toNat * 256 ^ l.length := Nat.add_comm _ _
    rw [num_cons, e, List.length_cons, be, be_add, be_num l, pow_byte, Nat.add_mul_div_right _ _ hp, Nat.div_eq_of_lt hl]
    simp
theorem be_num' {l : List UInt8} {k : Nat} (h : l.length = k) : be k (num l) = l := by subst h; exact be_num l
theorem s64_i64 (n : Nat) : i64 (s64 n) := by unfold i64 s64 wrap64; omega
theorem s64_num (x : Int) (h : i64 x) : s64 (num (bInt x)) = x := by
  unfold bInt
  rw [num_be]
  unfold i64 at h
  unfold s64 wrap64
  omega
theorem bInt_s64 (l : List UInt8) (h : l.length = 8) : bInt (s64 (num l)) = l := by
  have hl := num_lt l
  rw [h] at hl
  unfold bInt
  rw [show (s64 (num l) % 18446744073709551616).toNat = num l by unfold s64 wrap64; omega]
  exact be_num' h
/-! ### there -/
theorem rInt_put (x : Int) (h : i64 x) (t : List UInt8) : rInt (bInt x ++ t, 0) = (x, (t, 0)) := by
  have hl := bInt_len x
  have hn : ¬ (bInt x ++ t).length < 8 := by rw [List.length_append]; omega
  unfold rInt
  simp only [ne_eq, not_true_eq_false, if_false, hn]
  rw [← hl, List.take_left, List.drop_left, s64_num x h]
theorem rCount_put (m : Int) (c : Nat) (h : (c : Int) ≤ m) (h2 : c < 4294967296) (t : List UInt8) : rCount m (bCount c ++ t, 0) = (c, (t, 0)) := by
  have hl := bCount_len c
  have hn : ¬ (bCount c ++ t).length < 4 := by rw [List.length_append]; omega
  have e : num (bCount c) = c := by unfold bCount; rw [num_be]; omega
  unfold rCount
  simp only [ne_eq, not_true_eq_false, if_false, hn]
  rw [← hl, List.take_left, List.drop_left, e, if_neg (by omega)]
theorem rBytes_put (m : Int) (x : List UInt8) (h : (x.length : Int) ≤ m) (h2 : x.length < 4294967296) (t : List UInt8) : rBytes m (bBytes x ++ t, 0) = (x, (t, 0)) := by
  unfold rBytes bBytes
  rw [List.append_assoc, rCount_put m x.length h h2]
  simp
theorem num_be8 {n : Nat} (h : n < 18446744073709551616) : num (be 8 n) = n := by
  rw [num_be]
  exact Nat.mod_eq_of_lt (by omega)
theorem nan_one : nanB 9221120237041090561 = true := by decide +kernel
theorem code_fine (b : Nat) : ¬ (nanB (codeB b) = true ∧ codeB b ≠ 9221120237041090561) := by
  unfold codeB
  cases h : nanB b
  · simp [h]
  · simp
theorem codeB_lt2 {b : Nat} (hb : b < 18446744073709551616) : codeB b < 18446744073709551616 := by
  unfold codeB
  split <;> omega
theorem rNum_put (b : Nat) (hb : b < 18446744073709551616) (t : List UInt8) : rNum (be 8 (codeB b) ++ t, 0) = (codeB b, (t, 0)) := by
  have hl := be_len 8 (codeB b)
  have hn : ¬ (be 8 (codeB b) ++ t).length < 8 := by rw [List.length_append]; omega
  have ht : (be 8 (codeB b) ++ t).take 8 = be 8 (codeB b) := List.take_left' hl
  have hd : (be 8 (codeB b) ++ t).drop 8 = t := List.drop_left' hl
  unfold rNum
  simp only [ne_eq, not_true_eq_false, if_false, hn, ht, hd]
  rw [if_neg (by unfold floatE; rw [num_be8 (codeB_lt2 hb), if_neg (code_fine b)]; decide), num_be8 (codeB_lt2 hb)]
theorem rBool_put (b : Bool) (t : List UInt8) : rBool ([if b then 1 else 0] ++ t, 0) = (b, (t, 0)) := by
  unfold rBool
  cases b
  · have h1 : truthE [(0 : UInt8)] = 0 := by decide
    simp [h1, num]
  · have h1 : truthE [(1 : UInt8)] = 0 := by decide
    simp [h1, num]
/-- a value as it is read -/
def nV (v : Val) : Val := ⟨v.kind, v.int, v.bool, v.text, codeB v.num⟩
theorem good_parts {v : Val} (h : goodV v = true) : (1 ≤ v.kind ∧ v.kind ≤ 4) ∧ v.text.length ≤ 32 ∧ (v.kind = 1 ∨ v.int = 0) ∧ (v.kind = 2 ∨ v.bool = false) ∧ (v.kind = 3 ∨ v.text = []) ∧ (v.kind = 4 ∨ codeB v.num = 0) := by
  obtain ⟨k, i, b, t, n⟩ := v
  rw [goodV_eq] at h
  simp only [Bool.and_eq_true, decide_eq_true_eq] at h
  obtain ⟨⟨⟨h1, h2, h3⟩, ⟨h4, h5⟩, h6⟩, h7⟩ := h
  exact ⟨⟨h1, h2⟩, by show t.length ≤ 32; omega, h4, h5, h6, h7⟩
theorem gVal_put {v : Val} (hg : goodV v = true) (hw : ValW v) (t : List UInt8) : gVal (bVal v ++ t, 0) = ((nV v, 0), (t, 0)) := by
  obtain ⟨⟨k1, k4⟩, hx, pi, pb, pt, pn⟩ := good_parts hg
  have hI := rInt_put v.kind hw.kind
  obtain ⟨kind, int, bool, text, num⟩ := v
  simp only at k1 k4 hx pi pb pt pn hI
  have hk : kind = 1 ∨ kind = 2 ∨ kind = 3 ∨ kind = 4 := by omega
  rcases hk with rfl | rfl | rfl | rfl
  · obtain rfl : bool = false := by simpa using pb
    obtain rfl : text = [] := by simpa using pt
    have hn : codeB num = 0 := by simpa using pn
    have e : bVal ⟨1, int, false, [], num⟩ ++ t = bInt 1 ++ (bInt int ++ t) := by unfold bVal; simp
    rw [e]
    unfold gVal gPart
    rw [hI]
    simp only [ne_eq, not_true_eq_false, if_false]
    simp [rInt_put int hw.int t, nV, hn]
  · obtain rfl : int = 0 := by simpa using pi
    obtain rfl : text = [] := by simpa using pt
    have hn : codeB num = 0 := by simpa using pn
    have e : bVal ⟨2, 0, bool, [], num⟩ ++ t = bInt 2 ++ ([if bool then 1 else 0] ++ t) := by unfold bVal; simp
    rw [e]
    unfold gVal gPart
    rw [hI]
    simp only [ne_eq, not_true_eq_false, if_false]
    rw [rBool_put]
    simp [nV, hn]
  · obtain rfl : int = 0 := by simpa using pi
    obtain rfl : bool = false := by simpa using pb
    have hn : codeB num = 0 := by simpa using pn
    have e : bVal ⟨3, 0, false, text, num⟩ ++ t = bInt 3 ++ (bBytes text ++ t) := by unfold bVal; simp
    have hr := rBytes_put 32 text (by omega) (by omega) t
    rw [e]
    unfold gVal gPart
    rw [hI]
    simp only [ne_eq, not_true_eq_false, if_false]
    simp [hr, nV, hn]
  · obtain rfl : int = 0 := by simpa using pi
    obtain rfl : bool = false := by simpa using pb
    obtain rfl : text = [] := by simpa using pt
    have e : bVal ⟨4, 0, false, [], num⟩ ++ t = bInt 4 ++ (be 8 (codeB num) ++ t) := by unfold bVal; simp
    have hr := rNum_put num hw.num t
    rw [e]
    unfold gVal gPart
    rw [hI]
    simp only [ne_eq, not_true_eq_false, if_false]
    simp [hr, nV]
end Go.Proofs.Ytijlamajcdekkaa

/- Bytes put are read again: expressions: the plain law. -/
namespace Go.Proofs.Ytijlamajcdekkaa
open Go.RowKit
set_option linter.unusedVariables false
set_option linter.unusedSimpArgs false
theorem sameV_zero {v : Val} (h : sameV v ⟨0, 0, false, [], 0⟩ = true) : v.kind = 0 ∧ v.int = 0 ∧ v.bool = false ∧ v.text = [] ∧ codeB v.num = 0 := by
  unfold sameV at h
  simp only [Bool.and_eq_true, beq_iff_eq, codeB_0] at h
  exact ⟨h.1.1.1.1, h.1.1.1.2, h.1.1.2, h.1.2, h.2⟩
abbrev Vok (v : Val) : Prop := goodV v = true ∨ sameV v ⟨0, 0, false, [], 0⟩ = true
theorem bVal_split (v : Val) (t : List UInt8) : ∃ r, bVal v ++ t = bInt v.kind ++ r := ⟨_, by unfold bVal; rw [List.append_assoc]⟩
theorem vX_put {v : Val} (h : Vok v) (hw : ValW v) (t : List UInt8) : vX (bVal v ++ t, 0) = .ok (nV v, (t, 0)) := by
  rcases h with h | h
  · obtain ⟨r, hr⟩ := bVal_split v t
    have hk := (good_parts h).1
    have h1 := rInt_put v.kind hw.kind r
    unfold vX
    rw [gVal_put h hw t, hr, h1]
    rw [if_neg (by intro h0; have := h0.1; simp only at this; omega)]
    rfl
  · obtain ⟨k, i, b, x, n⟩ := sameV_zero h
    have e : bVal v ++ t = bInt 0 ++ t := by unfold bVal; rw [k]; simp
    have h1 := rInt_put 0 (by unfold i64; decide) t
    unfold vX
    rw [e, h1]
    simp [nV, k, i, b, x, n, zeroV]
def nE : Nat → Exp → Exp
  | 0, e => e
  | n + 1, e => .mk e.op (e.kids.map (nE n)) e.name (nV e.val)
def Vd : Nat → Exp → Prop
  | 0, _ => False
  | n + 1, e => (NodeOk e ∧ Vok e.val) ∧ ∀ k ∈ e.kids, Vd n k
theorem spF_prefix {d : Nat} {l : List Exp} {a M : Int} (h : l.foldl (spF d) (true, a) = (true, M)) (i : Nat) : ∃ m, (l.take i).foldl (spF d) (true, a) = (true, m) := by
  cases hq : (l.take i).foldl (spF d) (true, a) with
  | mk b m =>
    cases b with
    | true => exact ⟨m, rfl⟩
    | false =>
      rw [← List.take_append_drop i l, List.foldl_append, hq, spF_no] at h
      injection h with h
      cases h
/-- the parts, read one by one -/
theorem gI_put {d n : Nat} {e : Exp} {N M : Int} (t : List UInt8) (ih : ∀ (x : Exp) (N M : Int) (t : List UInt8), x ∈ e.kids → spD d x N = (true, M) → gX d N (bX n x ++ t, 0) = .ok (nE n x, M, (t, 0)))
    (hs : e.kids.foldl (spF d) (true, N) = (true, M)) : ∀ i, i ≤ e.kids.length → ∀ m, (e.kids.take i).foldl (spF d) (true, N) = (true, m) →
        gI (gX d) N ((e.kids.map (bX n)).flatten ++ t, 0) i = .ok ((e.kids.take i).map (nE n), m, (((e.kids.drop i).map (bX n)).flatten ++ t, 0)) := by
  intro i
  induction i with
  | zero =>
    intro _ m hm
    simp at hm
    subst hm
    simp [gI]
  | succ i ih2 =>
    intro hi m hm
    obtain ⟨m1, hm1⟩ := spF_prefix hs i
    have hx := List.getElem?_eq_getElem (show i < e.kids.length by omega)
    have h1 := spF_next hm1 hx
    rw [hm] at h1
    have h2 := ih e.kids[i] m1 m (((e.kids.drop (i + 1)).map (bX n)).flatten ++ t) (List.getElem_mem _) h1.symm
    have h3 : ((e.kids.drop i).map (bX n)).flatten ++ t = bX n e.kids[i] ++ (((e.kids.drop (i + 1)).map (bX n)).flatten ++ t) := by
      rw [List.drop_eq_getElem_cons (show i < e.kids.length by omega), List.map_cons, List.flatten_cons, List.append_assoc]
    have h4 : (e.kids.take (i + 1)).map (nE n) = (e.kids.take i).map (nE n) ++ [nE n e.kids[i]] := by
      rw [List.take_add_one, hx, List.map_append]
      rfl
    rw [gI, ih2 (by omega) m1 hm1]
    simp only
    rw [h3, h2, h4]
theorem gX_suc (d : Nat) (N : Int) (s : RS) : gX (d + 1) N s = if N ≤ 0 then .error 51 else gTail (gX d) N (rInt s).1 (rCount 3 (rInt s).2).1 (rBytes 16 (rCount 3 (rInt s).2).2) := rfl
theorem gX_of {d : Nat} {N M o : Int} {s s1 s2 s4 s5 : RS} {n : Nat} {b s3 : List UInt8} {v : Val} {l : List Exp} (hN : ¬ N ≤ 0) (r1 : rInt s = (o, s1)) (r2 : rCount 3 s1 = (n, s2)) (r3 : rBytes 16 s2 = (b, (s3, 0))) (r4 : vX (s3, 0) = .ok (v, s4)) (r5 : gI (gX d) (N - 1) s4 n = .ok (l, M, s5)) : gX (d + 1) N s = .ok (.mk o l b v, M, s5) := by
  rw [gX_suc, if_neg hN, r1]
  simp only
  rw [r2]
  simp only
  rw [r3]
  unfold gTail
  rw [if_neg (fun h => h rfl), r4]
  simp only
  rw [r5]
theorem spD_suc (d : Nat) (e : Exp) (N : Int) : spD (d + 1) e N = if N - 1 < 0 then (false, N - 1) else e.kids.foldl (spF d) (true, N - 1) := rfl
theorem bX_suc (n : Nat) (e : Exp) : bX (n + 1) e = bInt e.op ++ (bCount e.kids.length ++ (bBytes e.name ++ (bVal e.val ++ (e.kids.map (bX n)).flatten))) := rfl
theorem gX_put : ∀ (d n : Nat) (e : Exp) (N M : Int) (t : List UInt8), Vd n e → spD d e N = (true, M) → gX d N (bX n e ++ t, 0) = .ok (nE n e, M, (t, 0)) := by
  intro d
  induction d with
  | zero => intro n e N M t hv hs; simp [spD] at hs
  | succ d ih =>
    intro n e N M t hv hs
    cases n with
    | zero => exact hv.elim
    | succ n =>
    obtain ⟨⟨hn, hok⟩, hk⟩ := hv
    rw [spD_suc] at hs
    by_cases hN : N - 1 < 0
    · rw [if_pos hN] at hs; simp at hs
    rw [if_neg hN] at hs
    have h0 := gI_put (n := n) t (fun x N M t hx h => ih n x N M t (hk x hx) h) hs e.kids.length (Nat.le_refl _) M (by rw [List.take_length]; exact hs)
    rw [List.take_length, List.drop_length, List.map_nil, List.flatten_nil, List.nil_append] at h0
    have e1 : bX (n + 1) e ++ t = bInt e.op ++ (bCount e.kids.length ++ (bBytes e.name ++ (bVal e.val ++ ((e.kids.map (bX n)).flatten ++ t)))) := by
      rw [bX_suc]
      simp only [List.append_assoc]
    have r1 := rInt_put e.op hn.op (bCount e.kids.length ++ (bBytes e.name ++ (bVal e.val ++ ((e.kids.map (bX n)).flatten ++ t))))
    have r2 := rCount_put 3 e.kids.length (by have := hn.kids; omega) (by have := hn.kids; omega) (bBytes e.name ++ (bVal e.val ++ ((e.kids.map (bX n)).flatten ++ t)))
    have r3 := rBytes_put 16 e.name (by have := hn.name; omega) (by have := hn.name; omega) (bVal e.val ++ ((e.kids.map (bX n)).flatten ++ t))
    have r4 := vX_put hok hn.val ((e.kids.map (bX n)).flatten ++ t)
    rw [e1]
    exact gX_of (by omega) r1 r2 r3 r4 h0
theorem gE_put {n : Nat} {e : Exp} (hv : Vd n e) (hs : small e = true) (t : List UInt8) : gE (bX n e ++ t, 0) = .ok (nE n e, (t, 0)) := by
  unfold small at hs
  cases hr : spD 6 e 24 with
  | mk b M =>
    rw [hr] at hs
    have hs : b = true := hs
    subst hs
    unfold gE
    rw [if_neg (by simp), gX_put 6 n e 24 M t hv hr]
theorem kindOf_vok {fl : List Fld} {e : Exp} {ks : List Int} {k : Int} (h : kindOf fl e ks = .ok k) : Vok e.val := by
  obtain ⟨_, _, g3, g4, _⟩ := kindOf_head h
  rcases g3 with g | g
  · exact .inl (g4 g)
  · exact .inr g
theorem kE_vd {fl : List Fld} (hf : ∀ f ∈ fl, f.name.length ≤ 16) : ∀ (n : Nat) {e : Exp} {k : Int}, ExpI e → kE fl n e = .ok k → Vd n e
  | 0, _, _, _, h => by cases h
  | n + 1, e, k, hi, h => by
    rw [kE] at h
    cases hm : manyK (kE fl n) e.kids with
    | error x => rw [hm] at h; cases h
    | ok ks =>
      rw [hm] at h
      refine ⟨⟨kindOf_node hf hi h, kindOf_vok h⟩, fun x hx => ?_⟩
      obtain ⟨k', hk'⟩ := manyK_mem hm x hx
      cases hi with
      | mk a b c => exact kE_vd hf n (b x hx) hk'
end Go.Proofs.Ytijlamajcdekkaa
