/- Bytes put are read again: numbers, texts, values: the plain law. -/
import Derived.Test.YtjnhgfmjehaalaaGreatV12
import Derived.Test.YtjnhgfmjehaalaaGreatMM
namespace Go.Proofs.YtjnhgfmjehaalaaGreat
open Go.RowKit
set_option linter.unusedVariables false
set_option linter.unusedSimpArgs false
theorem pow_byte (k : Nat) : 2 ^ (8 * k) = 256 ^ k := by rw [Nat.pow_mul]
theorem num_from : ∀ (l : List UInt8) (a : Nat), l.foldl (fun n x => n * 256 + x.toNat) a = a * 256 ^ l.length + num l
  | [], a => by simp [num]
  | y :: l, a => by
    unfold num
    rw [List.foldl_cons, List.foldl_cons, num_from l, num_from l, List.length_cons, Nat.pow_succ, Nat.add_mul, Nat.mul_assoc, Nat.mul_comm 256, Nat.zero_mul, Nat.zero_add]
    omega
theorem num_cons (x : UInt8) (l : List UInt8) : num (x :: l) = x.toNat * 256 ^ l.length + num l := by
  unfold num
  rw [List.foldl_cons, num_from, Nat.zero_mul, Nat.zero_add]
  rfl
theorem num_be : ∀ k n, num (be k n) = n % 256 ^ k
  | 0, n => by simp [be, num, Nat.mod_one]
  | k + 1, n => by
    rw [be, num_cons, num_be k n, be_len, pow_byte, Nat.pow_succ, Nat.mod_mul]
    have : (UInt8.ofNat (n / 256 ^ k)).toNat = n / 256 ^ k % 256 := by simp
    rw [this, Nat.mul_comm]
    omega
theorem be_add : ∀ k n m, be k (n + m * 256 ^ k) = be k n
  | 0, _, _ => rfl
  | k + 1, n, m => by
    have e : n + m * 256 ^ (k + 1) = n + (m * 256) * 256 ^ k := by rw [Nat.pow_succ, Nat.mul_assoc, Nat.mul_comm 256]
    have hp : 0 < 256 ^ k := Nat.pow_pos (by omega)
    rw [be, be, e, be_add k n (m * 256), pow_byte, Nat.add_mul_div_right _ _ hp]
    congr 1
    apply UInt8.toNat_inj.1
    simp
theorem be_num : ∀ l : List UInt8, be l.length (num l) = l
  | [] => rfl
  | x :: l => by
    have hl := num_lt l
    have hp : 0 < 256 ^ l.length := Nat.pow_pos (by omega)
    have e : x.toNat * 256 ^ l.length + num l = num l + x.toNat * 256 ^ l.length := Nat.add_comm _ _
    rw [num_cons, e, List.length_cons, be, be_add, be_num l, pow_byte, Nat.add_mul_div_right _ _ hp, Nat.div_eq_of_lt hl]
    simp
theorem be_num' {l : List UInt8} {k : Nat} (h : l.length = k) : be k (num l) = l := by subst h; exact be_num l
theorem s64_i64 (n : Nat) : i64 (s64 n) := by unfold i64 s64 wrap64; omega
theorem s64_num (x : Int) (h : i64 x) : s64 (num (bInt x)) = x := by
  unfold bInt
  rw [num_be]
  unfold i64 at h
  unfold s64 wrap64
  omega
theorem bInt_s64 (l : List UInt8) (h : l.length = 8) : bInt (s64 (num l)) = l := by
  have hl := num_lt l
  rw [h] at hl
  unfold bInt
  rw [show (s64 (num l) % 18446744073709551616).toNat = num l by unfold s64 wrap64; omega]
  exact be_num' h
/-! ### there -/
theorem rInt_put (x : Int) (h : i64 x) (t : List UInt8) : rInt (bInt x ++ t, 0) = (x, (t, 0)) := by
  have hl := bInt_len x
  have hn : ¬ (bInt x ++ t).length < 8 := by rw [List.length_append]; omega
  unfold rInt
  simp only [ne_eq, not_true_eq_false, if_false, hn]
  rw [← hl, List.take_left, List.drop_left, s64_num x h]
theorem rCount_put (m : Int) (c : Nat) (h : (c : Int) ≤ m) (h2 : c < 4294967296) (t : List UInt8) : rCount m (bCount c ++ t, 0) = (c, (t, 0)) := by
  have hl := bCount_len c
  have hn : ¬ (bCount c ++ t).length < 4 := by rw [List.length_append]; omega
  have e : num (bCount c) = c := by unfold bCount; rw [num_be]; omega
  unfold rCount
  simp only [ne_eq, not_true_eq_false, if_false, hn]
  rw [← hl, List.take_left, List.drop_left, e, if_neg (by omega)]
theorem rBytes_put (m : Int) (x : List UInt8) (h : (x.length : Int) ≤ m) (h2 : x.length < 4294967296) (t : List UInt8) : rBytes m (bBytes x ++ t, 0) = (x, (t, 0)) := by
  unfold rBytes bBytes
  rw [List.append_assoc, rCount_put m x.length h h2]
  simp
theorem num_be8 {n : Nat} (h : n < 18446744073709551616) : num (be 8 n) = n := by
  rw [num_be]
  exact Nat.mod_eq_of_lt (by omega)
theorem nan_one : nanB 9221120237041090561 = true := by decide +kernel
theorem code_fine (b : Nat) : ¬ (nanB (codeB b) = true ∧ codeB b ≠ 9221120237041090561) := by
  unfold codeB
  cases h : nanB b
  · simp [h]
  · simp
theorem codeB_lt2 {b : Nat} (hb : b < 18446744073709551616) : codeB b < 18446744073709551616 := by
  unfold codeB
  split <;> omega
theorem rNum_put (b : Nat) (hb : b < 18446744073709551616) (t : List UInt8) : rNum (be 8 (codeB b) ++ t, 0) = (codeB b, (t, 0)) := by
  have hl := be_len 8 (codeB b)
  have hn : ¬ (be 8 (codeB b) ++ t).length < 8 := by rw [List.length_append]; omega
  have ht : (be 8 (codeB b) ++ t).take 8 = be 8 (codeB b) := List.take_left' hl
  have hd : (be 8 (codeB b) ++ t).drop 8 = t := List.drop_left' hl
  unfold rNum
  simp only [ne_eq, not_true_eq_false, if_false, hn, ht, hd]
  rw [if_neg (by unfold floatE; rw [num_be8 (codeB_lt2 hb), if_neg (code_fine b)]; decide), num_be8 (codeB_lt2 hb)]
theorem rBool_put (b : Bool) (t : List UInt8) : rBool ([if b then 1 else 0] ++ t, 0) = (b, (t, 0)) := by
  unfold rBool
  cases b
  · have h1 : truthE [(0 : UInt8)] = 0 := by decide
    simp [h1, num]
  · have h1 : truthE [(1 : UInt8)] = 0 := by decide
    simp [h1, num]
/-- a value as it is read -/
def nV (v : Val) : Val := ⟨v.kind, v.int, v.bool, v.text, codeB v.num⟩
theorem good_parts {v : Val} (h : goodV v = true) : (1 ≤ v.kind ∧ v.kind ≤ 4) ∧ v.text.length ≤ 32 ∧ (v.kind = 1 ∨ v.int = 0) ∧ (v.kind = 2 ∨ v.bool = false) ∧ (v.kind = 3 ∨ v.text = []) ∧ (v.kind = 4 ∨ codeB v.num = 0) := by
  obtain ⟨k, i, b, t, n⟩ := v
  rw [goodV_eq] at h
  simp only [Bool.and_eq_true, decide_eq_true_eq] at h
  obtain ⟨⟨⟨h1, h2, h3⟩, ⟨h4, h5⟩, h6⟩, h7⟩ := h
  exact ⟨⟨h1, h2⟩, by show t.length ≤ 32; omega, h4, h5, h6, h7⟩
theorem gVal_put {v : Val} (hg : goodV v = true) (hw : ValW v) (t : List UInt8) : gVal (bVal v ++ t, 0) = ((nV v, 0), (t, 0)) := by
  obtain ⟨⟨k1, k4⟩, hx, pi, pb, pt, pn⟩ := good_parts hg
  have hI := rInt_put v.kind hw.kind
  obtain ⟨kind, int, bool, text, num⟩ := v
  simp only at k1 k4 hx pi pb pt pn hI
  have hk : kind = 1 ∨ kind = 2 ∨ kind = 3 ∨ kind = 4 := by omega
  rcases hk with rfl | rfl | rfl | rfl
  · obtain rfl : bool = false := by simpa using pb
    obtain rfl : text = [] := by simpa using pt
    have hn : codeB num = 0 := by simpa using pn
    have e : bVal ⟨1, int, false, [], num⟩ ++ t = bInt 1 ++ (bInt int ++ t) := by unfold bVal; simp
    rw [e]
    unfold gVal gPart
    rw [hI]
    simp only [ne_eq, not_true_eq_false, if_false]
    simp [rInt_put int hw.int t, nV, hn]
  · obtain rfl : int = 0 := by simpa using pi
    obtain rfl : text = [] := by simpa using pt
    have hn : codeB num = 0 := by simpa using pn
    have e : bVal ⟨2, 0, bool, [], num⟩ ++ t = bInt 2 ++ ([if bool then 1 else 0] ++ t) := by unfold bVal; simp
    rw [e]
    unfold gVal gPart
    rw [hI]
    simp only [ne_eq, not_true_eq_false, if_false]
    rw [rBool_put]
    simp [nV, hn]
  · obtain rfl : int = 0 := by simpa using pi
    obtain rfl : bool = false := by simpa using pb
    have hn : codeB num = 0 := by simpa using pn
    have e : bVal ⟨3, 0, false, text, num⟩ ++ t = bInt 3 ++ (bBytes text ++ t) := by unfold bVal; simp
    have hr := rBytes_put 32 text (by omega) (by omega) t
    rw [e]
    unfold gVal gPart
    rw [hI]
    simp only [ne_eq, not_true_eq_false, if_false]
    simp [hr, nV, hn]
  · obtain rfl : int = 0 := by simpa using pi
    obtain rfl : bool = false := by simpa using pb
    obtain rfl : text = [] := by simpa using pt
    have e : bVal ⟨4, 0, false, [], num⟩ ++ t = bInt 4 ++ (be 8 (codeB num) ++ t) := by unfold bVal; simp
    have hr := rNum_put num hw.num t
    rw [e]
    unfold gVal gPart
    rw [hI]
    simp only [ne_eq, not_true_eq_false, if_false]
    simp [hr, nV]
end Go.Proofs.YtjnhgfmjehaalaaGreat
