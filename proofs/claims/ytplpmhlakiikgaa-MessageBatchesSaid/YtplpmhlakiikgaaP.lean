/- The plain law: what is put is read again, and what is read is put again. -/
import Derived.Test.YtplpmhlakiikgaaM6
namespace Go.Proofs.Ytplpmhlakiikgaa
open Go.RowKit
set_option linter.unusedVariables false
theorem pow_byte (k : Nat) : 2 ^ (8 * k) = 256 ^ k := by rw [Nat.pow_mul]
theorem num_from : ∀ (l : List UInt8) (a : Nat), l.foldl (fun n x => n * 256 + x.toNat) a = a * 256 ^ l.length + num l
  | [], a => by simp [num]
  | y :: l, a => by
    unfold num
    rw [List.foldl_cons, List.foldl_cons, num_from l, num_from l, List.length_cons, Nat.pow_succ, Nat.add_mul, Nat.mul_assoc, Nat.mul_comm 256, Nat.zero_mul, Nat.zero_add]
    omega
theorem num_cons (x : UInt8) (l : List UInt8) : num (x :: l) = x.toNat * 256 ^ l.length + num l := by
  unfold num
  rw [List.foldl_cons, num_from, Nat.zero_mul, Nat.zero_add]
  rfl
theorem num_be : ∀ k n, num (be k n) = n % 256 ^ k
  | 0, n => by simp [be, num, Nat.mod_one]
  | k + 1, n => by
    rw [be, num_cons, num_be k n, be_len, pow_byte, Nat.pow_succ, Nat.mod_mul]
    have : (UInt8.ofNat (n / 256 ^ k)).toNat = n / 256 ^ k % 256 := by simp
    rw [this, Nat.mul_comm]
    omega
theorem be_add : ∀ k n m, be k (n + m * 256 ^ k) = be k n
  | 0, _, _ => rfl
  | k + 1, n, m => by
    have e : n + m * 256 ^ (k + 1) = n + (m * 256) * 256 ^ k := by rw [Nat.pow_succ, Nat.mul_assoc, Nat.mul_comm 256]
    have hp : 0 < 256 ^ k := Nat.pow_pos (by omega)
    rw [be, be, e, be_add k n (m * 256), pow_byte, Nat.add_mul_div_right _ _ hp]
    congr 1
    apply UInt8.toNat_inj.1
    simp
theorem be_num : ∀ l : List UInt8, be l.length (num l) = l
  | [] => rfl
  | x :: l => by
    have hl := num_lt l
    have hp : 0 < 256 ^ l.length := Nat.pow_pos (by omega)
    have e : x.toNat * 256 ^ l.length + num l = num l + x.toNat * 256 ^ l.length := Nat.add_comm _ _
    rw [num_cons, e, List.length_cons, be, be_add, be_num l, pow_byte, Nat.add_mul_div_right _ _ hp, Nat.div_eq_of_lt hl]
    simp
theorem be_num' {l : List UInt8} {k : Nat} (h : l.length = k) : be k (num l) = l := by subst h; exact be_num l
theorem s64_i64 (n : Nat) : i64 (s64 n) := by unfold i64 s64 wrap64; omega
theorem s64_num (x : Int) (h : i64 x) : s64 (num (bInt x)) = x := by
  unfold bInt
  rw [num_be]
  unfold i64 at h
  unfold s64 wrap64
  omega
theorem bInt_s64 (l : List UInt8) (h : l.length = 8) : bInt (s64 (num l)) = l := by
  have hl := num_lt l
  rw [h] at hl
  unfold bInt
  rw [show (s64 (num l) % 18446744073709551616).toNat = num l by unfold s64 wrap64; omega]
  exact be_num' h
/-! ### there -/
theorem rInt_put (x : Int) (h : i64 x) (t : List UInt8) : rInt (bInt x ++ t, 0) = (x, (t, 0)) := by
  have hl := bInt_len x
  have hn : ¬ (bInt x ++ t).length < 8 := by rw [List.length_append]; omega
  unfold rInt
  simp only [ne_eq, not_true_eq_false, if_false, hn]
  rw [← hl, List.take_left, List.drop_left, s64_num x h]
theorem rCount_put (m : Int) (c : Nat) (h : (c : Int) ≤ m) (h2 : c < 4294967296) (t : List UInt8) : rCount m (bCount c ++ t, 0) = (c, (t, 0)) := by
  have hl := bCount_len c
  have hn : ¬ (bCount c ++ t).length < 4 := by rw [List.length_append]; omega
  have e : num (bCount c) = c := by unfold bCount; rw [num_be]; omega
  unfold rCount
  simp only [ne_eq, not_true_eq_false, if_false, hn]
  rw [← hl, List.take_left, List.drop_left, e, if_neg (by omega)]
theorem rBytes_put (m : Int) (x : List UInt8) (h : (x.length : Int) ≤ m) (h2 : x.length < 4294967296) (t : List UInt8) : rBytes m (bBytes x ++ t, 0) = (x, (t, 0)) := by
  unfold rBytes bBytes
  rw [List.append_assoc, rCount_put m x.length h h2]
  simp
structure EnvSm (e : Env) : Prop where
  signer : i64 e.signer
  body : e.body.length ≤ 16777216
theorem rEnv_put {e : Env} (h : EnvSm e) (t : List UInt8) : rEnv (encE e ++ t, 0) = (e, (t, 0)) := by
  have := h.body
  unfold rEnv encE
  rw [List.append_assoc, rInt_put _ h.signer]
  simp only
  rw [rBytes_put _ _ (by omega) (by omega)]
theorem rMany_put {l : List Env} (h : ∀ e ∈ l, EnvSm e) (t : List UInt8) : ∀ k, k ≤ l.length → rMany k (encEs l ++ t, 0) = (l.take k, (encEs (l.drop k) ++ t, 0))
  | 0, _ => by simp [rMany]
  | k + 1, hk => by
    have e := List.drop_eq_getElem_cons (show k < l.length by omega)
    rw [rMany, rMany_put h t k (by omega), e]
    simp only [encEs, List.flatMap_cons, List.append_assoc]
    rw [rEnv_put (h _ (List.getElem_mem _))]
    rw [List.take_add_one]
    simp [show k < l.length by omega]
theorem rList_put {l : List Env} (h : ∀ e ∈ l, EnvSm e) (hl : l.length ≤ 15) (t : List UInt8) : rList (encL l ++ t, 0) = (l, (t, 0)) := by
  unfold rList encL
  rw [List.append_assoc, rCount_put _ _ (by omega) (by omega)]
  simp only
  rw [rMany_put h t l.length (Nat.le_refl _)]
  simp [encEs]
structure CrtSm (c : Crt) : Prop where
  pre : EnvSm c.pre
  votes : ∀ e ∈ c.votes, EnvSm e
  len : c.votes.length ≤ 15
theorem rCrt_put {c : Crt} (h : CrtSm c) (t : List UInt8) : rCrt (encC c ++ t, 0) = (c, (t, 0)) := by
  unfold rCrt encC
  rw [List.append_assoc, rEnv_put h.pre]
  simp only
  rw [rList_put h.votes h.len]
theorem rManyC_put {l : List Crt} (h : ∀ e ∈ l, CrtSm e) (t : List UInt8) : ∀ k, k ≤ l.length → rManyC k (encCs l ++ t, 0) = (l.take k, (encCs (l.drop k) ++ t, 0))
  | 0, _ => by simp [rManyC]
  | k + 1, hk => by
    have e := List.drop_eq_getElem_cons (show k < l.length by omega)
    rw [rManyC, rManyC_put h t k (by omega), e]
    simp only [encCs, List.flatMap_cons, List.append_assoc]
    rw [rCrt_put (h _ (List.getElem_mem _))]
    rw [List.take_add_one]
    simp [show k < l.length by omega]
theorem rCerts_put {l : List Crt} (h : ∀ e ∈ l, CrtSm e) (hl : l.length ≤ 8) (t : List UInt8) : rCerts (bCount l.length ++ encCs l ++ t, 0) = (l, (t, 0)) := by
  unfold rCerts
  rw [List.append_assoc, rCount_put _ _ (by omega) (by omega)]
  simp only
  rw [rManyC_put h t l.length (Nat.le_refl _)]
  simp [encCs]
/-! ### and back -/
theorem rInt_i64 (s : RS) : i64 (rInt s).1 := by
  unfold rInt
  split
  · unfold i64; omega
  · split
    · unfold i64; omega
    · exact s64_i64 _
theorem rInt_get (s : RS) (h : (rInt s).2.2 = 0) : s.2 = 0 ∧ s.1 = bInt (rInt s).1 ++ (rInt s).2.1 := by
  unfold rInt at *
  by_cases h0 : s.2 = 0
  · by_cases h1 : s.1.length < 8
    · simp [h0, h1] at h
    · simp only [ne_eq, h0, not_true_eq_false, if_false, h1]
      refine ⟨trivial, ?_⟩
      rw [bInt_s64 _ (by rw [List.length_take]; omega), List.take_append_drop]
  · simp [h0] at h
theorem rCount_get (m : Int) (s : RS) (h : (rCount m s).2.2 = 0) : s.2 = 0 ∧ s.1 = bCount (rCount m s).1 ++ (rCount m s).2.1 := by
  unfold rCount at *
  by_cases h0 : s.2 = 0
  · by_cases h1 : s.1.length < 4
    · simp [h0, h1] at h
    · by_cases h2 : (num (s.1.take 4) : Int) > max m 0
      · simp only [ne_eq, h0, not_true_eq_false, if_false, h1, h2, if_true] at h
        exact absurd h (by decide)
      · simp only [ne_eq, h0, not_true_eq_false, if_false, h1, h2]
        refine ⟨trivial, ?_⟩
        unfold bCount
        rw [be_num' (by rw [List.length_take]; omega), List.take_append_drop]
  · simp [h0] at h
theorem rCount_max (m : Int) (s : RS) : ((rCount m s).1 : Int) ≤ max m 0 := by
  unfold rCount
  split
  · simp only [Int.ofNat_zero]; omega
  · split
    · simp only [Int.ofNat_zero]; omega
    · split
      · simp only [Int.ofNat_zero]; omega
      · simp only; omega
theorem rBytes_get (m : Int) (s : RS) (h : (rBytes m s).2.2 = 0) : s.2 = 0 ∧ s.1 = bBytes (rBytes m s).1 ++ (rBytes m s).2.1 := by
  unfold rBytes at *
  simp only at *
  by_cases h0 : (rCount m s).2.2 = 0
  · by_cases h1 : (rCount m s).2.1.length < (rCount m s).1
    · simp [h0, h1] at h
    · simp only [ne_eq, h0, not_true_eq_false, if_false, h1]
      have := rCount_get m s h0
      refine ⟨this.1, ?_⟩
      unfold bBytes
      rw [List.length_take, Nat.min_eq_left (by omega), List.append_assoc, List.take_append_drop, ← this.2]
  · simp [h0] at h
theorem rBytes_max (m : Int) (s : RS) : ((rBytes m s).1.length : Int) ≤ max m 0 := by
  unfold rBytes
  simp only
  split
  · simp only [List.length_nil, Int.ofNat_zero]; omega
  · split
    · simp only [List.length_nil, Int.ofNat_zero]; omega
    · simp only [List.length_take]
      have := rCount_max m s
      omega
theorem rEnv_get (s : RS) (h : (rEnv s).2.2 = 0) : s.2 = 0 ∧ s.1 = encE (rEnv s).1 ++ (rEnv s).2.1 := by
  have a := rBytes_get 16777216 (rInt s).2 h
  have b := rInt_get s a.1
  refine ⟨b.1, ?_⟩
  unfold rEnv encE
  simp only
  rw [List.append_assoc, ← a.2, ← b.2]
theorem rEnv_sm (s : RS) : EnvSm (rEnv s).1 := ⟨rInt_i64 s, by have := rBytes_max 16777216 (rInt s).2; unfold rEnv; simp only; omega⟩
theorem rMany_get : ∀ (k : Nat) (s : RS), (rMany k s).2.2 = 0 → s.2 = 0 ∧ s.1 = encEs (rMany k s).1 ++ (rMany k s).2.1
  | 0, s, h => ⟨h, by simp [rMany, encEs]⟩
  | k + 1, s, h => by
    have a := rEnv_get _ h
    have b := rMany_get k s a.1
    refine ⟨b.1, ?_⟩
    rw [rMany]
    simp only [encEs, List.flatMap_append, List.flatMap_cons, List.flatMap_nil, List.append_nil, List.append_assoc]
    rw [← a.2]
    exact b.2
theorem rMany_sm : ∀ (k : Nat) (s : RS), ∀ e ∈ (rMany k s).1, EnvSm e
  | 0, s, e, h => by simp [rMany] at h
  | k + 1, s, e, h => by
    rw [rMany] at h
    simp only [List.mem_append, List.mem_singleton] at h
    rcases h with h | h
    · exact rMany_sm k s e h
    · rw [h]; exact rEnv_sm _
theorem rList_get (s : RS) (h : (rList s).2.2 = 0) : s.2 = 0 ∧ s.1 = encL (rList s).1 ++ (rList s).2.1 := by
  have a := rMany_get _ _ h
  have b := rCount_get 15 s a.1
  refine ⟨b.1, ?_⟩
  unfold rList encL
  rw [rMany_len, List.append_assoc, ← a.2, ← b.2]
theorem rList_len (s : RS) : (rList s).1.length ≤ 15 := by
  have := rCount_max 15 s
  unfold rList
  rw [rMany_len]
  omega
theorem rCrt_get (s : RS) (h : (rCrt s).2.2 = 0) : s.2 = 0 ∧ s.1 = encC (rCrt s).1 ++ (rCrt s).2.1 := by
  have a := rList_get (rEnv s).2 h
  have b := rEnv_get s a.1
  refine ⟨b.1, ?_⟩
  unfold rCrt encC
  simp only
  rw [List.append_assoc, ← a.2, ← b.2]
theorem rCrt_sm (s : RS) : CrtSm (rCrt s).1 := ⟨rEnv_sm s, rMany_sm _ _, rList_len _⟩
theorem rManyC_len (k : Nat) (s : RS) : (rManyC k s).1.length = k := by
  induction k with
  | zero => rfl
  | succ k ih => rw [rManyC, List.length_append, ih]; rfl
theorem rManyC_get : ∀ (k : Nat) (s : RS), (rManyC k s).2.2 = 0 → s.2 = 0 ∧ s.1 = encCs (rManyC k s).1 ++ (rManyC k s).2.1
  | 0, s, h => ⟨h, by simp [rManyC, encCs]⟩
  | k + 1, s, h => by
    have a := rCrt_get _ h
    have b := rManyC_get k s a.1
    refine ⟨b.1, ?_⟩
    rw [rManyC]
    simp only [encCs, List.flatMap_append, List.flatMap_cons, List.flatMap_nil, List.append_nil, List.append_assoc]
    rw [← a.2]
    exact b.2
theorem rManyC_sm : ∀ (k : Nat) (s : RS), ∀ e ∈ (rManyC k s).1, CrtSm e
  | 0, s, e, h => by simp [rManyC] at h
  | k + 1, s, e, h => by
    rw [rManyC] at h
    simp only [List.mem_append, List.mem_singleton] at h
    rcases h with h | h
    · exact rManyC_sm k s e h
    · rw [h]; exact rCrt_sm _
theorem rCerts_get (s : RS) (h : (rCerts s).2.2 = 0) : s.2 = 0 ∧ s.1 = (bCount (rCerts s).1.length ++ encCs (rCerts s).1) ++ (rCerts s).2.1 := by
  have a := rManyC_get _ _ h
  have b := rCount_get 8 s a.1
  refine ⟨b.1, ?_⟩
  unfold rCerts
  rw [rManyC_len, List.append_assoc, ← a.2, ← b.2]
theorem rCerts_len (s : RS) : (rCerts s).1.length ≤ 8 := by
  have := rCount_max 8 s
  unfold rCerts
  rw [rManyC_len]
  omega
end Go.Proofs.Ytplpmhlakiikgaa
