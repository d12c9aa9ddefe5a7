/- Package value, walked: what is reckoned with ints. -/
import Derived.Test.YtijlamajcdekkaaE5
import Derived.Laws.FloatArith
namespace Go.Proofs.Ytijlamajcdekkaa
open Go.RowKit
set_option linter.unusedVariables false
def wU (x : Int) : Int := IntKind.u64.wrap x
theorem wU_lt (x : Int) : 0 ≤ wU x ∧ wU x < 18446744073709551616 := by unfold wU; rw [IntKind.wrap_u64]; omega
def lowU (x : Int) : Int := Go.bits .and .u64 x 4294967295
def mulT (x y : Int) : Int := wU (wU (x / 4294967296 * lowU y) + wU (lowU x * lowU y) / 4294967296)
def mulHi (x y : Int) : Int := wU (wU (wU (x / 4294967296 * (y / 4294967296)) + mulT x y / 4294967296) + wU (Go.bits .and .u64 (mulT x y) 4294967295 + wU (lowU x * (y / 4294967296))) / 4294967296)
def mulLo (x y : Int) : Int := wU (x * y)
section
variable {w : World}
theorem mul_c (x y : Int) : Calls Try.prog 106 #[.int .u64 x, .int .u64 y] w (Ret w (.tuple #[.int .u64 (mulHi x y), .int .u64 (mulLo x y)])) := by
  have E1 := Lib.hid (show mulHi x y = IntKind.u64.wrap (IntKind.u64.wrap (IntKind.u64.wrap (x / 4294967296 * (y / 4294967296)) + IntKind.u64.wrap (IntKind.u64.wrap (x / 4294967296 * Go.bits .and .u64 y 4294967295) + IntKind.u64.wrap (Go.bits .and .u64 x 4294967295 * Go.bits .and .u64 y 4294967295) / 4294967296) / 4294967296) + IntKind.u64.wrap (Go.bits .and .u64 (IntKind.u64.wrap (IntKind.u64.wrap (x / 4294967296 * Go.bits .and .u64 y 4294967295) + IntKind.u64.wrap (Go.bits .and .u64 x 4294967295 * Go.bits .and .u64 y 4294967295) / 4294967296)) 4294967295 + IntKind.u64.wrap (Go.bits .and .u64 x 4294967295 * (y / 4294967296))) / 4294967296) from rfl)
  have E2 := Lib.hid (show mulLo x y = IntKind.u64.wrap (x * y) from rfl)
  rw [E1.out, E2.out]
  go_enter Try.func106, Try.ntmps106
  go_wp2_with fail
  exact bodyPost_ret (v := .tuple #[.int .u64 (IntKind.u64.wrap (IntKind.u64.wrap (IntKind.u64.wrap (x / 4294967296 * (y / 4294967296)) + IntKind.u64.wrap (IntKind.u64.wrap (x / 4294967296 * Go.bits .and .u64 y 4294967295) + IntKind.u64.wrap (Go.bits .and .u64 x 4294967295 * Go.bits .and .u64 y 4294967295) / 4294967296) / 4294967296) + IntKind.u64.wrap (Go.bits .and .u64 (IntKind.u64.wrap (IntKind.u64.wrap (x / 4294967296 * Go.bits .and .u64 y 4294967295) + IntKind.u64.wrap (Go.bits .and .u64 x 4294967295 * Go.bits .and .u64 y 4294967295) / 4294967296)) 4294967295 + IntKind.u64.wrap (Go.bits .and .u64 x 4294967295 * (y / 4294967296))) / 4294967296)), .int .u64 (IntKind.u64.wrap (x * y))]) (by simp [results, Try.results106, go_sem]) rfl ⟨rfl, Below.refl _ _⟩
def sizeI (x : Int) : Int := if x < 0 then wU (-wU x) else wU x
theorem size_c (x : Int) : Calls Try.prog 107 #[.int .i64 x] w (Ret w (.int .u64 (sizeI x))) := by
  by_cases h : x < 0
  · have E := Lib.hid (show sizeI x = IntKind.u64.wrap (-IntKind.u64.wrap x) from if_pos h)
    go_enter Try.func107, Try.ntmps107
    go_wp2_with fail
    go_ret
    rw [E.out]
    exact ⟨rfl, Below.refl _ _⟩
  · have E := Lib.hid (show sizeI x = IntKind.u64.wrap x from if_neg h)
    go_enter Try.func107, Try.ntmps107
    go_wp2_with fail
    go_ret
    rw [E.out]
    exact ⟨rfl, Below.refl _ _⟩
def prodF (a b : Int) : Int × Bool :=
  if (!decide (a < 0) == decide (b < 0)) then (wrap64 (-wrap64 (mulLo (sizeI a) (sizeI b))), decide (mulHi (sizeI a) (sizeI b) = 0) && decide (mulLo (sizeI a) (sizeI b) ≤ 9223372036854775808))
  else (wrap64 (mulLo (sizeI a) (sizeI b)), decide (mulHi (sizeI a) (sizeI b) = 0) && decide (mulLo (sizeI a) (sizeI b) < 9223372036854775808))
theorem product_c (a b : Int) : Calls Try.prog 101 #[.int .i64 a, .int .i64 b] w (Ret w (.tuple #[.int .i64 (prodF a b).1, .bool (prodF a b).2])) := by
  have E := Lib.hid (show prodF a b = if (!decide (a < 0) == decide (b < 0)) then (wrap64 (-wrap64 (mulLo (sizeI a) (sizeI b))), decide (mulHi (sizeI a) (sizeI b) = 0) && decide (mulLo (sizeI a) (sizeI b) ≤ 9223372036854775808))
    else (wrap64 (mulLo (sizeI a) (sizeI b)), decide (mulHi (sizeI a) (sizeI b) = 0) && decide (mulLo (sizeI a) (sizeI b) < 9223372036854775808)) from rfl)
  generalize prodF a b = r at *
  go_enter Try.func101, Try.ntmps101
  go_wp2_with fail
  refine (size_c a).mono ?_
  rintro e w1 ⟨rfl, hb1⟩
  generalize sizeI a = sa at *
  go_wp2_with fail
  refine (size_c b).mono ?_
  rintro e w2 ⟨rfl, hb2⟩
  generalize sizeI b = sb at *
  have B2 := Lib.hid (below_self hb1 hb2)
  clear hb1 hb2
  go_wp2_with fail
  refine (mul_c sa sb).mono ?_
  rintro e w3 ⟨rfl, hb3⟩
  generalize mulHi sa sb = hi at *
  generalize mulLo sa sb = lo at *
  have B3 := Lib.hid (below_self B2.out hb3)
  clear hb3 B2
  cases hsg : (!decide (a < 0) == decide (b < 0)) <;> by_cases hh : hi = 0
  · subst hh
    replace E := Lib.hid (show r = (wrap64 lo, decide (lo < 9223372036854775808)) by rw [E.out, hsg]; simp)
    go_wp2_with fail
    rw [E.out]
    exact bodyPost_ret (v := .tuple #[.int .i64 (wrap64 lo), .bool (decide (lo < 9223372036854775808))]) (by simp [results, Try.results101, go_sem]) rfl ⟨rfl, B3.out⟩
  · replace E := Lib.hid (show r = (wrap64 lo, false) by rw [E.out, hsg]; simp [hh])
    go_wp2_with fail
    rw [E.out]
    exact bodyPost_ret (v := .tuple #[.int .i64 (wrap64 lo), .bool false]) (by simp [results, Try.results101, go_sem]) rfl ⟨rfl, B3.out⟩
  · subst hh
    replace E := Lib.hid (show r = (wrap64 (-wrap64 lo), decide (lo ≤ 9223372036854775808)) by rw [E.out, hsg]; simp)
    go_wp2_with fail
    rw [E.out]
    exact bodyPost_ret (v := .tuple #[.int .i64 (wrap64 (-wrap64 lo)), .bool (decide (lo ≤ 9223372036854775808))]) (by simp [results, Try.results101, go_sem]) rfl ⟨rfl, B3.out⟩
  · replace E := Lib.hid (show r = (wrap64 (-wrap64 lo), false) by rw [E.out, hsg]; simp [hh])
    go_wp2_with fail
    rw [E.out]
    exact bodyPost_ret (v := .tuple #[.int .i64 (wrap64 (-wrap64 lo)), .bool false]) (by simp [results, Try.results101, go_sem]) rfl ⟨rfl, B3.out⟩
theorem wrap64_i64 (x : Int) : i64 (wrap64 x) := by unfold i64 wrap64; omega
theorem prodF_i64 (a b : Int) : i64 (prodF a b).1 := by unfold prodF; split <;> exact wrap64_i64 _
def okd (ok : Bool) (n : Int) : Int × Int := if ok then (n, 0) else (0, 41)
def intsF (op a b : Int) : Int × Int :=
  if op = 4 then okd ((decide (a < wrap64 (a + b)) == decide (0 < b)) || b == 0) (wrap64 (a + b))
  else if op = 5 then okd ((decide (wrap64 (a - b) < a) == decide (0 < b)) || b == 0) (wrap64 (a - b))
  else if op = 6 then okd (prodF a b).2 (prodF a b).1
  else if op = 7 then if b = 0 then (0, 42) else okd (!(a == -9223372036854775808) || !(b == -1)) (wrap64 (a.tdiv b))
  else if op = 14 then (if b < a then b else a, 0) else if op = 15 then (if a < b then b else a, 0) else (0, 0)
theorem ints_4 (a b : Int) : Calls Try.prog 85 #[.int .i64 4, .int .i64 a, .int .i64 b] w (Ret w (.tuple #[.int .i64 (intsF 4 a b).1, .int .i64 (intsF 4 a b).2])) := by
  have E := Lib.hid (show intsF 4 a b = okd ((decide (a < wrap64 (a + b)) == decide (0 < b)) || b == 0) (wrap64 (a + b)) from rfl)
  generalize intsF 4 a b = r at *
  cases h1 : (decide (a < wrap64 (a + b)) == decide (0 < b)) <;> cases h2 : (b == 0)
  · replace E := Lib.hid (show r = (0, 41) by rw [E.out, h1, h2]; rfl)
    go_enter Try.func85, Try.ntmps85
    go_wp2_with fail
    rw [E.out]
    exact bodyPost_ret (v := .tuple #[.int .i64 (0), .int .i64 41]) (by simp [results, Try.results85, go_sem]) rfl ⟨rfl, Below.refl _ _⟩
  · replace E := Lib.hid (show r = (wrap64 (a + b), 0) by rw [E.out, h1, h2]; rfl)
    go_enter Try.func85, Try.ntmps85
    go_wp2_with fail
    rw [E.out]
    exact bodyPost_ret (v := .tuple #[.int .i64 (wrap64 (a + b)), .int .i64 0]) (by simp [results, Try.results85, go_sem]) rfl ⟨rfl, Below.refl _ _⟩
  · replace E := Lib.hid (show r = (wrap64 (a + b), 0) by rw [E.out, h1, h2]; rfl)
    go_enter Try.func85, Try.ntmps85
    go_wp2_with fail
    rw [E.out]
    exact bodyPost_ret (v := .tuple #[.int .i64 (wrap64 (a + b)), .int .i64 0]) (by simp [results, Try.results85, go_sem]) rfl ⟨rfl, Below.refl _ _⟩
  · replace E := Lib.hid (show r = (wrap64 (a + b), 0) by rw [E.out, h1, h2]; rfl)
    go_enter Try.func85, Try.ntmps85
    go_wp2_with fail
    rw [E.out]
    exact bodyPost_ret (v := .tuple #[.int .i64 (wrap64 (a + b)), .int .i64 0]) (by simp [results, Try.results85, go_sem]) rfl ⟨rfl, Below.refl _ _⟩
theorem ints_5 (a b : Int) : Calls Try.prog 85 #[.int .i64 5, .int .i64 a, .int .i64 b] w (Ret w (.tuple #[.int .i64 (intsF 5 a b).1, .int .i64 (intsF 5 a b).2])) := by
  have E := Lib.hid (show intsF 5 a b = okd ((decide (wrap64 (a - b) < a) == decide (0 < b)) || b == 0) (wrap64 (a - b)) from rfl)
  generalize intsF 5 a b = r at *
  cases h1 : (decide (wrap64 (a - b) < a) == decide (0 < b)) <;> cases h2 : (b == 0)
  · replace E := Lib.hid (show r = (0, 41) by rw [E.out, h1, h2]; rfl)
    go_enter Try.func85, Try.ntmps85
    go_wp2_with fail
    rw [E.out]
    exact bodyPost_ret (v := .tuple #[.int .i64 (0), .int .i64 41]) (by simp [results, Try.results85, go_sem]) rfl ⟨rfl, Below.refl _ _⟩
  · replace E := Lib.hid (show r = (wrap64 (a - b), 0) by rw [E.out, h1, h2]; rfl)
    go_enter Try.func85, Try.ntmps85
    go_wp2_with fail
    rw [E.out]
    exact bodyPost_ret (v := .tuple #[.int .i64 (wrap64 (a - b)), .int .i64 0]) (by simp [results, Try.results85, go_sem]) rfl ⟨rfl, Below.refl _ _⟩
  · replace E := Lib.hid (show r = (wrap64 (a - b), 0) by rw [E.out, h1, h2]; rfl)
    go_enter Try.func85, Try.ntmps85
    go_wp2_with fail
    rw [E.out]
    exact bodyPost_ret (v := .tuple #[.int .i64 (wrap64 (a - b)), .int .i64 0]) (by simp [results, Try.results85, go_sem]) rfl ⟨rfl, Below.refl _ _⟩
  · replace E := Lib.hid (show r = (wrap64 (a - b), 0) by rw [E.out, h1, h2]; rfl)
    go_enter Try.func85, Try.ntmps85
    go_wp2_with fail
    rw [E.out]
    exact bodyPost_ret (v := .tuple #[.int .i64 (wrap64 (a - b)), .int .i64 0]) (by simp [results, Try.results85, go_sem]) rfl ⟨rfl, Below.refl _ _⟩
theorem ints_6 (a b : Int) : Calls Try.prog 85 #[.int .i64 6, .int .i64 a, .int .i64 b] w (Ret w (.tuple #[.int .i64 (intsF 6 a b).1, .int .i64 (intsF 6 a b).2])) := by
  have E := Lib.hid (show intsF 6 a b = okd (prodF a b).2 (prodF a b).1 from rfl)
  generalize intsF 6 a b = r at *
  go_enter Try.func85, Try.ntmps85
  go_wp2_with fail
  refine (product_c a b).mono ?_
  rintro e w1 ⟨rfl, hb⟩
  have B1 := Lib.hid hb
  clear hb
  generalize prodF a b = p at *
  obtain ⟨n, ok⟩ := p
  simp only at *
  cases ok
  · replace E := Lib.hid (show r = (0, 41) by rw [E.out]; rfl)
    go_wp2_with fail
    rw [E.out]
    exact bodyPost_ret (v := .tuple #[.int .i64 (0), .int .i64 41]) (by simp [results, Try.results85, go_sem]) rfl ⟨rfl, B1.out⟩
  · replace E := Lib.hid (show r = (n, 0) by rw [E.out]; rfl)
    go_wp2_with fail
    rw [E.out]
    exact bodyPost_ret (v := .tuple #[.int .i64 (n), .int .i64 0]) (by simp [results, Try.results85, go_sem]) rfl ⟨rfl, B1.out⟩
theorem ints_7 (a b : Int) : Calls Try.prog 85 #[.int .i64 7, .int .i64 a, .int .i64 b] w (Ret w (.tuple #[.int .i64 (intsF 7 a b).1, .int .i64 (intsF 7 a b).2])) := by
  have E := Lib.hid (show intsF 7 a b = if b = 0 then (0, 42) else okd (!(a == -9223372036854775808) || !(b == -1)) (wrap64 (a.tdiv b)) from rfl)
  generalize intsF 7 a b = r at *
  by_cases h0 : b = 0
  · subst h0
    replace E := Lib.hid (show r = (0, 42) by rw [E.out]; rfl)
    go_enter Try.func85, Try.ntmps85
    go_wp2_with fail
    rw [E.out]
    exact bodyPost_ret (v := .tuple #[.int .i64 (0), .int .i64 42]) (by simp [results, Try.results85, go_sem]) rfl ⟨rfl, Below.refl _ _⟩
  · have h0' : (b == 0) = false := by simpa using h0
    by_cases ha : a = -9223372036854775808
    · by_cases hb : b = -1
      · replace E := Lib.hid (show r = (0, 41) by rw [E.out, if_neg h0, ha, hb]; rfl)
        subst ha hb
        go_enter Try.func85, Try.ntmps85
        go_wp2_with fail
        rw [E.out]
        exact bodyPost_ret (v := .tuple #[.int .i64 (0), .int .i64 41]) (by simp [results, Try.results85, go_sem]) rfl ⟨rfl, Below.refl _ _⟩
      · have e1 : Int.tdiv (-9223372036854775808) b = -Int.tdiv 9223372036854775808 b := Int.neg_tdiv 9223372036854775808 b
        replace E := Lib.hid (show r = (wrap64 (-Int.tdiv 9223372036854775808 b), 0) by rw [E.out, if_neg h0, ha, e1]; simp [okd, hb])
        subst ha
        have hb' : (b != -1) = true := by simpa using hb
        clear e1
        go_enter Try.func85, Try.ntmps85
        go_wp2_with fail
        rw [E.out]
        exact bodyPost_ret (v := .tuple #[.int .i64 (wrap64 (-Int.tdiv 9223372036854775808 b)), .int .i64 0]) (by simp [results, Try.results85, go_sem]) rfl ⟨rfl, Below.refl _ _⟩
    · replace E := Lib.hid (show r = (wrap64 (a.tdiv b), 0) by rw [E.out, if_neg h0]; simp [okd, ha])
      go_enter Try.func85, Try.ntmps85
      go_wp2_with fail
      rw [E.out]
      exact bodyPost_ret (v := .tuple #[.int .i64 (wrap64 (a.tdiv b)), .int .i64 0]) (by simp [results, Try.results85, go_sem]) rfl ⟨rfl, Below.refl _ _⟩
theorem ints_14 (a b : Int) : Calls Try.prog 85 #[.int .i64 14, .int .i64 a, .int .i64 b] w (Ret w (.tuple #[.int .i64 (intsF 14 a b).1, .int .i64 (intsF 14 a b).2])) := by
  by_cases h : b < a
  · rw [show intsF 14 a b = (b, 0) by simp [intsF, h]]
    go_enter Try.func85, Try.ntmps85
    go_wp2_with fail
    exact bodyPost_ret (v := .tuple #[.int .i64 b, .int .i64 0]) (by simp [results, Try.results85, go_sem]) rfl ⟨rfl, Below.refl _ _⟩
  · rw [show intsF 14 a b = (a, 0) by simp [intsF, h]]
    go_enter Try.func85, Try.ntmps85
    go_wp2_with fail
    exact bodyPost_ret (v := .tuple #[.int .i64 a, .int .i64 0]) (by simp [results, Try.results85, go_sem]) rfl ⟨rfl, Below.refl _ _⟩
theorem ints_15 (a b : Int) : Calls Try.prog 85 #[.int .i64 15, .int .i64 a, .int .i64 b] w (Ret w (.tuple #[.int .i64 (intsF 15 a b).1, .int .i64 (intsF 15 a b).2])) := by
  by_cases h : a < b
  · rw [show intsF 15 a b = (b, 0) by simp [intsF, h]]
    go_enter Try.func85, Try.ntmps85
    go_wp2_with fail
    exact bodyPost_ret (v := .tuple #[.int .i64 b, .int .i64 0]) (by simp [results, Try.results85, go_sem]) rfl ⟨rfl, Below.refl _ _⟩
  · rw [show intsF 15 a b = (a, 0) by simp [intsF, h]]
    go_enter Try.func85, Try.ntmps85
    go_wp2_with fail
    exact bodyPost_ret (v := .tuple #[.int .i64 a, .int .i64 0]) (by simp [results, Try.results85, go_sem]) rfl ⟨rfl, Below.refl _ _⟩
/-- the operations that reckon -/
def isR (op : Int) : Prop := op = 4 ∨ op = 5 ∨ op = 6 ∨ op = 7 ∨ op = 14 ∨ op = 15
theorem ints_c (op a b : Int) (h : isR op) : Calls Try.prog 85 #[.int .i64 op, .int .i64 a, .int .i64 b] w (Ret w (.tuple #[.int .i64 (intsF op a b).1, .int .i64 (intsF op a b).2])) := by
  rcases h with rfl | rfl | rfl | rfl | rfl | rfl
  · exact ints_4 a b
  · exact ints_5 a b
  · exact ints_6 a b
  · exact ints_7 a b
  · exact ints_14 a b
  · exact ints_15 a b
theorem okd_i64 (ok : Bool) (n : Int) (h : i64 n) : i64 (okd ok n).1 ∧ ((okd ok n).2 = 0 ∨ (okd ok n).2 = 41) := by
  have z : i64 0 := by unfold i64; omega
  cases ok
  · exact ⟨z, .inr rfl⟩
  · exact ⟨h, .inl rfl⟩
theorem intsF_i64 (op a b : Int) (ha : i64 a) (hb : i64 b) : i64 (intsF op a b).1 ∧ ((intsF op a b).2 = 0 ∨ (intsF op a b).2 = 41 ∨ (intsF op a b).2 = 42) := by
  have z : i64 0 := by unfold i64; omega
  have k : ∀ ok n, i64 n → i64 (okd ok n).1 ∧ ((okd ok n).2 = 0 ∨ (okd ok n).2 = 41 ∨ (okd ok n).2 = 42) := fun ok n h => by
    have := okd_i64 ok n h
    exact ⟨this.1, by rcases this.2 with h | h; exact .inl h; exact .inr (.inl h)⟩
  unfold intsF
  split
  · exact k _ _ (wrap64_i64 _)
  · split
    · exact k _ _ (wrap64_i64 _)
    · split
      · exact k _ _ (prodF_i64 a b)
      · split
        · split
          · exact ⟨z, .inr (.inr rfl)⟩
          · exact k _ _ (wrap64_i64 _)
        · split
          · refine ⟨?_, .inl rfl⟩
            simp only
            split
            · exact hb
            · exact ha
          · split
            · refine ⟨?_, .inl rfl⟩
              simp only
              split
              · exact hb
              · exact ha
            · exact ⟨z, .inl rfl⟩
end
end Go.Proofs.Ytijlamajcdekkaa
