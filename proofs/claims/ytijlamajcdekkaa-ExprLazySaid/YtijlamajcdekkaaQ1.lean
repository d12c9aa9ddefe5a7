/- The law ExprSound, walked. -/
import Derived.Test.YtijlamajcdekkaaH2
import Derived.Test.YtijlamajcdekkaaP6
namespace Go.Proofs.Ytijlamajcdekkaa
open Go.RowKit
set_option linter.unusedVariables false
theorem chkE_ok {fl : List Fld} {n : Nat} {e : Exp} (hd : Dp n e) (h : (chkE fl n e).2 = 0) : small e = true ∧ kE fl n e = .ok (chkE fl n e).1 := by
  unfold chkE at *
  by_cases hs : small e = true
  · rw [if_pos hs] at h ⊢
    cases hk : kE fl n e with
    | error x =>
      rw [hk] at h
      have h : x = 0 := h
      subst h
      exact absurd hk (kE_err n e hd)
    | ok k => exact ⟨hs, rfl⟩
  · rw [if_neg hs] at h
    cases h
theorem sound_R {fl : List Fld} {vs : List Val} {n : Nat} {e : Exp} (hd : Dp n e) (hx : (chkE fl n e).2 = 0) (hf : fitB fl vs = true) :
    ((evalR fl vs n e).2 = 0 ∧ (evalR fl vs n e).1.kind = (chkE fl n e).1 ∧ goodV (evalR fl vs n e).1 = true) ∨ (evalR fl vs n e).2 = 41 ∨ (evalR fl vs n e).2 = 42 := by
  obtain ⟨hs, hk⟩ := chkE_ok hd hx
  have hS := sound fl vs hf n e _ hk
  cases hv : evE fl vs n e with
  | ok v =>
    rw [hv] at hS
    rw [evalR_of hs hk hf hv]
    exact .inl ⟨rfl, hS⟩
  | error x =>
    rw [hv] at hS
    have : evalR fl vs n e = (zeroV, x) := by
      unfold evalR
      rw [if_pos hs, hk]
      show (if fitB fl vs = true then (match evE fl vs n e with | .error x => (zeroV, x) | .ok v => (v, 0)) else (zeroV, 1)) = _
      rw [if_pos hf, hv]
    rw [this]
    exact .inr hS
section
variable {w : World}
set_option maxRecDepth 20000 in
set_option maxHeartbeats 4000000 in
theorem sound_c {A A2 : Option Addr} {N N2 c c2 : Nat} {fl : List Fld} {vs : List Val} {n : Nat} {cs : List Value} {e : Exp} (h : (kExp n).R (fun _ => True) w cs e) (hf : Sl kFld (fun _ => True) w (.slice A N c) fl) (hv : Sl kVal (fun _ => True) w (.slice A2 N2 c2) vs) :
    Calls Try.prog 3 #[.agg cs.toArray, .agg #[.slice A N c, .slice A2 N2 c2]] w (Ret w (.bool true)) := by
  have hdp := kR_dp h
  obtain ⟨k, B, d, hk, rfl, hs⟩ := exp_open h
  have SF := store_f64
  have B0 := Lib.hid (show Below w.heap.size w ((w.alloc (.cells #[.int .i64 e.op, .slice B e.kids.length d, .string ⟨e.name.toArray⟩, .int .i64 e.val.kind, .int .i64 e.val.int, .bool e.val.bool, .string ⟨e.val.text.toArray⟩, .float .f64 e.val.num] 27)).alloc (.cells #[.slice A N c, .slice A2 N2 c2] 31)) from ((Below.refl _ _).alloc (Nat.le_refl _) _).alloc (by simp) _)
  have L0 := Lib.hid (show Loc2 w.heap.size (w.heap.size + 1) 27 31 #[.int .i64 e.op, .slice B e.kids.length d, .string ⟨e.name.toArray⟩, .int .i64 e.val.kind, .int .i64 e.val.int, .bool e.val.bool, .string ⟨e.val.text.toArray⟩, .float .f64 e.val.num] #[.slice A N c, .slice A2 N2 c2] ((w.alloc (.cells #[.int .i64 e.op, .slice B e.kids.length d, .string ⟨e.name.toArray⟩, .int .i64 e.val.kind, .int .i64 e.val.int, .bool e.val.bool, .string ⟨e.val.text.toArray⟩, .float .f64 e.val.num] 27)).alloc (.cells #[.slice A N c, .slice A2 N2 c2] 31)) from
    ⟨(Below.heap_alloc _ _ _ (by simp)).trans (heap_new _ _), by have := heap_new (w.alloc (.cells #[.int .i64 e.op, .slice B e.kids.length d, .string ⟨e.name.toArray⟩, .int .i64 e.val.kind, .int .i64 e.val.int, .bool e.val.bool, .string ⟨e.val.text.toArray⟩, .float .f64 e.val.num] 27)) (.cells #[.slice A N c, .slice A2 N2 c2] 31); simpa using this⟩)
  have HH := Lib.hid (show ∀ W : World, Below w.heap.size w W → (kExp n).R (fun _ => True) W [.int .i64 e.op, .slice B e.kids.length d, .string ⟨e.name.toArray⟩, .int .i64 e.val.kind, .int .i64 e.val.int, .bool e.val.bool, .string ⟨e.val.text.toArray⟩, .float .f64 e.val.num] e from fun W hW => (by rw [hk]; exact exp_mk (hs.below hW)))
  have HF := Lib.hid (show ∀ W : World, Below w.heap.size w W → Sl kFld (fun _ => True) W (.slice A N c) fl from fun W hW => hf.below hW)
  have HV := Lib.hid (show ∀ W : World, Below w.heap.size w W → Sl kVal (fun _ => True) W (.slice A2 N2 c2) vs from fun W hW => hv.below hW)
  have HD := Lib.hid hdp
  clear h hf hs hv hdp
  go_enter Try.func3, Try.ntmps3
  go_wp2_with fail
  generalize ((w.alloc (.cells #[.int .i64 e.op, .slice B e.kids.length d, .string ⟨e.name.toArray⟩, .int .i64 e.val.kind, .int .i64 e.val.int, .bool e.val.bool, .string ⟨e.val.text.toArray⟩, .float .f64 e.val.num] 27)).alloc (.cells #[.slice A N c, .slice A2 N2 c2] 31)) = w0 at *
  obtain ⟨e0, e1, e2, e3, e4, e5, e6, e7⟩ := cells8 L0.out.1
  have s0 := cell_of L0.out.2 0
  have s1 := cell_of L0.out.2 1
  simp only [List.getElem?_toArray, List.getElem?_cons_zero, List.getElem?_cons_succ] at s0 s1
  have hz := lt_of_heap L0.out.2
  refine (few_c (HF.out _ B0.out) (HV.out _ B0.out)).mono ?_
  rintro x9 w1 ⟨rfl, hb⟩
  have B1 := Lib.hid (below_self B0.out hb)
  have L1 := Lib.hid (L0.out.below hb)
  clear hb B0 L0
  clear e0 e1 e2 e3 e4 e5 e6 e7 s0 s1 hz
  cases hfw : fewS fl vs
  · go_wp2_with fail
    go_ret
    exact ⟨rfl, B1.out⟩
  obtain ⟨e0, e1, e2, e3, e4, e5, e6, e7⟩ := cells8 L1.out.1
  have s0 := cell_of L1.out.2 0
  have s1 := cell_of L1.out.2 1
  simp only [List.getElem?_toArray, List.getElem?_cons_zero, List.getElem?_cons_succ] at s0 s1
  have hz := lt_of_heap L1.out.2
  go_wp2_with fail
  refine (check_c (HH.out _ B1.out) (HF.out _ B1.out)).mono ?_
  rintro x9 w2 ⟨rfl, hb⟩
  have B2 := Lib.hid (below_self B1.out hb)
  have L2 := Lib.hid (L1.out.below hb)
  clear hb B1 L1
  clear e0 e1 e2 e3 e4 e5 e6 e7 s0 s1 hz
  have HS := Lib.hid (fun (hx : (chkE fl n e).2 = 0) (hf : fitB fl vs = true) => sound_R HD.out hx hf)
  generalize chkE fl n e = ck at *
  obtain ⟨kk, x⟩ := ck
  obtain ⟨e0, e1, e2, e3, e4, e5, e6, e7⟩ := cells8 L2.out.1
  have s0 := cell_of L2.out.2 0
  have s1 := cell_of L2.out.2 1
  simp only [List.getElem?_toArray, List.getElem?_cons_zero, List.getElem?_cons_succ] at s0 s1
  have hz := lt_of_heap L2.out.2
  by_cases hx : x = 0
  rotate_left
  · have hx' : (x != 0) = true := by simpa using hx
    clear hx
    go_wp2_with fail
    refine awake_c.mono ?_
    rintro x9 w3 ⟨rfl, hb⟩
    go_wp2_with fail
    go_ret
    exact ⟨rfl, below_self B2.out hb⟩
  subst hx
  go_wp2_with fail
  refine (fit_c (HF.out _ B2.out) (HV.out _ B2.out)).mono ?_
  rintro x9 w3 ⟨rfl, hb⟩
  have B3 := Lib.hid (below_self B2.out hb)
  have L3 := Lib.hid (L2.out.below hb)
  clear hb B2 L2
  clear e0 e1 e2 e3 e4 e5 e6 e7 s0 s1 hz
  cases hft : fitB fl vs
  · go_wp2_with fail
    refine awake_c.mono ?_
    rintro x9 w4 ⟨rfl, hb⟩
    go_wp2_with fail
    go_ret
    exact ⟨rfl, below_self B3.out hb⟩
  have HS2 := Lib.hid (HS.out trivial hft)
  clear HS
  obtain ⟨e0, e1, e2, e3, e4, e5, e6, e7⟩ := cells8 L3.out.1
  have s0 := cell_of L3.out.2 0
  have s1 := cell_of L3.out.2 1
  simp only [List.getElem?_toArray, List.getElem?_cons_zero, List.getElem?_cons_succ] at s0 s1
  have hz := lt_of_heap L3.out.2
  go_wp2_with fail
  refine (ev_c (HH.out _ B3.out) (HF.out _ B3.out) (HV.out _ B3.out)).mono ?_
  rintro x9 w4 ⟨rfl, hb⟩
  have B4 := Lib.hid (below_self B3.out hb)
  clear hb B3 L3
  clear e0 e1 e2 e3 e4 e5 e6 e7 s0 s1 hz
  generalize evalR fl vs n e = er at *
  obtain ⟨v, y⟩ := er
  by_cases hy : y = 0
  · subst hy
    obtain ⟨hvk, hvg⟩ : v.kind = kk ∧ goodV v = true := by
      rcases HS2.out with h | h
      · exact h.2
      · rcases h with h | h <;> cases h
    clear HS2
    subst hvk
    have HG := Lib.hid (fun W : World => good4_c (w := W) v)
    rw [hvg] at HG
    clear hvg
    go_wp2_with fail
    refine (HG.out _).mono ?_
    rintro x9 w5 ⟨rfl, hb⟩
    have B5 := Lib.hid (below_self B4.out (below_self ((Below.refl _ _).alloc (Nat.le_refl _) _) hb))
    go_wp2_with fail
    refine awake_c.mono ?_
    rintro x9 w6 ⟨rfl, hb6⟩
    go_wp2_with fail
    go_ret
    exact ⟨rfl, below_self B5.out hb6⟩
  · have hy2 : y = 41 ∨ y = 42 := by
      rcases HS2.out with h | h
      · exact absurd h.1 hy
      · exact h
    clear hy
    rcases hy2 with rfl | rfl
    · go_wp2_with fail
      refine awake_c.mono ?_
      rintro x9 w5 ⟨rfl, hb⟩
      go_wp2_with fail
      go_ret
      exact ⟨rfl, below_self B4.out (below_self ((Below.refl _ _).alloc (Nat.le_refl _) _) hb)⟩
    · go_wp2_with fail
      refine awake_c.mono ?_
      rintro x9 w5 ⟨rfl, hb⟩
      go_wp2_with fail
      go_ret
      exact ⟨rfl, below_self B4.out (below_self ((Below.refl _ _).alloc (Nat.le_refl _) _) hb)⟩
end
end Go.Proofs.Ytijlamajcdekkaa
