/- Package value, walked: what is reckoned with values. -/
import Derived.Test.YtijlamajcdekkaaE7
namespace Go.Proofs.Ytijlamajcdekkaa
open Go.RowKit
set_option linter.unusedVariables false
def zeroV : Val := ⟨0, 0, false, [], 0⟩
def intV (n : Int) : Val := ⟨1, n, false, [], 0⟩
def numV (n : Nat) : Val := ⟨4, 0, false, [], n⟩
def truthV (b : Bool) : Val := ⟨2, 0, b, [], 0⟩
def bothV (a b : Val) : Bool := goodV a && goodV b && a.kind == b.kind
def Loc2 (N N1 : Nat) (t t1 : TypeId) (cm cs : Array Value) (W : World) : Prop := W.heap[N]? = some (.cells cm t (0, 0)) ∧ W.heap[N1]? = some (.cells cs t1 (0, 0))
theorem Loc2.below {N N1 : Nat} {t t1 : TypeId} {cm cs : Array Value} {W W' : World} (h : Loc2 N N1 t t1 cm cs W) (hb : Below W.heap.size W W') : Loc2 N N1 t t1 cm cs W' :=
  ⟨(hb.block _ (lt_of_heap h.1)).trans h.1, (hb.block _ (lt_of_heap h.2)).trans h.2⟩
section
variable {w : World}
theorem ofInt_c (n : Int) : Calls Try.prog 82 #[.int .i64 n] w (Ret w (.agg #[.int .i64 1, .int .i64 n, .bool false, .string ⟨#[]⟩, .float .f64 0])) := by
  have SF := store_f64
  go_enter Try.func82, Try.ntmps82
  go_wp2_with fail
  exact bodyPost_ret (v := .agg #[.int .i64 1, .int .i64 n, .bool false, .string ⟨#[]⟩, .float .f64 0]) (by simp [results, Try.results82, go_sem]) rfl ⟨rfl, (Below.refl _ _).alloc (Nat.le_refl _) _⟩
theorem ofNum_c (x : Nat) : Calls Try.prog 81 #[.float .f64 x] w (Ret w (.agg #[.int .i64 4, .int .i64 0, .bool false, .string ⟨#[]⟩, .float .f64 (codeB x)])) := by
  have SF := store_f64
  have FF := f64from_run
  go_enter Try.func81, Try.ntmps81
  go_wp2_with (go_at_call 77; refine (code_c _).mono ?_; rintro e w' ⟨rfl, rfl⟩)
  exact bodyPost_ret (v := .agg #[.int .i64 4, .int .i64 0, .bool false, .string ⟨#[]⟩, .float .f64 (codeB x)]) (by simp [results, Try.results81, go_sem]) rfl ⟨rfl, (Below.refl _ _).alloc (Nat.le_refl _) _⟩
theorem both_c (a b : Val) : Calls Try.prog 83 #[.agg #[.int .i64 a.kind, .int .i64 a.int, .bool a.bool, .string ⟨a.text.toArray⟩, .float .f64 a.num], .agg #[.int .i64 b.kind, .int .i64 b.int, .bool b.bool, .string ⟨b.text.toArray⟩, .float .f64 b.num]] w (Ret w (.bool (bothV a b))) := by
  have E := Lib.hid (show bothV a b = (goodV a && goodV b && a.kind == b.kind) from rfl)
  have SF := store_f64
  have B0 := Lib.hid (show Below w.heap.size w ((w.alloc (.cells #[.int .i64 a.kind, .int .i64 a.int, .bool a.bool, .string ⟨a.text.toArray⟩, .float .f64 a.num] 25)).alloc (.cells #[.int .i64 b.kind, .int .i64 b.int, .bool b.bool, .string ⟨b.text.toArray⟩, .float .f64 b.num] 25)) from ((Below.refl _ _).alloc (Nat.le_refl _) _).alloc (by simp) _)
  have L0 := Lib.hid (show Loc2 w.heap.size (w.heap.size + 1) 25 25 #[.int .i64 a.kind, .int .i64 a.int, .bool a.bool, .string ⟨a.text.toArray⟩, .float .f64 a.num] #[.int .i64 b.kind, .int .i64 b.int, .bool b.bool, .string ⟨b.text.toArray⟩, .float .f64 b.num] ((w.alloc (.cells #[.int .i64 a.kind, .int .i64 a.int, .bool a.bool, .string ⟨a.text.toArray⟩, .float .f64 a.num] 25)).alloc (.cells #[.int .i64 b.kind, .int .i64 b.int, .bool b.bool, .string ⟨b.text.toArray⟩, .float .f64 b.num] 25)) from
    ⟨(Below.heap_alloc _ _ _ (by simp)).trans (heap_new _ _), by have := heap_new (w.alloc (.cells #[.int .i64 a.kind, .int .i64 a.int, .bool a.bool, .string ⟨a.text.toArray⟩, .float .f64 a.num] 25)) (.cells #[.int .i64 b.kind, .int .i64 b.int, .bool b.bool, .string ⟨b.text.toArray⟩, .float .f64 b.num] 25); simpa using this⟩)
  go_enter Try.func83, Try.ntmps83
  go_wp2_with fail
  refine (good_c a).mono ?_
  rintro e w1 ⟨rfl, hb⟩
  have B1 := Lib.hid (below_self B0.out hb)
  have L1 := Lib.hid (L0.out.below hb)
  clear hb B0 L0
  obtain ⟨k0, k1, k2, k3, k4⟩ := cells5 L1.out.1
  obtain ⟨j0, j1, j2, j3, j4⟩ := cells5 L1.out.2
  cases h1 : goodV a
  · replace E := Lib.hid (E.out.trans (by rw [h1]; rfl : _ = false))
    go_wp2_with fail
    go_ret
    rw [E.out]
    exact ⟨rfl, B1.out⟩
  go_wp2_with fail
  refine (good_c b).mono ?_
  rintro e w2 ⟨rfl, hb⟩
  have B2 := Lib.hid (below_self B1.out hb)
  have L2 := Lib.hid (L1.out.below hb)
  clear hb B1 L1
  clear k0 k1 k2 k3 k4 j0 j1 j2 j3 j4
  obtain ⟨k0, k1, k2, k3, k4⟩ := cells5 L2.out.1
  obtain ⟨j0, j1, j2, j3, j4⟩ := cells5 L2.out.2
  cases h2 : goodV b
  · replace E := Lib.hid (E.out.trans (by rw [h1, h2]; rfl : _ = false))
    go_wp2_with fail
    go_ret
    rw [E.out]
    exact ⟨rfl, B2.out⟩
  replace E := Lib.hid (E.out.trans (by rw [h1, h2]; rfl : _ = (a.kind == b.kind)))
  go_wp2_with fail
  go_ret
  rw [E.out]
  exact ⟨rfl, B2.out⟩
def sameF (a b : Val) : Bool := a.kind == b.kind && a.int == b.int && a.bool == b.bool && a.text == b.text && Op.floatEq .f64 a.num b.num
def equalV (a b : Val) : Bool × Int := if bothV a b then (sameF a b, 0) else (false, 40)
set_option maxRecDepth 20000 in
set_option maxHeartbeats 2000000 in
theorem equal_c (a b : Val) : Calls Try.prog 57 #[.agg #[.int .i64 a.kind, .int .i64 a.int, .bool a.bool, .string ⟨a.text.toArray⟩, .float .f64 a.num], .agg #[.int .i64 b.kind, .int .i64 b.int, .bool b.bool, .string ⟨b.text.toArray⟩, .float .f64 b.num]] w (Ret w (.tuple #[.bool (equalV a b).1, .int .i64 (equalV a b).2])) := by
  have HBo := fun W : World => both_c (w := W) a b
  have E1 : equalV a b = if bothV a b then (sameF a b, 0) else (false, 40) := rfl
  have E2 : sameF a b = (a.kind == b.kind && a.int == b.int && a.bool == b.bool && a.text == b.text && Op.floatEq .f64 a.num b.num) := rfl
  generalize equalV a b = r at *
  generalize sameF a b = sf at *
  generalize bothV a b = bo at *
  obtain ⟨k, i, bl, tx, n⟩ := a
  obtain ⟨k', i', bl', tx', n'⟩ := b
  simp only at *
  by_cases hne : k = k' ∧ i = i' ∧ bl = bl' ∧ tx = tx'
  · obtain ⟨rfl, rfl, rfl, rfl⟩ := hne
    simp only [beq_self_eq_true, Bool.true_and] at E2
    have EF : ∀ W : World, (Op.equalIn 9999 23 (.float .f64 n) (.float .f64 n')).run Try.prog W = .ok sf W := fun W => E2 ▸ eql_f64 W n n'
    replace HBo := Lib.hid HBo
    replace E1 := Lib.hid E1
    clear E2
    have B0 := Lib.hid (show Below w.heap.size w ((w.alloc (.cells #[.int .i64 k, .int .i64 i, .bool bl, .string ⟨tx.toArray⟩, .float .f64 n] 25)).alloc (.cells #[.int .i64 k, .int .i64 i, .bool bl, .string ⟨tx.toArray⟩, .float .f64 n'] 25)) from ((Below.refl _ _).alloc (Nat.le_refl _) _).alloc (by simp) _)
    have L0 := Lib.hid (show Loc2 w.heap.size (w.heap.size + 1) 25 25 #[.int .i64 k, .int .i64 i, .bool bl, .string ⟨tx.toArray⟩, .float .f64 n] #[.int .i64 k, .int .i64 i, .bool bl, .string ⟨tx.toArray⟩, .float .f64 n'] ((w.alloc (.cells #[.int .i64 k, .int .i64 i, .bool bl, .string ⟨tx.toArray⟩, .float .f64 n] 25)).alloc (.cells #[.int .i64 k, .int .i64 i, .bool bl, .string ⟨tx.toArray⟩, .float .f64 n'] 25)) from
      ⟨(Below.heap_alloc _ _ _ (by simp)).trans (heap_new _ _), by have := heap_new (w.alloc (.cells #[.int .i64 k, .int .i64 i, .bool bl, .string ⟨tx.toArray⟩, .float .f64 n] 25)) (.cells #[.int .i64 k, .int .i64 i, .bool bl, .string ⟨tx.toArray⟩, .float .f64 n'] 25); simpa using this⟩)
    go_enter Try.func57, Try.ntmps57
    go_wp2_with fail
    refine (HBo.out _).mono ?_
    rintro e w1 ⟨rfl, hb⟩
    have B1 := Lib.hid (below_self B0.out hb)
    have L1 := Lib.hid (L0.out.below hb)
    clear hb B0 L0
    obtain ⟨k0, k1, k2, k3, k4⟩ := cells5 L1.out.1
    obtain ⟨j0, j1, j2, j3, j4⟩ := cells5 L1.out.2
    cases bo
    · replace E1 := Lib.hid (E1.out.trans (by rfl : _ = (false, (40 : Int))))
      go_wp2_with fail
      rw [E1.out]
      exact bodyPost_ret (v := .tuple #[.bool false, .int .i64 40]) (by simp [results, Try.results57, go_sem]) rfl ⟨rfl, B1.out⟩
    · replace E1 := Lib.hid (E1.out.trans (by rfl : _ = (sf, (0 : Int))))
      cases sf
      · go_wp2_with fail
        rw [E1.out]
        exact bodyPost_ret (v := .tuple #[.bool false, .int .i64 0]) (by simp [results, Try.results57, go_sem]) rfl ⟨rfl, B1.out⟩
      · go_wp2_with fail
        rw [E1.out]
        exact bodyPost_ret (v := .tuple #[.bool true, .int .i64 0]) (by simp [results, Try.results57, go_sem]) rfl ⟨rfl, B1.out⟩
  · have E3 := Lib.hid (show sf = false by
      rw [E2, Bool.and_eq_false_iff]
      left
      rw [← Bool.not_eq_true]
      simp only [Bool.and_eq_true, beq_iff_eq]
      intro hh
      exact hne ⟨hh.1.1.1, hh.1.1.2, hh.1.2, hh.2⟩)
    replace HBo := Lib.hid HBo
    replace E1 := Lib.hid E1
    clear E2
    have B0 := Lib.hid (show Below w.heap.size w ((w.alloc (.cells #[.int .i64 k, .int .i64 i, .bool bl, .string ⟨tx.toArray⟩, .float .f64 n] 25)).alloc (.cells #[.int .i64 k', .int .i64 i', .bool bl', .string ⟨tx'.toArray⟩, .float .f64 n'] 25)) from ((Below.refl _ _).alloc (Nat.le_refl _) _).alloc (by simp) _)
    have L0 := Lib.hid (show Loc2 w.heap.size (w.heap.size + 1) 25 25 #[.int .i64 k, .int .i64 i, .bool bl, .string ⟨tx.toArray⟩, .float .f64 n] #[.int .i64 k', .int .i64 i', .bool bl', .string ⟨tx'.toArray⟩, .float .f64 n'] ((w.alloc (.cells #[.int .i64 k, .int .i64 i, .bool bl, .string ⟨tx.toArray⟩, .float .f64 n] 25)).alloc (.cells #[.int .i64 k', .int .i64 i', .bool bl', .string ⟨tx'.toArray⟩, .float .f64 n'] 25)) from
      ⟨(Below.heap_alloc _ _ _ (by simp)).trans (heap_new _ _), by have := heap_new (w.alloc (.cells #[.int .i64 k, .int .i64 i, .bool bl, .string ⟨tx.toArray⟩, .float .f64 n] 25)) (.cells #[.int .i64 k', .int .i64 i', .bool bl', .string ⟨tx'.toArray⟩, .float .f64 n'] 25); simpa using this⟩)
    go_enter Try.func57, Try.ntmps57
    go_wp2_with fail
    refine (HBo.out _).mono ?_
    rintro e w1 ⟨rfl, hb⟩
    have B1 := Lib.hid (below_self B0.out hb)
    have L1 := Lib.hid (L0.out.below hb)
    clear hb B0 L0
    obtain ⟨k0, k1, k2, k3, k4⟩ := cells5 L1.out.1
    obtain ⟨j0, j1, j2, j3, j4⟩ := cells5 L1.out.2
    cases bo
    · replace E1 := Lib.hid (E1.out.trans (by rfl : _ = (false, (40 : Int))))
      go_wp2_with fail
      rw [E1.out]
      exact bodyPost_ret (v := .tuple #[.bool false, .int .i64 40]) (by simp [results, Try.results57, go_sem]) rfl ⟨rfl, B1.out⟩
    · replace E1 := Lib.hid (E1.out.trans (by rw [E3.out]; rfl : _ = (false, (0 : Int))))
      go_wp2_with fail
      all_goals first
        | (exfalso; apply hne; refine ⟨?_, ?_, ?_, ?_⟩ <;> assumption)
        | (rw [E1.out]; exact bodyPost_ret (v := .tuple #[.bool false, .int .i64 0]) (by simp [results, Try.results57, go_sem]) rfl ⟨rfl, B1.out⟩)
end
end Go.Proofs.Ytijlamajcdekkaa
