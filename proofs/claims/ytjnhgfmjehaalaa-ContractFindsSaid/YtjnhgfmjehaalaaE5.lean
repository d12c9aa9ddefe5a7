/- Package value, walked: Good and what is reckoned. -/
import Derived.Test.YtjnhgfmjehaalaaE4
namespace Go.Proofs.Ytjnhgfmjehaalaa
open Go.RowKit
set_option linter.unusedVariables false
def goodV (v : Val) : Bool := isK v.kind && sameV v (partV v) && decide ((v.text.length : Int) ≤ 32)
theorem cells5 {w : World} {b : Nat} {t : TypeId} {f : Nat × Nat} {v0 v1 v2 v3 v4 : Value} (h : w.heap[b]? = some (.cells #[v0, v1, v2, v3, v4] t f)) : w.cell? ⟨b, 0, none⟩ = some v0 ∧ w.cell? ⟨b, 1, none⟩ = some v1 ∧ w.cell? ⟨b, 2, none⟩ = some v2 ∧ w.cell? ⟨b, 3, none⟩ = some v3 ∧ w.cell? ⟨b, 4, none⟩ = some v4 :=
  ⟨cell_of h 0, cell_of h 1, cell_of h 2, cell_of h 3, cell_of h 4⟩
section
variable {w : World}
theorem good_c (v : Val) : Calls Try.prog 73 #[.agg #[.int .i64 v.kind, .int .i64 v.int, .bool v.bool, .string ⟨v.text.toArray⟩, .float .f64 v.num]] w (Ret w (.bool (goodV v))) := by
  have SF := store_f64
  have E := Lib.hid (show goodV v = (isK v.kind && sameV v (partV v) && decide ((v.text.length : Int) ≤ 32)) from rfl)
  have B0 := Lib.hid (show Below w.heap.size w (w.alloc (.cells #[.int .i64 v.kind, .int .i64 v.int, .bool v.bool, .string ⟨v.text.toArray⟩, .float .f64 v.num] 36)) from (Below.refl _ _).alloc (Nat.le_refl _) _)
  have L0 := Lib.hid (show Loc1 w.heap.size 36 #[.int .i64 v.kind, .int .i64 v.int, .bool v.bool, .string ⟨v.text.toArray⟩, .float .f64 v.num] (w.alloc (.cells #[.int .i64 v.kind, .int .i64 v.int, .bool v.bool, .string ⟨v.text.toArray⟩, .float .f64 v.num] 36)) from heap_new _ _)
  have HP := Lib.hid (part_c (w := w.alloc (.cells #[.int .i64 v.kind, .int .i64 v.int, .bool v.bool, .string ⟨v.text.toArray⟩, .float .f64 v.num] 36)) v)
  go_enter Try.func73, Try.ntmps73
  go_wp2_with fail
  refine HP.out.mono ?_
  rintro e w1 ⟨rfl, hb⟩
  have B1 := Lib.hid (below_self B0.out hb)
  have L1 := Lib.hid (L0.out.below hb)
  obtain ⟨k0, k1, k2, k3, k4⟩ := cells5 L1.out
  have hz := lt_of_heap L1.out
  clear hb HP B0 L0
  generalize partV v = p at *
  cases hk : isK v.kind
  · replace E := Lib.hid (E.out.trans (by rw [hk]; rfl : _ = false))
    go_wp2_with fail
    go_ret
    rw [E.out]
    exact ⟨rfl, by (first | exact B1.out | exact below_alloc B1.out (Nat.le_refl _) _)⟩
  · have B2 := Lib.hid (show Below w1.heap.size w1 (w1.alloc (.cells #[.int .i64 p.kind, .int .i64 p.int, .bool p.bool, .string ⟨p.text.toArray⟩, .float .f64 p.num] 36)) from (Below.refl _ _).alloc (Nat.le_refl _) _)
    have L2 := Lib.hid (L1.out.below B2.out)
    go_wp2_with fail
    refine (same_c v p).mono ?_
    rintro e w2 ⟨rfl, hb⟩
    have B3 := Lib.hid (below_self B1.out (below_self B2.out hb))
    have L3 := Lib.hid (L2.out.below hb)
    have k3' : w2.cell? ⟨w.heap.size, 3, none⟩ = some (.string ⟨v.text.toArray⟩) := cell_of L3.out 3
    clear hb k0 k1 k2 k3 k4
    cases hs : sameV v p
    · replace E := Lib.hid (E.out.trans (by rw [hk, hs]; rfl : _ = false))
      go_wp2_with fail
      go_ret
      rw [E.out]
      exact ⟨rfl, B3.out⟩
    · replace E := Lib.hid (E.out.trans (by rw [hk, hs]; rfl : _ = decide ((v.text.length : Int) ≤ 32)))
      go_wp2_with fail
      go_ret
      rw [E.out]
      exact ⟨rfl, B3.out⟩
end
end Go.Proofs.Ytjnhgfmjehaalaa
