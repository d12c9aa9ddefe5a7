/- Package value, walked: Less, Reckon, Neg, Float. -/
import Derived.Test.YtjnhgfmjehaalaaGreatMB
namespace Go.Proofs.YtjnhgfmjehaalaaGreat
open Go.RowKit
set_option linter.unusedVariables false
section
variable {w : World}
end
/-- a value is stored -/
def set5 (w : World) (b : Nat) (v0 v1 v2 v3 v4 : Value) : World := (((((w).setCell ⟨b, 0, none⟩ v0).setCell ⟨b, 1, none⟩ v1).setCell ⟨b, 2, none⟩ v2).setCell ⟨b, 3, none⟩ v3).setCell ⟨b, 4, none⟩ v4
theorem set5_heap {w : World} {b : Nat} {t : TypeId} {u0 u1 u2 u3 u4 : Value} (v0 v1 v2 v3 v4 : Value) (h : w.heap[b]? = some (.cells #[u0, u1, u2, u3, u4] t (0, 0))) : (set5 w b v0 v1 v2 v3 v4).heap[b]? = some (.cells #[v0, v1, v2, v3, v4] t (0, 0)) := by
 have := (heap_set (heap_set (heap_set (heap_set (heap_set h 0 v0) 1 v1) 2 v2) 3 v3) 4 v4)
 unfold set5
 simpa only [List.setIfInBounds_toArray, List.set_cons_zero, List.set_cons_succ] using this
theorem set5_ext (w : World) (b : Nat) (v0 v1 v2 v3 v4 : Value) : Ext (fun k => k ≠ b) w (set5 w b v0 v1 v2 v3 v4) := ((((((Ext.refl _ _).trans (ext_set (fun e => e rfl) v0)).trans (ext_set (fun e => e rfl) v1)).trans (ext_set (fun e => e rfl) v2)).trans (ext_set (fun e => e rfl) v3)).trans (ext_set (fun e => e rfl) v4))
theorem frees5 {w : World} {b : Nat} {t : TypeId} {cs : Array Value} (h : w.heap[b]? = some (.cells cs t (0, 0))) : w.frozen? ⟨b, 0, none⟩ = false ∧ w.frozen? ⟨b, 1, none⟩ = false ∧ w.frozen? ⟨b, 2, none⟩ = false ∧ w.frozen? ⟨b, 3, none⟩ = false ∧ w.frozen? ⟨b, 4, none⟩ = false :=
 ⟨free_of h 0, free_of h 1, free_of h 2, free_of h 3, free_of h 4⟩
/-- three variables of a call's own -/
def Loc3 (N : Nat) (t : TypeId) (ca cb cr : Array Value) (W : World) : Prop := Loc1 N t ca W ∧ Loc1 (N + 1) t cb W ∧ Loc1 (N + 1 + 1) t cr W
theorem Loc3.below {N : Nat} {t : TypeId} {ca cb cr : Array Value} {W W' : World} (h : Loc3 N t ca cb cr W) (hb : Below W.heap.size W W') : Loc3 N t ca cb cr W' := ⟨h.1.below hb, h.2.1.below hb, h.2.2.below hb⟩
theorem Loc3.new (w : World) (t : TypeId) (ca cb cr : Array Value) : Loc3 w.heap.size t ca cb cr (((w.alloc (.cells ca t)).alloc (.cells cb t)).alloc (.cells cr t)) :=
 ⟨(Below.heap_alloc _ _ _ (by simp; omega)).trans ((Below.heap_alloc _ _ _ (by simp)).trans (heap_new _ _)), (Below.heap_alloc _ _ _ (by simp)).trans (by have := heap_new (w.alloc (.cells ca t)) (.cells cb t); rw [World.size_alloc] at this; exact this), by have := heap_new ((w.alloc (.cells ca t)).alloc (.cells cb t)) (.cells cr t); rw [World.size_alloc, World.size_alloc] at this; exact this⟩
theorem Below.three (w : World) (a b c : Obj) : Below w.heap.size w (((w.alloc a).alloc b).alloc c) := (((Below.refl _ _).alloc (Nat.le_refl _) _).alloc (by simp) _).alloc (by simp; omega) _
section
variable {w : World}
end
end Go.Proofs.YtjnhgfmjehaalaaGreat
