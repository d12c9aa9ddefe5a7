/- Package value, walked: Less, Reckon, Neg, Float. -/
import Derived.Test.YtijlamajcdekkaaMB
namespace Go.Proofs.Ytijlamajcdekkaa
open Go.RowKit
set_option linter.unusedVariables false
def lessV (a b : Val) : Bool × Int :=
  if bothV a b then if a.kind = 1 then (decide (a.int < b.int), 0) else if a.kind = 3 then (Op.bytesLess a.text b.text, 0) else if a.kind = 4 then (FloatKind.f64.format.order a.num b.num == some Ordering.lt, 0) else (false, 40)
  else (false, 40)
section
variable {w : World}
theorem less_c (a b : Val) : Calls Try.prog 58 #[.agg #[.int .i64 a.kind, .int .i64 a.int, .bool a.bool, .string ⟨a.text.toArray⟩, .float .f64 a.num], .agg #[.int .i64 b.kind, .int .i64 b.int, .bool b.bool, .string ⟨b.text.toArray⟩, .float .f64 b.num]] w (Ret w (.tuple #[.bool (lessV a b).1, .int .i64 (lessV a b).2])) := by
  have HBo := Lib.hid (fun W : World => both_c (w := W) a b)
  have E := Lib.hid (show lessV a b = if bothV a b then if a.kind = 1 then (decide (a.int < b.int), 0) else if a.kind = 3 then (Op.bytesLess a.text b.text, 0) else if a.kind = 4 then (FloatKind.f64.format.order a.num b.num == some Ordering.lt, 0) else (false, 40)
    else (false, 40) from rfl)
  generalize lessV a b = r at *
  generalize bothV a b = bo at *
  have SF := store_f64
  have B0 := Lib.hid (show Below w.heap.size w ((w.alloc (.cells #[.int .i64 a.kind, .int .i64 a.int, .bool a.bool, .string ⟨a.text.toArray⟩, .float .f64 a.num] 25)).alloc (.cells #[.int .i64 b.kind, .int .i64 b.int, .bool b.bool, .string ⟨b.text.toArray⟩, .float .f64 b.num] 25)) from ((Below.refl _ _).alloc (Nat.le_refl _) _).alloc (by simp) _)
  have L0 := Lib.hid (show Loc2 w.heap.size (w.heap.size + 1) 25 25 #[.int .i64 a.kind, .int .i64 a.int, .bool a.bool, .string ⟨a.text.toArray⟩, .float .f64 a.num] #[.int .i64 b.kind, .int .i64 b.int, .bool b.bool, .string ⟨b.text.toArray⟩, .float .f64 b.num] ((w.alloc (.cells #[.int .i64 a.kind, .int .i64 a.int, .bool a.bool, .string ⟨a.text.toArray⟩, .float .f64 a.num] 25)).alloc (.cells #[.int .i64 b.kind, .int .i64 b.int, .bool b.bool, .string ⟨b.text.toArray⟩, .float .f64 b.num] 25)) from
    ⟨(Below.heap_alloc _ _ _ (by simp)).trans (heap_new _ _), by have := heap_new (w.alloc (.cells #[.int .i64 a.kind, .int .i64 a.int, .bool a.bool, .string ⟨a.text.toArray⟩, .float .f64 a.num] 25)) (.cells #[.int .i64 b.kind, .int .i64 b.int, .bool b.bool, .string ⟨b.text.toArray⟩, .float .f64 b.num] 25); simpa using this⟩)
  go_enter Try.func58, Try.ntmps58
  go_wp2_with fail
  refine (HBo.out _).mono ?_
  rintro e w1 ⟨rfl, hb⟩
  have B1 := Lib.hid (below_self B0.out hb)
  have L1 := Lib.hid (L0.out.below hb)
  clear hb B0 L0
  obtain ⟨k0, k1, k2, k3, k4⟩ := cells5 L1.out.1
  obtain ⟨j0, j1, j2, j3, j4⟩ := cells5 L1.out.2
  cases bo
  · replace E := Lib.hid (show r = (false, 40) from E.out)
    go_wp2_with fail
    rw [E.out]
    exact bodyPost_ret (v := .tuple #[.bool false, .int .i64 40]) (by simp [results, Try.results58, go_sem]) rfl ⟨rfl, B1.out⟩
  · by_cases h1 : a.kind = 1
    · replace E := Lib.hid (show r = (decide (a.int < b.int), 0) by rw [E.out, if_pos rfl, if_pos h1])
      rw [h1] at k0
      go_wp2_with fail
      rw [E.out]
      exact bodyPost_ret (v := .tuple #[.bool (decide (a.int < b.int)), .int .i64 0]) (by simp [results, Try.results58, go_sem]) rfl ⟨rfl, B1.out⟩
    · by_cases h3 : a.kind = 3
      · replace E := Lib.hid (show r = (Op.bytesLess a.text b.text, 0) by rw [E.out, if_pos rfl, if_neg h1, if_pos h3])
        rw [h3] at k0
        go_wp2_with fail
        rw [E.out]
        exact bodyPost_ret (v := .tuple #[.bool (Op.bytesLess a.text b.text), .int .i64 0]) (by simp [results, Try.results58, go_sem]) rfl ⟨rfl, B1.out⟩
      · by_cases h4 : a.kind = 4
        · replace E := Lib.hid (show r = (FloatKind.f64.format.order a.num b.num == some Ordering.lt, 0) by rw [E.out, if_pos rfl, if_neg h1, if_neg h3, if_pos h4])
          rw [h4] at k0
          go_wp2_with fail
          rw [E.out]
          exact bodyPost_ret (v := .tuple #[.bool (FloatKind.f64.format.order a.num b.num == some Ordering.lt), .int .i64 0]) (by simp [results, Try.results58, go_sem]) rfl ⟨rfl, B1.out⟩
        · replace E := Lib.hid (show r = (false, 40) by rw [E.out, if_pos rfl, if_neg h1, if_neg h3, if_neg h4])
          go_wp2_with fail
          rw [E.out]
          exact bodyPost_ret (v := .tuple #[.bool false, .int .i64 40]) (by simp [results, Try.results58, go_sem]) rfl ⟨rfl, B1.out⟩
end
/-- a value is stored -/
def set5 (w : World) (b : Nat) (v0 v1 v2 v3 v4 : Value) : World := (((((w).setCell ⟨b, 0, none⟩ v0).setCell ⟨b, 1, none⟩ v1).setCell ⟨b, 2, none⟩ v2).setCell ⟨b, 3, none⟩ v3).setCell ⟨b, 4, none⟩ v4
theorem set5_heap {w : World} {b : Nat} {t : TypeId} {u0 u1 u2 u3 u4 : Value} (v0 v1 v2 v3 v4 : Value) (h : w.heap[b]? = some (.cells #[u0, u1, u2, u3, u4] t (0, 0))) : (set5 w b v0 v1 v2 v3 v4).heap[b]? = some (.cells #[v0, v1, v2, v3, v4] t (0, 0)) := by
  have := (heap_set (heap_set (heap_set (heap_set (heap_set h 0 v0) 1 v1) 2 v2) 3 v3) 4 v4)
  unfold set5
  simpa only [List.setIfInBounds_toArray, List.set_cons_zero, List.set_cons_succ] using this
theorem set5_ext (w : World) (b : Nat) (v0 v1 v2 v3 v4 : Value) : Ext (fun k => k ≠ b) w (set5 w b v0 v1 v2 v3 v4) := ((((((Ext.refl _ _).trans (ext_set (fun e => e rfl) v0)).trans (ext_set (fun e => e rfl) v1)).trans (ext_set (fun e => e rfl) v2)).trans (ext_set (fun e => e rfl) v3)).trans (ext_set (fun e => e rfl) v4))
theorem frees5 {w : World} {b : Nat} {t : TypeId} {cs : Array Value} (h : w.heap[b]? = some (.cells cs t (0, 0))) : w.frozen? ⟨b, 0, none⟩ = false ∧ w.frozen? ⟨b, 1, none⟩ = false ∧ w.frozen? ⟨b, 2, none⟩ = false ∧ w.frozen? ⟨b, 3, none⟩ = false ∧ w.frozen? ⟨b, 4, none⟩ = false :=
  ⟨free_of h 0, free_of h 1, free_of h 2, free_of h 3, free_of h 4⟩
/-- three variables of a call's own -/
def Loc3 (N : Nat) (t : TypeId) (ca cb cr : Array Value) (W : World) : Prop := Loc1 N t ca W ∧ Loc1 (N + 1) t cb W ∧ Loc1 (N + 1 + 1) t cr W
theorem Loc3.below {N : Nat} {t : TypeId} {ca cb cr : Array Value} {W W' : World} (h : Loc3 N t ca cb cr W) (hb : Below W.heap.size W W') : Loc3 N t ca cb cr W' := ⟨h.1.below hb, h.2.1.below hb, h.2.2.below hb⟩
theorem Loc3.new (w : World) (t : TypeId) (ca cb cr : Array Value) : Loc3 w.heap.size t ca cb cr (((w.alloc (.cells ca t)).alloc (.cells cb t)).alloc (.cells cr t)) :=
  ⟨(Below.heap_alloc _ _ _ (by simp; omega)).trans ((Below.heap_alloc _ _ _ (by simp)).trans (heap_new _ _)), (Below.heap_alloc _ _ _ (by simp)).trans (by have := heap_new (w.alloc (.cells ca t)) (.cells cb t); rw [World.size_alloc] at this; exact this), by have := heap_new ((w.alloc (.cells ca t)).alloc (.cells cb t)) (.cells cr t); rw [World.size_alloc, World.size_alloc] at this; exact this⟩
theorem Below.three (w : World) (a b c : Obj) : Below w.heap.size w (((w.alloc a).alloc b).alloc c) := (((Below.refl _ _).alloc (Nat.le_refl _) _).alloc (by simp) _).alloc (by simp; omega) _
section
variable {w : World}
/-- what comes of two values -/
def reckV (op : Int) (a b : Val) : Val × Int :=
  if bothV a b = true ∧ a.kind = 4 then (numV (numsC op a.num b.num), 0)
  else if bothV a b = true ∧ a.kind = 1 then if (intsF op a.int b.int).2 = 0 then (intV (intsF op a.int b.int).1, 0) else (zeroV, (intsF op a.int b.int).2)
  else (zeroV, 40)
set_option maxHeartbeats 2000000 in
theorem reckon_c (op : Int) (hop : isR op) (a b : Val) : Calls Try.prog 59 #[.int .i64 op, .agg #[.int .i64 a.kind, .int .i64 a.int, .bool a.bool, .string ⟨a.text.toArray⟩, .float .f64 a.num], .agg #[.int .i64 b.kind, .int .i64 b.int, .bool b.bool, .string ⟨b.text.toArray⟩, .float .f64 b.num]] w (Ret w (.tuple #[.agg #[.int .i64 (reckV op a b).1.kind, .int .i64 (reckV op a b).1.int, .bool (reckV op a b).1.bool, .string ⟨(reckV op a b).1.text.toArray⟩, .float .f64 (reckV op a b).1.num], .int .i64 (reckV op a b).2])) := by
  have HBo := Lib.hid (fun W : World => both_c (w := W) a b)
  have E := Lib.hid (show reckV op a b = if bothV a b = true ∧ a.kind = 4 then (numV (numsC op a.num b.num), 0)
    else if bothV a b = true ∧ a.kind = 1 then if (intsF op a.int b.int).2 = 0 then (intV (intsF op a.int b.int).1, 0) else (zeroV, (intsF op a.int b.int).2)
    else (zeroV, 40) from rfl)
  have HI := Lib.hid (fun W : World => ints_c (w := W) op a.int b.int hop)
  have HN := Lib.hid (fun W : World => nums_c (w := W) op a.num b.num hop)
  generalize reckV op a b = r at *
  generalize bothV a b = bo at *
  generalize intsF op a.int b.int = p at *
  generalize numsC op a.num b.num = q at *
  have SF := store_f64
  have B0 := Lib.hid (show Below w.heap.size w (((w.alloc (.cells #[.int .i64 a.kind, .int .i64 a.int, .bool a.bool, .string ⟨a.text.toArray⟩, .float .f64 a.num] 25)).alloc (.cells #[.int .i64 b.kind, .int .i64 b.int, .bool b.bool, .string ⟨b.text.toArray⟩, .float .f64 b.num] 25)).alloc (.cells #[.int .i64 0, .int .i64 0, .bool false, .string ⟨#[]⟩, .float .f64 0] 25)) from Below.three _ _ _ _)
  have L0 := Lib.hid (show Loc3 w.heap.size 25 #[.int .i64 a.kind, .int .i64 a.int, .bool a.bool, .string ⟨a.text.toArray⟩, .float .f64 a.num] #[.int .i64 b.kind, .int .i64 b.int, .bool b.bool, .string ⟨b.text.toArray⟩, .float .f64 b.num] #[.int .i64 0, .int .i64 0, .bool false, .string ⟨#[]⟩, .float .f64 0] (((w.alloc (.cells #[.int .i64 a.kind, .int .i64 a.int, .bool a.bool, .string ⟨a.text.toArray⟩, .float .f64 a.num] 25)).alloc (.cells #[.int .i64 b.kind, .int .i64 b.int, .bool b.bool, .string ⟨b.text.toArray⟩, .float .f64 b.num] 25)).alloc (.cells #[.int .i64 0, .int .i64 0, .bool false, .string ⟨#[]⟩, .float .f64 0] 25)) from Loc3.new _ _ _ _ _)
  have hopB : op = 4 ∨ op = 5 ∨ op = 6 ∨ op = 7 ∨ op = 14 ∨ op = 15 := hop
  rcases hopB with rfl | rfl | rfl | rfl | rfl | rfl
  all_goals
    go_enter Try.func59, Try.ntmps59
    go_wp2_with fail
    refine (HBo.out _).mono ?_
    rintro e w1 ⟨rfl, hb⟩
    have B1 := Lib.hid (below_self B0.out hb)
    have L1 := Lib.hid (L0.out.below hb)
    clear hb B0 L0
    obtain ⟨k0, k1, k2, k3, k4⟩ := cells5 L1.out.1
    obtain ⟨j0, j1, j2, j3, j4⟩ := cells5 L1.out.2.1
    obtain ⟨m0, m1, m2, m3, m4⟩ := cells5 L1.out.2.2
    obtain ⟨u0, u1, u2, u3, u4⟩ := frees5 L1.out.2.2
    have hz := lt_of_heap L1.out.2.2
    by_cases h4 : bo = true ∧ a.kind = 4
    · replace E := Lib.hid (show r = (numV q, 0) by rw [E.out, if_pos h4])
      obtain ⟨rfl, h4⟩ := h4
      rw [h4] at k0
      go_wp2_with fail
      refine (HN.out _).mono ?_
      rintro e w2 ⟨x, rfl, hx, hb⟩
      have B2 := Lib.hid (below_self B1.out hb)
      have L2 := Lib.hid (L1.out.below hb)
      clear hb B1 L1
      have HX := Lib.hid hx
      clear hx
      clear k0 k1 k2 k3 k4 j0 j1 j2 j3 j4 m0 m1 m2 m3 m4 u0 u1 u2 u3 u4 hz
      obtain ⟨k0, k1, k2, k3, k4⟩ := cells5 L2.out.1
      obtain ⟨j0, j1, j2, j3, j4⟩ := cells5 L2.out.2.1
      obtain ⟨m0, m1, m2, m3, m4⟩ := cells5 L2.out.2.2
      obtain ⟨u0, u1, u2, u3, u4⟩ := frees5 L2.out.2.2
      have hz := lt_of_heap L2.out.2.2
      go_wp2_with fail
      refine (ofNum_c x).mono ?_
      rintro e w3 ⟨rfl, hb⟩
      have B3 := Lib.hid (below_self B2.out hb)
      have L3 := Lib.hid (L2.out.below hb)
      clear hb B2 L2
      rw [HX.out]
      clear k0 k1 k2 k3 k4 j0 j1 j2 j3 j4 m0 m1 m2 m3 m4 u0 u1 u2 u3 u4 hz
      obtain ⟨k0, k1, k2, k3, k4⟩ := cells5 L3.out.1
      obtain ⟨j0, j1, j2, j3, j4⟩ := cells5 L3.out.2.1
      obtain ⟨m0, m1, m2, m3, m4⟩ := cells5 L3.out.2.2
      obtain ⟨u0, u1, u2, u3, u4⟩ := frees5 L3.out.2.2
      have hz := lt_of_heap L3.out.2.2
      go_wp2_with fail
      have KH := set5_heap (.int .i64 4) (.int .i64 0) (.bool false) (.string ⟨#[]⟩) (.float .f64 q) L3.out.2.2
      have X5 := set5_ext w3 (w.heap.size + 1 + 1) (.int .i64 4) (.int .i64 0) (.bool false) (.string ⟨#[]⟩) (.float .f64 q)
      obtain ⟨q0, q1, q2, q3, q4⟩ := cells5 KH
      unfold set5 at q0 q1 q2 q3 q4 X5
      rw [E.out]
      exact bodyPost_ret (v := .tuple #[.agg #[.int .i64 4, .int .i64 0, .bool false, .string ⟨#[]⟩, .float .f64 q], .int .i64 0]) (by simp [results, Try.results59, go_sem, q0, q1, q2, q3, q4]) rfl ⟨rfl, B3.out.trans (below_of_ext_ne X5 (by omega) B3.out.size)⟩
    · replace E := Lib.hid (show r = if bo = true ∧ a.kind = 1 then if p.2 = 0 then (intV p.1, 0) else (zeroV, p.2) else (zeroV, 40) by rw [E.out, if_neg h4])
      obtain ⟨pn, pe⟩ := p
      simp only at *
      cases bo
      · replace E := Lib.hid (show r = (zeroV, 40) by rw [E.out]; simp)
        go_wp2_with fail
        refine (HBo.out _).mono ?_
        rintro e w2 ⟨rfl, hb⟩
        have B2 := Lib.hid (below_self B1.out hb)
        have L2 := Lib.hid (L1.out.below hb)
        clear hb B1 L1
        clear k0 k1 k2 k3 k4 j0 j1 j2 j3 j4 m0 m1 m2 m3 m4 u0 u1 u2 u3 u4 hz
        obtain ⟨k0, k1, k2, k3, k4⟩ := cells5 L2.out.1
        obtain ⟨j0, j1, j2, j3, j4⟩ := cells5 L2.out.2.1
        obtain ⟨m0, m1, m2, m3, m4⟩ := cells5 L2.out.2.2
        obtain ⟨u0, u1, u2, u3, u4⟩ := frees5 L2.out.2.2
        have hz := lt_of_heap L2.out.2.2
        go_wp2_with fail
        have KH := set5_heap (.int .i64 0) (.int .i64 0) (.bool false) (.string ⟨#[]⟩) (.float .f64 0) L2.out.2.2
        have X5 := set5_ext w2 (w.heap.size + 1 + 1) (.int .i64 0) (.int .i64 0) (.bool false) (.string ⟨#[]⟩) (.float .f64 0)
        obtain ⟨q0, q1, q2, q3, q4⟩ := cells5 KH
        unfold set5 at q0 q1 q2 q3 q4 X5
        rw [E.out]
        exact bodyPost_ret (v := .tuple #[.agg #[.int .i64 0, .int .i64 0, .bool false, .string ⟨#[]⟩, .float .f64 0], .int .i64 40]) (by simp [results, Try.results59, go_sem, q0, q1, q2, q3, q4]) rfl ⟨rfl, B2.out.trans (below_of_ext_ne X5 (by omega) B2.out.size)⟩
      · have h4' : ¬ a.kind = 4 := fun h => h4 ⟨rfl, h⟩
        clear h4
        go_wp2_with fail
        refine (HBo.out _).mono ?_
        rintro e w2 ⟨rfl, hb⟩
        have B2 := Lib.hid (below_self B1.out hb)
        have L2 := Lib.hid (L1.out.below hb)
        clear hb B1 L1
        clear k0 k1 k2 k3 k4 j0 j1 j2 j3 j4 m0 m1 m2 m3 m4 u0 u1 u2 u3 u4 hz
        obtain ⟨k0, k1, k2, k3, k4⟩ := cells5 L2.out.1
        obtain ⟨j0, j1, j2, j3, j4⟩ := cells5 L2.out.2.1
        obtain ⟨m0, m1, m2, m3, m4⟩ := cells5 L2.out.2.2
        obtain ⟨u0, u1, u2, u3, u4⟩ := frees5 L2.out.2.2
        have hz := lt_of_heap L2.out.2.2
        by_cases h1 : a.kind = 1
        · replace E := Lib.hid (show r = if pe = 0 then (intV pn, 0) else (zeroV, pe) by rw [E.out]; simp [h1])
          rw [h1] at k0
          go_wp2_with fail
          refine (HI.out _).mono ?_
          rintro e w3 ⟨rfl, hb⟩
          have B3 := Lib.hid (below_self B2.out hb)
          have L3 := Lib.hid (L2.out.below hb)
          clear hb B2 L2
          clear k0 k1 k2 k3 k4 j0 j1 j2 j3 j4 m0 m1 m2 m3 m4 u0 u1 u2 u3 u4 hz
          obtain ⟨k0, k1, k2, k3, k4⟩ := cells5 L3.out.1
          obtain ⟨j0, j1, j2, j3, j4⟩ := cells5 L3.out.2.1
          obtain ⟨m0, m1, m2, m3, m4⟩ := cells5 L3.out.2.2
          obtain ⟨u0, u1, u2, u3, u4⟩ := frees5 L3.out.2.2
          have hz := lt_of_heap L3.out.2.2
          by_cases he : pe = 0
          · subst he
            replace E := Lib.hid (show r = (intV pn, 0) by rw [E.out, if_pos rfl])
            go_wp2_with fail
            refine (ofInt_c pn).mono ?_
            rintro e w4 ⟨rfl, hb⟩
            have B4 := Lib.hid (below_self B3.out hb)
            have L4 := Lib.hid (L3.out.below hb)
            clear hb B3 L3
            clear k0 k1 k2 k3 k4 j0 j1 j2 j3 j4 m0 m1 m2 m3 m4 u0 u1 u2 u3 u4 hz
            obtain ⟨k0, k1, k2, k3, k4⟩ := cells5 L4.out.1
            obtain ⟨j0, j1, j2, j3, j4⟩ := cells5 L4.out.2.1
            obtain ⟨m0, m1, m2, m3, m4⟩ := cells5 L4.out.2.2
            obtain ⟨u0, u1, u2, u3, u4⟩ := frees5 L4.out.2.2
            have hz := lt_of_heap L4.out.2.2
            go_wp2_with fail
            have KH := set5_heap (.int .i64 1) (.int .i64 pn) (.bool false) (.string ⟨#[]⟩) (.float .f64 0) L4.out.2.2
            have X5 := set5_ext w4 (w.heap.size + 1 + 1) (.int .i64 1) (.int .i64 pn) (.bool false) (.string ⟨#[]⟩) (.float .f64 0)
            obtain ⟨q0, q1, q2, q3, q4⟩ := cells5 KH
            unfold set5 at q0 q1 q2 q3 q4 X5
            rw [E.out]
            exact bodyPost_ret (v := .tuple #[.agg #[.int .i64 1, .int .i64 pn, .bool false, .string ⟨#[]⟩, .float .f64 0], .int .i64 0]) (by simp [results, Try.results59, go_sem, q0, q1, q2, q3, q4]) rfl ⟨rfl, B4.out.trans (below_of_ext_ne X5 (by omega) B4.out.size)⟩
          · replace E := Lib.hid (show r = (zeroV, pe) by rw [E.out, if_neg he])
            have he' : (pe == 0) = false := by simpa using he
            go_wp2_with fail
            have KH := set5_heap (.int .i64 0) (.int .i64 0) (.bool false) (.string ⟨#[]⟩) (.float .f64 0) L3.out.2.2
            have X5 := set5_ext w3 (w.heap.size + 1 + 1) (.int .i64 0) (.int .i64 0) (.bool false) (.string ⟨#[]⟩) (.float .f64 0)
            obtain ⟨q0, q1, q2, q3, q4⟩ := cells5 KH
            unfold set5 at q0 q1 q2 q3 q4 X5
            rw [E.out]
            exact bodyPost_ret (v := .tuple #[.agg #[.int .i64 0, .int .i64 0, .bool false, .string ⟨#[]⟩, .float .f64 0], .int .i64 pe]) (by simp [results, Try.results59, go_sem, q0, q1, q2, q3, q4]) rfl ⟨rfl, B3.out.trans (below_of_ext_ne X5 (by omega) B3.out.size)⟩
        · replace E := Lib.hid (show r = (zeroV, 40) by rw [E.out]; simp [h1])
          go_wp2_with fail
          have KH := set5_heap (.int .i64 0) (.int .i64 0) (.bool false) (.string ⟨#[]⟩) (.float .f64 0) L2.out.2.2
          have X5 := set5_ext w2 (w.heap.size + 1 + 1) (.int .i64 0) (.int .i64 0) (.bool false) (.string ⟨#[]⟩) (.float .f64 0)
          obtain ⟨q0, q1, q2, q3, q4⟩ := cells5 KH
          unfold set5 at q0 q1 q2 q3 q4 X5
          rw [E.out]
          exact bodyPost_ret (v := .tuple #[.agg #[.int .i64 0, .int .i64 0, .bool false, .string ⟨#[]⟩, .float .f64 0], .int .i64 40]) (by simp [results, Try.results59, go_sem, q0, q1, q2, q3, q4]) rfl ⟨rfl, B2.out.trans (below_of_ext_ne X5 (by omega) B2.out.size)⟩
end
end Go.Proofs.Ytijlamajcdekkaa
