/- One act in both timers, and whether they are the same. -/
import Derived.Test.YtndebobkmemdaaaA
namespace Go.Proofs.Ytndebobkmemdaaa
open Go.RowKit
set_option linter.unusedVariables false

structure Kept2 (bt bu : Nat) (w w' : World) : Prop where
  os : w'.os = w.os
  tape : w'.tape = w.tape
  output : w'.output = w.output
  size : w.heap.size ≤ w'.heap.size
  block : ∀ k, k < w.heap.size → k ≠ bt → k ≠ bu → w'.heap[k]? = w.heap[k]?
theorem Kept2.refl (bt bu : Nat) (w : World) : Kept2 bt bu w w := ⟨rfl, rfl, rfl, Nat.le_refl _, fun _ _ _ _ => rfl⟩
theorem Kept2.trans {bt bu : Nat} {a b c : World} (h : Kept2 bt bu a b) (k : Kept2 bt bu b c) : Kept2 bt bu a c :=
  ⟨k.os.trans h.os, k.tape.trans h.tape, k.output.trans h.output, Nat.le_trans h.size k.size, fun i hi h1 h2 => (k.block i (Nat.lt_of_lt_of_le hi h.size) h1 h2).trans (h.block i hi h1 h2)⟩
theorem Kept2.alloc {bt bu : Nat} {a w : World} (h : Kept2 bt bu a w) (o : Obj) : Kept2 bt bu a (w.alloc o) :=
  h.trans ⟨rfl, rfl, rfl, by simp, fun k hk _ _ => Below.heap_alloc _ _ _ hk⟩
theorem Kept2.drewN {bt bu : Nat} {a w : World} (h : Kept2 bt bu a w) (n : Nat) : Kept2 bt bu a (w.drewN n) := ⟨h.os, h.tape, h.output, h.size, h.block⟩
theorem Kept2.drew {bt bu : Nat} {a w : World} (h : Kept2 bt bu a w) : Kept2 bt bu a w.drew := ⟨h.os, h.tape, h.output, h.size, h.block⟩
theorem Kept2.grownT {bt bu : Nat} {a w w' : World} (h : Kept2 bt bu a w) (g : w.grownBy w' (some bt)) : Kept2 bt bu a w' :=
  h.trans ⟨g.os, g.tape, g.output, g.size, fun k hk h1 _ => g.block k hk (by simpa using h1)⟩
theorem Kept2.grownU {bt bu : Nat} {a w w' : World} (h : Kept2 bt bu a w) (g : w.grownBy w' (some bu)) : Kept2 bt bu a w' :=
  h.trans ⟨g.os, g.tape, g.output, g.size, fun k hk _ h2 => g.block k hk (by simpa using h2)⟩
theorem lt_of_heap {w : World} {b : Nat} {o : Obj} (h : w.heap[b]? = some o) : b < w.heap.size := (Array.getElem?_eq_some_iff.1 h).1

/-- both timers, at their blocks -/
def At2 (bt bu : Nat) (x l : Int) (w : World) : Prop := bt ≠ bu ∧ w.heap[bt]? = some (.cells (tc x l) 40 (0, 0)) ∧ w.heap[bu]? = some (.cells (uc x l) 43 (0, 0))
def Two (bt bu : Nat) (x l : Int) (w w' : World) : Prop := At2 bt bu x l w' ∧ Kept2 bt bu w w'
theorem At2.alloc {bt bu : Nat} {x l : Int} {w : World} (h : At2 bt bu x l w) (o : Obj) : At2 bt bu x l (w.alloc o) :=
  ⟨h.1, (Below.heap_alloc _ _ _ (lt_of_heap h.2.1)).trans h.2.1, (Below.heap_alloc _ _ _ (lt_of_heap h.2.2)).trans h.2.2⟩
theorem At2.drew {bt bu : Nat} {x l : Int} {w : World} (h : At2 bt bu x l w) : At2 bt bu x l w.drew := h
/-- first the one, then the other -/
theorem two_put {bt bu : Nat} {x l x' l' : Int} {w w1 w2 : World} (h : At2 bt bu x l w) (p : Put bt 40 (tc x' l') w w1) (q : Put bu 43 (uc x' l') w1 w2) : Two bt bu x' l' w w2 := by
  obtain ⟨hne, ht, hu⟩ := h
  refine ⟨⟨hne, (q.2.block bt (lt_of_heap p.1) (by simpa using hne)).trans p.1, q.1⟩, ((Kept2.refl bt bu w).grownT p.2).grownU q.2⟩
theorem put_other {bt bu : Nat} {x l x' l' : Int} {w w1 : World} (h : At2 bt bu x l w) (p : Put bt 40 (tc x' l') w w1) : w1.heap[bu]? = some (.cells (uc x l) 43 (0, 0)) :=
  (p.2.block bu (lt_of_heap h.2.2) (by simpa using (Ne.symm h.1))).trans h.2.2

def Inv (x l : Int) : Prop := 0 ≤ x ∧ x ≤ 8 ∧ 0 ≤ l ∧ l ≤ 8 ∧ l ≤ 8 * x
def stepX (x l k d : Int) : Int := if k = 3 then minI x 1 else if k = 4 then tickX x l d else x
def stepL (x l k d : Int) : Int := if k = 0 then startL x l else if k = 1 then 0 else if k = 2 then x else if k = 4 then tickL l d else l
theorem inv_step {x l : Int} (k d : Int) (h : Inv x l) : Inv (stepX x l k d) (stepL x l k d) := by
  obtain ⟨h1, h2, h3, h4, h5⟩ := h
  have m1 : 0 ≤ minI x 1 ∧ minI x 1 ≤ x ∧ minI x 1 ≤ 1 ∧ (0 < x → minI x 1 = 1) := by unfold minI; split <;> omega
  have m2 : 0 ≤ minI (2 * x) 8 ∧ minI (2 * x) 8 ≤ 8 := by unfold minI; split <;> omega
  unfold Inv stepX stepL
  by_cases k0 : k = 0
  · subst k0; simp; unfold startL; split <;> omega
  by_cases k1 : k = 1
  · subst k1; simp; omega
  by_cases k2 : k = 2
  · subst k2; simp; omega
  by_cases k3 : k = 3
  · subst k3; simp; omega
  by_cases k4 : k = 4
  · subst k4
    simp
    unfold tickX tickL
    by_cases f : fires l d = true
    · simp [f]; omega
    · simp only [f]
      simp
      split
      · rename_i hp
        have : ¬ (l ≤ d) := by
          intro hl
          apply f
          simp [fires, hp.1, hp.2, hl]
        omega
      · omega
  · simp [k0, k1, k2, k3, k4]; omega

theorem fin_two {bt bu : Nat} {x l x' l' : Int} {w w0 w1 w2 : World} (A : At2 bt bu x l w0) (K : Kept2 bt bu w w0) (p : Put bt 40 (tc x' l') w0 w1) (q : Put bu 43 (uc x' l') w1 w2) : Two bt bu x' l' w w2 :=
  ⟨(two_put A p q).1, K.trans (two_put A p q).2⟩
theorem quiet_left {P : Program} {f : FuncId} {args : Array Value} {w : World} {n : Nat} {v : Value}
    (h : Calls P f args (w.drewN n) fun e w' => e = .returned v ∧ w.drewN n = w') : Calls P f args (w.drewN n) fun e w'' => e = .returned v ∧ ∃ m, w'' = w.drewN m :=
  h.mono fun _ _ ⟨he, hm⟩ => ⟨he, n, hm.symm⟩
section
variable (bt bu : Nat) (x l : Int) (w : World)

theorem step_any (k d : Int) (h : At2 bt bu x l w) (hi : Inv x l) :
    Calls Try.prog 11 #[.pointer (some ⟨bt, 0, none⟩), .pointer (some ⟨bu, 0, none⟩), .agg #[.int .i64 k, .int .i64 d]] w fun e w' => e = .returned (.bool true) ∧ Two bt bu (stepX x l k d) (stepL x l k d) w w' := by
  obtain ⟨h1, h2, h3, h4, h5⟩ := hi
  have A := Lib.hid (h.alloc (.cells #[.int .i64 k, .int .i64 d] 29))
  have K0 := Lib.hid ((Kept2.refl bt bu w).alloc (.cells #[.int .i64 k, .int .i64 d] 29))
  have hbt := lt_of_heap h.2.1
  have hbu := lt_of_heap h.2.2
  clear h
  by_cases k0 : k = 0
  · have e : stepX x l k d = x ∧ stepL x l k d = startL x l := by simp [stepX, stepL, k0]
    rw [e.1, e.2]; clear e
    subst k0
    go_enter Try.func11, Try.ntmps11
    go_wp2_with (first
      | (go_at_call 20; refine (start_t bt x l _ A.out.2.1).mono ?_; rintro e w' ⟨rfl, hp⟩; have HP := Lib.hid hp; clear hp)
      | (go_at_call 21; refine (start_u bu x l _ (put_other A.out HP.out) h1 h5 h3).mono ?_; rintro e w'' ⟨rfl, hp⟩; have HQ := Lib.hid hp; clear hp))
    go_ret
    exact ⟨rfl, fin_two A.out K0.out HP.out HQ.out⟩
  by_cases k1 : k = 1
  · have e : stepX x l k d = x ∧ stepL x l k d = 0 := by simp [stepX, stepL, k1]
    rw [e.1, e.2]; clear e
    subst k1
    go_enter Try.func11, Try.ntmps11
    go_wp2_with (first
      | (go_at_call 22; refine (stop_t bt x l _ A.out.2.1).mono ?_; rintro e w' ⟨rfl, hp⟩; have HP := Lib.hid hp; clear hp)
      | (go_at_call 23; refine (stop_u bu x l _ (put_other A.out HP.out) ).mono ?_; rintro e w'' ⟨rfl, hp⟩; have HQ := Lib.hid hp; clear hp))
    go_ret
    exact ⟨rfl, fin_two A.out K0.out HP.out HQ.out⟩
  by_cases k2 : k = 2
  · have e : stepX x l k d = x ∧ stepL x l k d = x := by simp [stepX, stepL, k2]
    rw [e.1, e.2]; clear e
    subst k2
    go_enter Try.func11, Try.ntmps11
    go_wp2_with (first
      | (go_at_call 19; refine (again_t bt x l _ A.out.2.1).mono ?_; rintro e w' ⟨rfl, hp⟩; have HP := Lib.hid hp; clear hp)
      | (go_at_call 24; refine (again_u bu x l _ (put_other A.out HP.out) h1 h5 h3).mono ?_; rintro e w'' ⟨rfl, hp⟩; have HQ := Lib.hid hp; clear hp))
    go_ret
    exact ⟨rfl, fin_two A.out K0.out HP.out HQ.out⟩
  by_cases k3 : k = 3
  · have e : stepX x l k d = minI x 1 ∧ stepL x l k d = l := by simp [stepX, stepL, k3]
    rw [e.1, e.2]; clear e
    subst k3
    go_enter Try.func11, Try.ntmps11
    go_wp2_with (first
      | (go_at_call 25; refine (reset_t bt x l _ A.out.2.1).mono ?_; rintro e w' ⟨rfl, hp⟩; have HP := Lib.hid hp; clear hp)
      | (go_at_call 26; refine (reset_u bu x l _ (put_other A.out HP.out) h1).mono ?_; rintro e w'' ⟨rfl, hp⟩; have HQ := Lib.hid hp; clear hp))
    go_ret
    exact ⟨rfl, fin_two A.out K0.out HP.out HQ.out⟩
  by_cases k4 : k = 4
  · have e : stepX x l k d = tickX x l d ∧ stepL x l k d = tickL l d := by simp [stepX, stepL, k4]
    rw [e.1, e.2]; clear e
    subst k4
    have C0 := Lib.hid (show (w.alloc (.cells #[.int .i64 4, .int .i64 d] 29)).drew.cell? ⟨w.heap.size, 1, none⟩ = some (.int .i64 d) by simp)
    have hz : w.heap.size < (w.alloc (.cells #[.int .i64 4, .int .i64 d] 29)).drew.heap.size := by simp
    go_enter Try.func11, Try.ntmps11
    go_wp2
    go_region_held3 (fun w' => w'.cell? ⟨w.heap.size, 1, none⟩ = some (.int .i64 d)) (first | exact C0.out | assumption)
      (first
      | (go_at_call 17; refine (tick_t bt x l _ _ (by exact A.out.2.1) h1 h2 h3 h4).mono ?_; rintro e w' ⟨rfl, hp⟩; have HC : w'.cell? ⟨w.heap.size, 1, none⟩ = some (.int .i64 d) := hp.2.cell C0.out (by simp; omega); have hz2 := Nat.lt_of_lt_of_le hz hp.2.size; have HP := Lib.hid hp; clear hp)
      | (go_at_call 27; refine (tick_u bu x l _ _ (by exact put_other (At2.drew A.out) HP.out) h1 h2 h3 h4).mono ?_; rintro e w'' ⟨rfl, hp⟩; have HD : w''.cell? ⟨w.heap.size, 1, none⟩ = some (.int .i64 d) := hp.2.cell HC (by simp; omega); have HQ := Lib.hid hp; clear hp))
    go_wp2
    go_ret
    exact ⟨rfl, fin_two (At2.drew A.out) K0.out.drew HP.out HQ.out⟩
  · have e : stepX x l k d = x ∧ stepL x l k d = l := by simp [stepX, stepL, k0, k1, k2, k3, k4]
    rw [e.1, e.2]; clear e
    go_enter Try.func11, Try.ntmps11
    go_wp2
    go_ret
    exact ⟨rfl, A.out, K0.out⟩
theorem same_any (h : At2 bt bu x l w) :
    Calls Try.prog 12 #[.pointer (some ⟨bt, 0, none⟩), .pointer (some ⟨bu, 0, none⟩)] w fun e w' => e = .returned (.bool true) ∧ ∃ n, w' = w.drewN n := by
  have u0 : w.cell? ⟨bu, 0, none⟩ = some (.int .i64 x) := cell_of h.2.2 0
  have u1 : w.cell? ⟨bu, 1, none⟩ = some (.int .i64 l) := cell_of h.2.2 1
  have u2 : w.cell? ⟨bu, 2, none⟩ = some (.bool (pos l)) := cell_of h.2.2 2
  have A := Lib.hid h
  clear h
  go_enter Try.func12, Try.ntmps12
  go_wp2
  go_quiet ((first
      | (go_at_call 18; exact quiet_left (wait_t bt x l _ (by exact A.out.2.1)))
      | (go_at_call 15; exact quiet_left (left_t bt x l _ (by exact A.out.2.1)))
      | (go_at_call 16; exact quiet_left (runs_t bt x l _ (by exact A.out.2.1)))))
  go_wp2
  go_ret
  exact ⟨rfl, _, rfl⟩
theorem new_t : Calls Try.prog 9 #[] w fun e w' => e = .returned (.pointer (some ⟨w.heap.size, 0, none⟩)) ∧ w' = w.alloc (.cells (tc 1 0) 40) := by
  go_enter Try.func9, Try.ntmps9
  go_wp2
  go_ret
  exact ⟨rfl, rfl⟩
theorem new_u : Calls Try.prog 10 #[] w fun e w' => e = .returned (.pointer (some ⟨w.heap.size, 0, none⟩)) ∧ w' = w.alloc (.cells (uc 1 0) 43) := by
  go_enter Try.func10, Try.ntmps10
  go_wp2
  go_ret
  exact ⟨rfl, rfl⟩
end
theorem below_put {B b : Nat} {t : TypeId} {cs : Array Value} {a w w' : World} (h : Below B a w) (p : Put b t cs w w') (hB : B ≤ b) (hs : B ≤ w.heap.size) : Below B a w' :=
  h.grown p.2 hs (fun k hk => by injection hk; omega)
theorem heap_new (w : World) (cs : Array Value) (t : TypeId) : (w.alloc (.cells cs t)).heap[w.heap.size]? = some (.cells cs t (0, 0)) := by
  show (w.heap.push _)[w.heap.size]? = _
  simp
/-- the examples -/
theorem awake_true (w : World) : Calls Try.prog 13 #[] w fun e w' => e = .returned (.bool true) ∧ Below w.heap.size w w' := by
  have f1 : fires 1 1 = true := by decide
  have f2 : fires 2 1 = false := by decide
  have e1 : startL 1 0 = 1 := by decide
  have e2 : tickX 1 1 1 = 2 ∧ tickL 1 1 = 0 := by decide
  have e3 : startL 2 0 = 2 := by decide
  have e4 : tickX 2 2 1 = 2 ∧ tickL 2 1 = 1 := by decide
  have e5 : tickX 2 1 1 = 4 ∧ tickL 1 1 = 0 := by decide
  go_enter Try.func13, Try.ntmps13
  go_wp2_with fail
  refine (new_t w).mono ?_
  rintro e w1 ⟨rfl, hw1⟩
  have B1 : Below w.heap.size w w1 := by rw [hw1]; exact (Below.refl _ _).alloc (Nat.le_refl _) _
  have z1 : w.heap.size < w1.heap.size := by rw [hw1]; simp
  have p1 : w1.heap[w.heap.size]? = some (.cells (tc 1 0) 40 (0, 0)) := by rw [hw1]; exact heap_new _ _ _
  clear hw1
  generalize hb : w.heap.size = b at *
  have Hb := Lib.hid hb
  clear hb
  have P1 := Lib.hid p1; clear p1
  go_wp2_with fail
  refine (start_t b 1 0 _ P1.out).mono ?_
  rintro e w2 ⟨rfl, p2⟩
  rw [e1] at p2
  have P2 := Lib.hid p2; clear p2
  go_wp2_with fail
  refine (tick_t b 1 1 _ 1 P2.out.1 (by omega) (by omega) (by omega) (by omega)).mono ?_
  rintro e w3 ⟨rfl, p3⟩
  rw [e2.1, e2.2] at p3
  rw [f1]
  have P3 := Lib.hid p3; clear p3
  go_wp2_with fail
  refine (wait_t b 2 0 _ P3.out.1).mono ?_
  rintro e w' ⟨rfl, rfl⟩
  go_wp2_with fail
  refine (start_t b 2 0 _ P3.out.1).mono ?_
  rintro e w4 ⟨rfl, p4⟩
  rw [e3] at p4
  have P4 := Lib.hid p4; clear p4
  go_wp2_with fail
  refine (tick_t b 2 2 _ 1 P4.out.1 (by omega) (by omega) (by omega) (by omega)).mono ?_
  rintro e w5 ⟨rfl, p5⟩
  rw [e4.1, e4.2] at p5
  rw [f2]
  have P5 := Lib.hid p5; clear p5
  go_wp2_with fail
  refine (tick_t b 2 1 _ 1 P5.out.1 (by omega) (by omega) (by omega) (by omega)).mono ?_
  rintro e w6 ⟨rfl, p6⟩
  rw [e5.1, e5.2] at p6
  rw [f1]
  have P6 := Lib.hid p6; clear p6
  go_wp2_with (go_at_call 18; refine (wait_t b 4 0 _ P6.out.1).mono ?_; rintro e w' ⟨rfl, rfl⟩)
  go_ret
  refine ⟨rfl, ?_⟩
  rw [Hb.out]
  have s1 := B1.size
  have s2 := P2.out.2.size
  have s3 := P3.out.2.size
  have s4 := P4.out.2.size
  have s5 := P5.out.2.size
  exact below_put (below_put (below_put (below_put (below_put B1 P2.out (Nat.le_refl _) (by omega)) P3.out (Nat.le_refl _) (by omega)) P4.out (Nat.le_refl _) (by omega)) P5.out (Nat.le_refl _) (by omega)) P6.out (Nat.le_refl _) (by omega)
end Go.Proofs.Ytndebobkmemdaaa
