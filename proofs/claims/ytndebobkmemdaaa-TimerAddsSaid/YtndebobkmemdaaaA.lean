/- The timers' methods, walked: what each leaves of a timer. -/
import Derived.Test.YtndebobkmemdaaaProg
import Derived.WalkKit
import Derived.WalkSpells
import Derived.WalkLawsBesides
import Derived.Handy
import Derived.BigRegion
import Derived.Deep.RegionHeld3
import Derived.Deep.QuietTactic
import Derived.BigQuiet
import Derived.Lib.Hide
namespace Go.Proofs.Ytndebobkmemdaaa
open Go.RowKit
set_option linter.unusedVariables false

/-- block b of w' holds these cells; all other blocks that w has are as they were -/
def Put (b : Nat) (t : TypeId) (cs : Array Value) (w w' : World) : Prop := w'.heap[b]? = some (.cells cs t (0, 0)) ∧ w.grownBy w' (some b)

theorem heap_set {w : World} {b : Nat} {cs : Array Value} {t : TypeId} (h : w.heap[b]? = some (.cells cs t (0, 0))) (i : Nat) (v : Value) :
    (w.setCell ⟨b, i, none⟩ v).heap[b]? = some (.cells (cs.setIfInBounds i v) t (0, 0)) := by
  show (w.heap.modify b _)[b]? = _
  rw [Array.getElem?_modify, if_pos rfl, h]
  rfl
theorem grown_set {w w' : World} {b : Nat} (h : w.grownBy w' (some b)) (i : Nat) (v : Value) : w.grownBy (w'.setCell ⟨b, i, none⟩ v) (some b) :=
  ⟨h.os, h.tape, h.output, by simpa using h.size, fun k hk hne => (Below.heap_setCell _ _ _ _ (fun e => hne (by rw [e]))).trans (h.block k hk hne)⟩
theorem grown_refl (w : World) (b : Nat) : w.grownBy w (some b) := ⟨rfl, rfl, rfl, Nat.le_refl _, fun _ _ _ => rfl⟩
theorem grown_drew {w w' : World} {b : Nat} (h : w.grownBy w' (some b)) : w.grownBy w'.drew (some b) := ⟨h.os, h.tape, h.output, h.size, h.block⟩
theorem put_refl {w : World} {b : Nat} {cs : Array Value} {t : TypeId} (h : w.heap[b]? = some (.cells cs t (0, 0))) : Put b t cs w w := ⟨h, grown_refl w b⟩
theorem put_set {w w' : World} {b : Nat} {cs : Array Value} {t : TypeId} (h : Put b t cs w w') (i : Nat) (v : Value) : Put b t (cs.setIfInBounds i v) w (w'.setCell ⟨b, i, none⟩ v) :=
  ⟨heap_set h.1 i v, grown_set h.2 i v⟩
theorem put_drew {w w' : World} {b : Nat} {cs : Array Value} {t : TypeId} (h : Put b t cs w w') : Put b t cs w w'.drew := ⟨h.1, grown_drew h.2⟩
theorem cell_of {w : World} {b : Nat} {cs : Array Value} {t : TypeId} (h : w.heap[b]? = some (.cells cs t (0, 0))) (i : Nat) : w.cell? ⟨b, i, none⟩ = cs[i]? := by simp [World.cell?, h]
theorem free_of {w : World} {b : Nat} {cs : Array Value} {t : TypeId} (h : w.heap[b]? = some (.cells cs t (0, 0))) (i : Nat) : w.frozen? ⟨b, i, none⟩ = false := by simp [World.frozen?, h]

/-- a timer of the program, a timer of the document -/
abbrev tc (x l : Int) : Array Value := #[.int .i64 x, .int .i64 l]
def pos (l : Int) : Bool := decide (0 < l)
abbrev uc (x l : Int) : Array Value := #[.int .i64 x, .int .i64 l, .bool (pos l)]
def minI (a b : Int) : Int := if b < a then b else a
/-- what Start, Tick leave -/
def startL (x l : Int) : Int := if pos l = true then l else x
def fires (l d : Int) : Bool := pos l && decide (1 ≤ d) && decide (l ≤ d)
def tickX (x l d : Int) : Int := if fires l d = true then minI (2 * x) 8 else x
def tickL (l d : Int) : Int := if fires l d = true then 0 else if pos l = true ∧ 1 ≤ d then l - d else l

section
variable (b : Nat) (x l : Int) (w : World)

theorem left_t (h : w.heap[b]? = some (.cells (tc x l) 40 (0, 0))) :
    Calls Try.prog 15 #[.pointer (some ⟨b, 0, none⟩)] w fun e w' => e = .returned (.int .i64 l) ∧ w = w' := by
  have h0 : w.cell? ⟨b, 0, none⟩ = some (.int .i64 x) := cell_of h 0
  have h1 : w.cell? ⟨b, 1, none⟩ = some (.int .i64 l) := cell_of h 1
  clear h
  go_enter Try.func15, Try.ntmps15
  go_wp2
  go_ret
  exact ⟨rfl, rfl⟩
theorem wait_t (h : w.heap[b]? = some (.cells (tc x l) 40 (0, 0))) :
    Calls Try.prog 18 #[.pointer (some ⟨b, 0, none⟩)] w fun e w' => e = .returned (.int .i64 x) ∧ w = w' := by
  have h0 : w.cell? ⟨b, 0, none⟩ = some (.int .i64 x) := cell_of h 0
  have h1 : w.cell? ⟨b, 1, none⟩ = some (.int .i64 l) := cell_of h 1
  clear h
  go_enter Try.func18, Try.ntmps18
  go_wp2
  go_ret
  exact ⟨rfl, rfl⟩
theorem runs_t (h : w.heap[b]? = some (.cells (tc x l) 40 (0, 0))) :
    Calls Try.prog 16 #[.pointer (some ⟨b, 0, none⟩)] w fun e w' => e = .returned (.bool (pos l)) ∧ w = w' := by
  have h0 : w.cell? ⟨b, 0, none⟩ = some (.int .i64 x) := cell_of h 0
  have h1 : w.cell? ⟨b, 1, none⟩ = some (.int .i64 l) := cell_of h 1
  clear h
  unfold pos
  go_enter Try.func16, Try.ntmps16
  go_wp2
  go_ret
  exact ⟨rfl, rfl⟩
theorem stop_t (h : w.heap[b]? = some (.cells (tc x l) 40 (0, 0))) :
    Calls Try.prog 22 #[.pointer (some ⟨b, 0, none⟩)] w fun e w' => e = .returned (.tuple #[]) ∧ Put b 40 (tc x 0) w w' := by
  have h1 : w.cell? ⟨b, 1, none⟩ = some (.int .i64 l) := cell_of h 1
  have f1 : w.frozen? ⟨b, 1, none⟩ = false := free_of h 1
  have H := put_set (put_refl h) 1 (.int .i64 0)
  have H' := Lib.hid H; clear H h
  go_enter Try.func22, Try.ntmps22
  go_wp2
  go_end0
  exact ⟨rfl, H'.out⟩
theorem again_t (h : w.heap[b]? = some (.cells (tc x l) 40 (0, 0))) :
    Calls Try.prog 19 #[.pointer (some ⟨b, 0, none⟩)] w fun e w' => e = .returned (.tuple #[]) ∧ Put b 40 (tc x x) w w' := by
  have h0 : w.cell? ⟨b, 0, none⟩ = some (.int .i64 x) := cell_of h 0
  have h1 : w.cell? ⟨b, 1, none⟩ = some (.int .i64 l) := cell_of h 1
  have f1 : w.frozen? ⟨b, 1, none⟩ = false := free_of h 1
  have H := put_drew (put_set (put_refl h) 1 (.int .i64 x))
  have H' := Lib.hid H; clear H h
  go_enter Try.func19, Try.ntmps19
  go_wp2
  go_region
  all_goals (go_wp2; go_end0; exact ⟨rfl, H'.out⟩)
theorem start_t (h : w.heap[b]? = some (.cells (tc x l) 40 (0, 0))) :
    Calls Try.prog 20 #[.pointer (some ⟨b, 0, none⟩)] w fun e w' => e = .returned (.tuple #[]) ∧ Put b 40 (tc x (startL x l)) w w' := by
  have r := runs_t b x l w h
  have ag := again_t b x l w h
  have H := Lib.hid h
  clear h
  cases hl : pos l
  · have e : startL x l = x := by simp [startL, hl]
    rw [e]; clear e
    go_enter Try.func20, Try.ntmps20
    go_wp2_with (first | (go_at_call 16; refine r.mono ?_; rintro e w' ⟨rfl, rfl⟩) | (go_at_call 19; refine ag.mono ?_; rintro e w' ⟨rfl, hp⟩; have HP := Lib.hid hp; clear hp))
    go_end0
    exact ⟨rfl, HP.out⟩
  · have e : startL x l = l := by simp [startL, hl]
    rw [e]; clear e
    go_enter Try.func20, Try.ntmps20
    go_wp2_with (go_at_call 16; refine r.mono ?_; rintro e w' ⟨rfl, rfl⟩)
    go_end0
    exact ⟨rfl, put_refl H.out⟩
theorem reset_t (h : w.heap[b]? = some (.cells (tc x l) 40 (0, 0))) :
    Calls Try.prog 25 #[.pointer (some ⟨b, 0, none⟩)] w fun e w' => e = .returned (.tuple #[]) ∧ Put b 40 (tc (minI x 1) l) w w' := by
  have h0 : w.cell? ⟨b, 0, none⟩ = some (.int .i64 x) := cell_of h 0
  have h1 : w.cell? ⟨b, 1, none⟩ = some (.int .i64 l) := cell_of h 1
  have f0 : w.frozen? ⟨b, 0, none⟩ = false := free_of h 0
  have H := put_drew (put_set (put_refl h) 0 (.int .i64 (minI x 1)))
  clear h
  by_cases hm : 1 < x
  · have e : minI x 1 = 1 := by simp [minI, hm]
    rw [e] at H ⊢; clear e
    have H' := Lib.hid H; clear H
    go_enter Try.func25, Try.ntmps25
    go_wp2
    go_region
    all_goals (go_wp2; go_end0; exact ⟨rfl, H'.out⟩)
  · have e : minI x 1 = x := by simp [minI, hm]
    rw [e] at H ⊢; clear e
    have H' := Lib.hid H; clear H
    go_enter Try.func25, Try.ntmps25
    go_wp2
    go_region
    all_goals (go_wp2; go_end0; exact ⟨rfl, H'.out⟩)
theorem tick_t (d : Int) (h : w.heap[b]? = some (.cells (tc x l) 40 (0, 0))) (hx0 : 0 ≤ x) (hx : x ≤ 8) (hl0 : 0 ≤ l) (hl : l ≤ 8) :
    Calls Try.prog 17 #[.pointer (some ⟨b, 0, none⟩), .int .i64 d] w fun e w' => e = .returned (.bool (fires l d)) ∧ Put b 40 (tc (tickX x l d) (tickL l d)) w w' := by
  have r := runs_t b x l w h
  have h0 : w.cell? ⟨b, 0, none⟩ = some (.int .i64 x) := cell_of h 0
  have h1 : w.cell? ⟨b, 1, none⟩ = some (.int .i64 l) := cell_of h 1
  have f0 : w.frozen? ⟨b, 0, none⟩ = false := free_of h 0
  have f1 : w.frozen? ⟨b, 1, none⟩ = false := free_of h 1
  have H := Lib.hid h; clear h
  cases hp : pos l
  · have e1 : fires l d = false := by simp [fires, hp]
    have e2 : tickX x l d = x := by simp [tickX, e1]
    have e3 : tickL l d = l := by simp [tickL, e1, hp]
    rw [e1, e2, e3]; clear e1 e2 e3
    go_enter Try.func17, Try.ntmps17
    go_wp2_with (go_at_call 16; refine r.mono ?_; rintro e w' ⟨rfl, rfl⟩)
    go_ret
    exact ⟨rfl, put_refl H.out⟩
  · by_cases hd : d < 1
    · have e1 : fires l d = false := by simp [fires, hp]; omega
      have e2 : tickX x l d = x := by simp [tickX, e1]
      have e3 : tickL l d = l := by simp [tickL, e1, hp]; omega
      rw [e1, e2, e3]; clear e1 e2 e3
      go_enter Try.func17, Try.ntmps17
      go_wp2_with (go_at_call 16; refine r.mono ?_; rintro e w' ⟨rfl, rfl⟩)
      go_ret
      exact ⟨rfl, put_refl H.out⟩
    · by_cases hdl : d < l
      · have e1 : fires l d = false := by simp [fires, hp]; omega
        have e2 : tickX x l d = x := by simp [tickX, e1]
        have e3 : tickL l d = l - d := by simp [tickL, e1, hp]; omega
        rw [e1, e2, e3]; clear e1 e2 e3
        have H2 := put_drew (put_set (put_refl H.out) 1 (.int .i64 (l - d)))
        have H' := Lib.hid H2; clear H2
        go_enter Try.func17, Try.ntmps17
        go_wp2_with (go_at_call 16; refine r.mono ?_; rintro e w' ⟨rfl, rfl⟩)
        go_region
        all_goals (go_wp2; go_ret; exact ⟨rfl, H'.out⟩)
      · have e1 : fires l d = true := by simp [fires, hp]; omega
        have e2 : tickX x l d = minI (2 * x) 8 := by simp [tickX, e1]
        have e3 : tickL l d = 0 := by simp [tickL, e1]
        rw [e1, e2, e3]; clear e1 e2 e3
        have H2 := put_set (put_set (put_refl H.out) 0 (.int .i64 (minI (2 * x) 8))) 1 (.int .i64 0)
        by_cases hm : 8 < 2 * x
        · have e : minI (2 * x) 8 = 8 := by simp [minI, hm]
          rw [e] at H2 ⊢; clear e
          have H' := Lib.hid H2; clear H2
          go_enter Try.func17, Try.ntmps17
          go_wp2_with (go_at_call 16; refine r.mono ?_; rintro e w' ⟨rfl, rfl⟩)
          all_goals (go_ret; exact ⟨rfl, H'.out⟩)
        · have e : minI (2 * x) 8 = 2 * x := by simp [minI, hm]
          rw [e] at H2 ⊢; clear e
          have H' := Lib.hid H2; clear H2
          go_enter Try.func17, Try.ntmps17
          go_wp2_with (go_at_call 16; refine r.mono ?_; rintro e w' ⟨rfl, rfl⟩)
          all_goals (go_ret; exact ⟨rfl, H'.out⟩)
/-! ### the document's timer -/
theorem stop_u (h : w.heap[b]? = some (.cells (uc x l) 43 (0, 0))) :
    Calls Try.prog 23 #[.pointer (some ⟨b, 0, none⟩)] w fun e w' => e = .returned (.tuple #[]) ∧ Put b 43 (uc x 0) w w' := by
  have h1 : w.cell? ⟨b, 1, none⟩ = some (.int .i64 l) := cell_of h 1
  have h2 : w.cell? ⟨b, 2, none⟩ = some (.bool (pos l)) := cell_of h 2
  have f1 : w.frozen? ⟨b, 1, none⟩ = false := free_of h 1
  have f2 : w.frozen? ⟨b, 2, none⟩ = false := free_of h 2
  have H := put_set (put_set (put_refl h) 2 (.bool (pos 0))) 1 (.int .i64 0)
  have H' := Lib.hid H; clear H h
  go_enter Try.func23, Try.ntmps23
  go_wp2
  go_end0
  exact ⟨rfl, H'.out⟩
theorem again_u (h : w.heap[b]? = some (.cells (uc x l) 43 (0, 0))) (hx0 : 0 ≤ x) (hlx : l ≤ 8 * x) (hl0 : 0 ≤ l) :
    Calls Try.prog 24 #[.pointer (some ⟨b, 0, none⟩)] w fun e w' => e = .returned (.tuple #[]) ∧ Put b 43 (uc x x) w w' := by
  have h0 : w.cell? ⟨b, 0, none⟩ = some (.int .i64 x) := cell_of h 0
  have h1 : w.cell? ⟨b, 1, none⟩ = some (.int .i64 l) := cell_of h 1
  have h2 : w.cell? ⟨b, 2, none⟩ = some (.bool (pos l)) := cell_of h 2
  have f1 : w.frozen? ⟨b, 1, none⟩ = false := free_of h 1
  have f2 : w.frozen? ⟨b, 2, none⟩ = false := free_of h 2
  by_cases hx : 0 < x
  · have e : pos x = true := by simp [pos, hx]
    have H := put_set (put_set (put_refl h) 2 (.bool (pos x))) 1 (.int .i64 x)
    rw [e] at H
    have e' : uc x x = #[.int .i64 x, .int .i64 x, .bool true] := by simp [uc, e]
    rw [e']; clear e e'
    have H' := Lib.hid H; clear H h
    go_enter Try.func24, Try.ntmps24
    go_wp2
    go_end0
    exact ⟨rfl, H'.out⟩
  · have hx' : x = 0 := by omega
    have hl' : l = 0 := by omega
    subst hx' hl'
    have H' := Lib.hid (put_refl h); clear h
    go_enter Try.func24, Try.ntmps24
    go_wp2
    go_end0
    exact ⟨rfl, H'.out⟩
theorem start_u (h : w.heap[b]? = some (.cells (uc x l) 43 (0, 0))) (hx0 : 0 ≤ x) (hlx : l ≤ 8 * x) (hl0 : 0 ≤ l) :
    Calls Try.prog 21 #[.pointer (some ⟨b, 0, none⟩)] w fun e w' => e = .returned (.tuple #[]) ∧ Put b 43 (uc x (startL x l)) w w' := by
  have h0 : w.cell? ⟨b, 0, none⟩ = some (.int .i64 x) := cell_of h 0
  have h1 : w.cell? ⟨b, 1, none⟩ = some (.int .i64 l) := cell_of h 1
  have h2 : w.cell? ⟨b, 2, none⟩ = some (.bool (pos l)) := cell_of h 2
  have ag := again_u b x l w h hx0 hlx hl0
  cases hl : pos l
  · have e : startL x l = x := by simp [startL, hl]
    rw [e]; clear e
    by_cases hx : 0 < x
    · clear h
      go_enter Try.func21, Try.ntmps21
      go_wp2_with (go_at_call 24; refine ag.mono ?_; rintro e w' ⟨rfl, hp⟩; have HP := Lib.hid hp; clear hp)
      go_end0
      exact ⟨rfl, HP.out⟩
    · have hx' : x = 0 := by omega
      have hl' : l = 0 := by omega
      have H := put_refl h
      rw [show uc x l = uc x x by rw [hl', hx']] at H
      have H' := Lib.hid H
      clear hx' hl' H h
      go_enter Try.func21, Try.ntmps21
      go_wp2
      go_end0
      exact ⟨rfl, H'.out⟩
  · have e : startL x l = l := by simp [startL, hl]
    rw [e]; clear e
    have H' := Lib.hid (put_refl h)
    clear h
    go_enter Try.func21, Try.ntmps21
    go_wp2
    all_goals (go_end0; exact ⟨rfl, H'.out⟩)
theorem reset_u (h : w.heap[b]? = some (.cells (uc x l) 43 (0, 0))) (hx0 : 0 ≤ x) :
    Calls Try.prog 26 #[.pointer (some ⟨b, 0, none⟩)] w fun e w' => e = .returned (.tuple #[]) ∧ Put b 43 (uc (minI x 1) l) w w' := by
  have h0 : w.cell? ⟨b, 0, none⟩ = some (.int .i64 x) := cell_of h 0
  have f0 : w.frozen? ⟨b, 0, none⟩ = false := free_of h 0
  by_cases hx : 0 < x
  · have e : minI x 1 = 1 := by unfold minI; split <;> omega
    rw [e]; clear e
    have H' := Lib.hid (put_set (put_refl h) 0 (.int .i64 1))
    clear h
    go_enter Try.func26, Try.ntmps26
    go_wp2
    go_end0
    exact ⟨rfl, H'.out⟩
  · have e : minI x 1 = x := by unfold minI; split <;> omega
    rw [e]; clear e
    have H' := Lib.hid (put_refl h)
    clear h
    go_enter Try.func26, Try.ntmps26
    go_wp2
    go_end0
    exact ⟨rfl, H'.out⟩
theorem tick_u (d : Int) (h : w.heap[b]? = some (.cells (uc x l) 43 (0, 0))) (hx0 : 0 ≤ x) (hx : x ≤ 8) (hl0 : 0 ≤ l) (hl : l ≤ 8) :
    Calls Try.prog 27 #[.pointer (some ⟨b, 0, none⟩), .int .i64 d] w fun e w' => e = .returned (.bool (fires l d)) ∧ Put b 43 (uc (tickX x l d) (tickL l d)) w w' := by
  have st := stop_u b x l w h
  have h0 : w.cell? ⟨b, 0, none⟩ = some (.int .i64 x) := cell_of h 0
  have h1 : w.cell? ⟨b, 1, none⟩ = some (.int .i64 l) := cell_of h 1
  have h2 : w.cell? ⟨b, 2, none⟩ = some (.bool (pos l)) := cell_of h 2
  have f1 : w.frozen? ⟨b, 1, none⟩ = false := free_of h 1
  have H := Lib.hid h; clear h
  cases hp : pos l
  · have e1 : fires l d = false := by simp [fires, hp]
    have e2 : tickX x l d = x := by simp [tickX, e1]
    have e3 : tickL l d = l := by simp [tickL, e1, hp]
    rw [e1, e2, e3]; clear e1 e2 e3
    go_enter Try.func27, Try.ntmps27
    go_wp2
    go_ret
    exact ⟨rfl, put_refl H.out⟩
  · by_cases hd : d < 1
    · have e1 : fires l d = false := by simp [fires, hp]; omega
      have e2 : tickX x l d = x := by simp [tickX, e1]
      have e3 : tickL l d = l := by simp [tickL, e1, hp]; omega
      rw [e1, e2, e3]; clear e1 e2 e3
      go_enter Try.func27, Try.ntmps27
      go_wp2
      go_ret
      exact ⟨rfl, put_refl H.out⟩
    · by_cases hdl : d < l
      · have e1 : fires l d = false := by simp [fires, hp]; omega
        have e2 : tickX x l d = x := by simp [tickX, e1]
        have e3 : tickL l d = l - d := by simp [tickL, e1, hp]; omega
        have e4 : pos (l - d) = pos l := by rw [hp]; simp [pos]; omega
        have H2 := put_set (put_refl H.out) 1 (.int .i64 (l - d))
        rw [show (uc x l).setIfInBounds 1 (.int .i64 (l - d)) = uc x (l - d) by simp [uc, e4]] at H2
        rw [e1, e2, e3]; clear e1 e2 e3 e4
        have H' := Lib.hid H2; clear H2
        go_enter Try.func27, Try.ntmps27
        go_wp2
        go_ret
        exact ⟨rfl, H'.out⟩
      · have e1 : fires l d = true := by simp [fires, hp]; omega
        have e2 : tickX x l d = minI (2 * x) 8 := by simp [tickX, e1]
        have e3 : tickL l d = 0 := by simp [tickL, e1]
        rw [e1, e2, e3]; clear e1 e2 e3
        by_cases hm : 2 * x < 8
        · have e : minI (2 * x) 8 = 2 * x := by unfold minI; split <;> omega
          rw [e]; clear e
          go_enter Try.func27, Try.ntmps27
          go_wp2_with (go_at_call 23; refine st.mono ?_; rintro e w' ⟨rfl, hp⟩; have HP := Lib.hid hp; clear hp; have g0 : w'.cell? ⟨b, 0, none⟩ = some (.int .i64 x) := cell_of HP.out.1 0; have k0 : w'.frozen? ⟨b, 0, none⟩ = false := free_of HP.out.1 0)
          go_ret
          exact ⟨rfl, put_set HP.out 0 _⟩
        · have e : minI (2 * x) 8 = 8 := by unfold minI; split <;> omega
          rw [e]; clear e
          go_enter Try.func27, Try.ntmps27
          go_wp2_with (go_at_call 23; refine st.mono ?_; rintro e w' ⟨rfl, hp⟩; have HP := Lib.hid hp; clear hp; have g0 : w'.cell? ⟨b, 0, none⟩ = some (.int .i64 x) := cell_of HP.out.1 0; have k0 : w'.frozen? ⟨b, 0, none⟩ = false := free_of HP.out.1 0)
          go_ret
          exact ⟨rfl, put_set HP.out 0 _⟩
end
end Go.Proofs.Ytndebobkmemdaaa
