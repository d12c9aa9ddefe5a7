/- What acts make of a timer; the loops over acts. -/
import Derived.Test.YtndebobkmemdaaaB
namespace Go.Proofs.Ytndebobkmemdaaa
open Go.RowKit
set_option linter.unusedVariables false

/-- a slice of acts that reads as these pairs -/
def Acts (w : World) (A : Option Addr) (n : Nat) (l : List (Int × Int)) : Prop :=
  l.length = n ∧ n ≤ 9223372036854775807 ∧ (0 < n → ∃ ad, A = some ad ∧ ∀ i, i < n → w.cell? (ad.add (i * 2)) = some (.int .i64 (l.getD i (0, 0)).1) ∧ w.cell? ⟨(ad.add (i * 2)).block, (ad.add (i * 2)).off + 1, none⟩ = some (.int .i64 (l.getD i (0, 0)).2))
theorem Acts.below {w w1 : World} {A : Option Addr} {n : Nat} {l : List (Int × Int)} (h : Acts w A n l) {B : Nat} (hB : w.heap.size ≤ B) (hb : Below B w w1) : Acts w1 A n l :=
  ⟨h.1, h.2.1, fun hn => by
    obtain ⟨ad, e, hc⟩ := h.2.2 hn
    refine ⟨ad, e, fun i hi => ?_⟩
    have k := hc i hi
    have l1 := World.block_lt_of_cell? _ _ k.1
    have l2 := World.block_lt_of_cell? _ _ k.2
    exact ⟨(hb.cell (by omega)).trans k.1, (hb.cell (by omega)).trans k.2⟩⟩

theorem Acts.at_ {w : World} {A : Option Addr} {n : Nat} {l : List (Int × Int)} (h : Acts w A n l) (i : Nat) (hi : i < n) : ∃ ad a d, A = some ad ∧ l.getD i (0, 0) = (a, d) ∧ w.cell? (ad.add (i * 2)) = some (.int .i64 a) ∧ w.cell? ⟨(ad.add (i * 2)).block, (ad.add (i * 2)).off + 1, none⟩ = some (.int .i64 d) := by
  obtain ⟨ad, e, hc⟩ := h.2.2 (by omega)
  exact ⟨ad, _, _, e, rfl, hc i hi⟩
theorem Kept2.below {bt bu B : Nat} {w w' : World} (h : Kept2 bt bu w w') (h1 : B ≤ bt) (h2 : B ≤ bu) (h3 : B ≤ w.heap.size) : Below B w w' :=
  ⟨h.os, h.tape, h.output, h.size, fun k hk => h.block k (by omega) (by omega) (by omega)⟩

def stS (s a : Int × Int) : Int × Int := (stepX s.1 s.2 a.1 a.2, stepL s.1 s.2 a.1 a.2)
def run (l : List (Int × Int)) (k : Nat) : Int × Int := (l.take k).foldl stS (1, 0)
theorem run_zero (l : List (Int × Int)) : run l 0 = (1, 0) := by simp [run]
theorem run_succ (l : List (Int × Int)) (k : Nat) (h : k < l.length) : run l (k + 1) = stS (run l k) (l.getD k (0, 0)) := by
  unfold run
  rw [List.take_succ_eq_append_getElem h, List.foldl_append]
  simp [List.getD_eq_getElem?_getD, h]
theorem run_inv (l : List (Int × Int)) (k : Nat) : Inv (run l k).1 (run l k).2 := by
  unfold run
  have gen : ∀ (l : List (Int × Int)) (s : Int × Int), Inv s.1 s.2 → Inv (l.foldl stS s).1 (l.foldl stS s).2 := by
    intro l
    induction l with
    | nil => exact fun s h => h
    | cons a l ih => exact fun s h => ih _ (inv_step a.1 a.2 h)
  exact gen _ _ (by simp [Inv])

theorem behind_any (A : Option Addr) (n c : Nat) (l : List (Int × Int)) (w : World) (h : Acts w A n l) :
    Calls Try.prog 14 #[.slice A n c] w fun e w' => ∃ b, e = .returned (.pointer (some ⟨b, 0, none⟩)) ∧ w.heap.size ≤ b ∧ w'.heap[b]? = some (.cells (tc (run l n).1 (run l n).2) 40 (0, 0)) ∧ Below w.heap.size w w' := by
  have H := Lib.hid h
  clear h
  go_enter Try.func14, Try.ntmps14
  go_wp2_with fail
  refine (new_t w).mono ?_
  rintro e w1 ⟨rfl, hw1⟩
  have B1 : Below w.heap.size w w1 := by rw [hw1]; exact (Below.refl _ _).alloc (Nat.le_refl _) _
  have z1 : w1.heap.size = w.heap.size + 1 := by rw [hw1]; simp
  have p1 : w1.heap[w.heap.size]? = some (.cells (tc 1 0) 40 (0, 0)) := by rw [hw1]; exact heap_new _ _ _
  clear hw1
  have P1 := Lib.hid p1; clear p1
  have Z1 := Lib.hid z1; clear z1
  go_wp2_with fail
  refine (new_u w1).mono ?_
  rintro e w2 ⟨rfl, hw2⟩
  have B2 : Below w.heap.size w w2 := by rw [hw2]; exact B1.alloc B1.size _
  have A2 : At2 w.heap.size w1.heap.size 1 0 w2 := by
    rw [hw2]
    exact ⟨by have := Z1.out; omega, (Below.heap_alloc _ _ _ (by have := Z1.out; omega)).trans P1.out, heap_new _ _ _⟩
  clear hw2
  have hlt0 : w.heap.size < w1.heap.size := by have := Z1.out; omega
  generalize hu : w1.heap.size = bu at *
  clear hu
  have AA := Lib.hid A2
  clear A2 P1 Z1
  go_wp2_with fail
  go_loopw [5] (fun v wr => ∃ k : Nat, k ≤ n ∧ v = .int .i64 k ∧ At2 w.heap.size bu (run l k).1 (run l k).2 wr ∧ Below w.heap.size w wr) (fun v _ => n - (intOf v).toNat)
  case atStart => exact ⟨0, Nat.zero_le _, rfl, by rw [run_zero]; exact AA.out, B2⟩
  case round =>
    obtain ⟨k, hk, rfl, ha, hb⟩ := hrel
    clear AA B2 B1
    have AA := Lib.hid ha
    have BB := Lib.hid hb
    have hmax := H.out.2.1
    clear ha hb
    by_cases hlt : k < n
    · obtain ⟨ad, a, d, rfl, hgd, c0, c1⟩ := (Acts.below H.out (Nat.le_refl _) BB.out).at_ k hlt
      have G := Lib.hid hgd
      clear hgd
      go_wp2_with (go_at_call 11; refine (step_any w.heap.size bu _ _ _ a d AA.out (run_inv l k)).mono ?_; rintro e w' ⟨rfl, hp⟩; have HP := Lib.hid hp; clear hp)
      go_roundw
      case rel =>
        refine ⟨k + 1, by omega, by go_num, ?_, ?_⟩
        · rw [run_succ l k (by have := H.out.1; omega), G.out]; exact HP.out.1
        · exact BB.out.trans (HP.out.2.below (Nat.le_refl _) (Nat.le_of_lt hlt0) BB.out.size)
      case measure => simp [intOf]; omega
    · go_wp2_with fail
      go_ret
      have : k = n := by omega
      subst this
      exact ⟨_, rfl, Nat.le_refl _, AA.out.2.1, BB.out⟩

def RetTrue (w : World) (e : Ending) (w' : World) : Prop := e = .returned (.bool true) ∧ Below w.heap.size w w'
theorem awake_from {w w1 : World} (h : Below w.heap.size w w1) : Calls Try.prog 13 #[] w1 (fun e w' => e = .returned (.bool true) ∧ Below w.heap.size w w') :=
  (awake_true w1).mono fun e w' ⟨he, hb⟩ => ⟨he, h.trans (hb.mono h.size)⟩

theorem plays_any (A : Option Addr) (n c : Nat) (l : List (Int × Int)) (w : World) (h : Acts w A n l) : Calls Try.prog 3 #[.slice A n c] w (RetTrue w) := by
  have H := Lib.hid h
  have hmax := h.2.1
  clear h
  by_cases hn : n ≤ 200
  · go_enter Try.func3, Try.ntmps3
    go_wp2_with fail
    refine (new_t w).mono ?_
    rintro e w1 ⟨rfl, hw1⟩
    have B1 : Below w.heap.size w w1 := by rw [hw1]; exact (Below.refl _ _).alloc (Nat.le_refl _) _
    have z1 : w1.heap.size = w.heap.size + 1 := by rw [hw1]; simp
    have p1 : w1.heap[w.heap.size]? = some (.cells (tc 1 0) 40 (0, 0)) := by rw [hw1]; exact heap_new _ _ _
    clear hw1
    have P1 := Lib.hid p1; clear p1
    have Z1 := Lib.hid z1; clear z1
    go_wp2_with fail
    refine (new_u w1).mono ?_
    rintro e w2 ⟨rfl, hw2⟩
    have B2 : Below w.heap.size w w2 := by rw [hw2]; exact B1.alloc B1.size _
    have A2 : At2 w.heap.size w1.heap.size 1 0 w2 := by
      rw [hw2]
      exact ⟨by have := Z1.out; omega, (Below.heap_alloc _ _ _ (by have := Z1.out; omega)).trans P1.out, heap_new _ _ _⟩
    clear hw2
    have hlt0 : w.heap.size < w1.heap.size := by have := Z1.out; omega
    generalize hu : w1.heap.size = bu at *
    clear hu
    have AA := Lib.hid A2
    clear A2 P1 Z1
    go_wp2_with fail
    go_loopw [5] (fun v wr => ∃ k : Nat, k ≤ n ∧ v = .int .i64 k ∧ At2 w.heap.size bu (run l k).1 (run l k).2 wr ∧ Below w.heap.size w wr) (fun v _ => n - (intOf v).toNat)
    case atStart => exact ⟨0, Nat.zero_le _, rfl, by rw [run_zero]; exact AA.out, B2⟩
    case round =>
      obtain ⟨k, hk, rfl, ha, hb⟩ := hrel
      clear AA B2 B1
      have AA := Lib.hid ha
      have BB := Lib.hid hb
      clear ha hb
      by_cases hlt : k < n
      · obtain ⟨ad, a, d, rfl, hgd, c0, c1⟩ := (Acts.below H.out (Nat.le_refl _) BB.out).at_ k hlt
        have G := Lib.hid hgd
        clear hgd
        go_wp2_with (first
          | (go_at_call 11; refine (step_any w.heap.size bu _ _ _ a d AA.out (run_inv l k)).mono ?_; rintro e w' ⟨rfl, hp⟩; have HP := Lib.hid hp; clear hp)
          | (go_at_call 12; refine (same_any w.heap.size bu _ _ _ HP.out.1).mono ?_; rintro e w'' ⟨rfl, nq, rfl⟩))
        go_roundw
        case rel =>
          refine ⟨k + 1, by omega, by go_num, ?_, ?_⟩
          · rw [run_succ l k (by have := H.out.1; omega), G.out]; exact HP.out.1
          · exact BB.out.trans ((HP.out.2.drewN nq).below (Nat.le_refl _) (Nat.le_of_lt hlt0) BB.out.size)
        case measure => simp [intOf]; omega
      · go_wp2_with (go_at_call 13; refine (awake_from BB.out).mono ?_; rintro e w' ⟨rfl, hb⟩)
        go_ret
        exact ⟨rfl, hb⟩
  · go_enter Try.func3, Try.ntmps3
    go_wp2_with fail
    go_ret
    exact ⟨rfl, Below.refl _ _⟩
end Go.Proofs.Ytndebobkmemdaaa
