/- The other laws on timers, walked. -/
import Derived.Test.YtndebobkmemdaaaC
namespace Go.Proofs.Ytndebobkmemdaaa
open Go.RowKit
set_option linter.unusedVariables false

theorem run_ge1 (l : List (Int × Int)) (k : Nat) : 1 ≤ (run l k).1 := by
  unfold run
  have gen : ∀ (l : List (Int × Int)) (s : Int × Int), Inv s.1 s.2 → 1 ≤ s.1 → 1 ≤ (l.foldl stS s).1 := by
    intro l
    induction l with
    | nil => exact fun s _ h => h
    | cons a l ih =>
      intro s hi h
      refine ih _ (inv_step a.1 a.2 hi) ?_
      show 1 ≤ stepX s.1 s.2 a.1 a.2
      unfold stepX
      have m1 : 1 ≤ minI s.1 1 := by unfold minI; split <;> omega
      have m2 : 1 ≤ minI (2 * s.1) 8 := by unfold minI; split <;> omega
      split
      · exact m1
      · split
        · unfold tickX; split <;> omega
        · exact h
  exact gen _ _ (by simp [Inv]) (by decide)
theorem fires_eq {l d : Int} (h : pos l = true) : fires l d = decide (l ≤ d) := by
  have hl : 0 < l := by simpa [pos] using h
  by_cases hd : l ≤ d
  · have : (1 : Int) ≤ d := by omega
    simp [fires, h, hd, this]
  · simp [fires, h, hd]

/-! ### TimerSoon -/
theorem soon_any (A : Option Addr) (n c : Nat) (l : List (Int × Int)) (w : World) (h : Acts w A n l) : Calls Try.prog 6 #[.slice A n c] w (RetTrue w) := by
  have bh := behind_any A n c l w h
  have hi := run_inv l n
  have hg := run_ge1 l n
  generalize (run l n).1 = x at *
  generalize (run l n).2 = y at *
  obtain ⟨h1, h2, h3, h4, h5⟩ := hi
  clear h
  by_cases hn : n ≤ 200
  · go_enter Try.func6, Try.ntmps6
    go_wp2_with fail
    refine bh.mono ?_
    rintro e w1 ⟨b, rfl, hb, ht, hbel⟩
    have P1 := Lib.hid ht; have B1 := Lib.hid hbel; clear ht hbel bh
    go_wp2_with fail
    refine (again_t b x y _ P1.out).mono ?_
    rintro e w2 ⟨rfl, hp⟩
    have B2 : Below w.heap.size w w2 := below_put B1.out hp hb B1.out.size
    have P2 := Lib.hid hp.1; clear hp P1 B1
    go_wp2_with fail
    have P20 := Lib.hid (show w2.heap[b]? = some (.cells (tc x (x - ((0 : Nat) : Int))) 40 (0, 0)) by simpa using P2.out)
    go_loopw [4] (fun v wr => ∃ k : Nat, (k : Int) < x ∧ v = .int .i64 k ∧ wr.heap[b]? = some (.cells (tc x (x - k)) 40 (0, 0)) ∧ Below w.heap.size w wr) (fun v _ => 8 - (intOf v).toNat)
    case atStart => exact ⟨0, by omega, rfl, P20.out, B2⟩
    case round =>
      obtain ⟨k, hk, rfl, ha, hb'⟩ := hrel
      clear P20 P2 B2
      have AA := Lib.hid ha
      have BB := Lib.hid hb'
      clear ha hb'
      have hp : pos (x - (k : Int)) = true := by simp [pos]; omega
      have e1 := fires_eq (d := 1) hp
      by_cases hlast : x - (k : Int) ≤ 1
      · have e2 : fires (x - (k : Int)) 1 = true := by rw [e1]; simpa using hlast
        have E2 := Lib.hid e2
        clear e1 e2 hp
        go_wp2_with (first
          | (go_at_call 17; refine (tick_t b x (x - k) _ 1 AA.out (by omega) (by omega) (by omega) (by omega)).mono ?_; rintro e w' ⟨rfl, hp⟩; rw [E2.out]; have BB2 : Below w.heap.size w w' := below_put BB.out hp hb BB.out.size; clear hp)
          | (go_at_call 13; refine (awake_from BB2).mono ?_; rintro e w'' ⟨rfl, hb⟩))
        go_ret
        exact ⟨rfl, hb⟩
      · have e2 : fires (x - (k : Int)) 1 = false := by rw [e1]; simpa using hlast
        have e3 : tickX x (x - (k : Int)) 1 = x := by simp [tickX, e2]
        have e4 : tickL (x - (k : Int)) 1 = x - ((k + 1 : Nat) : Int) := by simp [tickL, e2, hp]; omega
        have E2 := Lib.hid e2
        have E3 := Lib.hid e3
        have E4 := Lib.hid e4
        clear e1 e2 hp e3 e4
        go_wp2_with (go_at_call 17; refine (tick_t b x (x - k) _ 1 AA.out (by omega) (by omega) (by omega) (by omega)).mono ?_; rintro e w' ⟨rfl, hp⟩; rw [E2.out]; have BB2 : Below w.heap.size w w' := below_put BB.out hp hb BB.out.size; rw [E3.out, E4.out] at hp; have HP := Lib.hid hp.1; clear hp)
        go_roundw
        case rel => exact ⟨k + 1, by omega, by go_num, HP.out, BB2⟩
        case measure => simp [intOf]; omega
  · go_enter Try.func6, Try.ntmps6
    go_wp2_with fail
    go_ret
    exact ⟨rfl, Below.refl _ _⟩

/-! ### TimerWaits -/
set_option maxHeartbeats 2000000 in
theorem waits_any (A : Option Addr) (n c : Nat) (l : List (Int × Int)) (w : World) (h : Acts w A n l) : Calls Try.prog 5 #[.slice A n c] w (RetTrue w) := by
  have H := Lib.hid h
  have hmax := h.2.1
  clear h
  by_cases hn : n ≤ 200
  · go_enter Try.func5, Try.ntmps5
    go_wp2_with fail
    refine (new_t w).mono ?_
    rintro e w1 ⟨rfl, hw1⟩
    have B1 : Below w.heap.size w w1 := by rw [hw1]; exact (Below.refl _ _).alloc (Nat.le_refl _) _
    have z1 : w1.heap.size = w.heap.size + 1 := by rw [hw1]; simp
    have p1 : w1.heap[w.heap.size]? = some (.cells (tc 1 0) 40 (0, 0)) := by rw [hw1]; exact heap_new _ _ _
    clear hw1
    have P1 := Lib.hid p1; clear p1
    have Z1 := Lib.hid z1; clear z1
    go_wp2_with fail
    refine (new_u w1).mono ?_
    rintro e w2 ⟨rfl, hw2⟩
    have B2 : Below w.heap.size w w2 := by rw [hw2]; exact B1.alloc B1.size _
    have A2 : At2 w.heap.size w1.heap.size 1 0 w2 := by
      rw [hw2]
      exact ⟨by have := Z1.out; omega, (Below.heap_alloc _ _ _ (by have := Z1.out; omega)).trans P1.out, heap_new _ _ _⟩
    clear hw2
    have hlt0 : w.heap.size < w1.heap.size := by have := Z1.out; omega
    generalize hu : w1.heap.size = bu at *
    clear hu
    have AA := Lib.hid A2
    clear A2 P1 Z1
    go_wp2_with fail
    go_loopw [5] (fun v wr => ∃ k : Nat, k ≤ n ∧ v = .int .i64 k ∧ At2 w.heap.size bu (run l k).1 (run l k).2 wr ∧ Below w.heap.size w wr) (fun v _ => n - (intOf v).toNat)
    case atStart => exact ⟨0, Nat.zero_le _, rfl, by rw [run_zero]; exact AA.out, B2⟩
    case round =>
      obtain ⟨k, hk, rfl, ha, hb⟩ := hrel
      clear AA B2 B1
      have AA := Lib.hid ha
      have BB := Lib.hid hb
      clear ha hb
      by_cases hlt : k < n
      · obtain ⟨ad, a, d, rfl, hgd, c0, c1⟩ := (Acts.below H.out (Nat.le_refl _) BB.out).at_ k hlt
        have hs := run_succ l k (by have := H.out.1; omega)
        have hi := run_inv l k
        have hg1 := run_ge1 l k
        have hg2 := run_ge1 l (k + 1)
        have ha := AA.out
        clear AA
        rw [hgd] at hs
        generalize hrk : run l k = s at *
        obtain ⟨x, y⟩ := s
        have hi2 := inv_step a d hi
        generalize hX : stepX x y a d = X at *
        generalize hY : stepL x y a d = Y at *
        have hs' : run l (k + 1) = (X, Y) := by rw [hs]; simp [stS, hX, hY]
        rw [hs'] at hg2
        simp only at hg1 hg2 hi hi2 ha
        have HS := Lib.hid hs'
        have HX := Lib.hid hX
        have HY := Lib.hid hY
        have HI := Lib.hid hi
        obtain ⟨i1, i2, i3, i4, i5⟩ := hi
        obtain ⟨j1, j2, j3, j4, j5⟩ := hi2
        have AA := Lib.hid ha
        clear hs hs' hX hY hgd hrk ha
        have fin : ∀ w' : World, Two w.heap.size bu X Y wr w' → At2 w.heap.size bu (run l (k + 1)).1 (run l (k + 1)).2 w' ∧ Below w.heap.size w w' := fun w' h2 =>
          ⟨by rw [HS.out]; exact h2.1, BB.out.trans (h2.2.below (Nat.le_refl _) (Nat.le_of_lt hlt0) BB.out.size)⟩
        have FIN := Lib.hid fin
        clear fin
        have hbk : (ad.add (k * 2)).block < w.heap.size := by
          obtain ⟨ad', _, _, e', _, hq, _⟩ := H.out.at_ k hlt
          injection e' with e'
          subst e'
          exact World.block_lt_of_cell? _ _ hq
        have CC := Lib.hid (show ∀ w' : World, Two w.heap.size bu X Y wr w' → w'.cell? (ad.add (k * 2)) = some (.int .i64 a) from fun w' h2 => ((h2.2.below (Nat.le_refl _) (Nat.le_of_lt hlt0) BB.out.size).cell hbk).trans c0)
        have DD := Lib.hid (show ∀ w' : World, Two w.heap.size bu X Y wr w' → w'.cell? ⟨(ad.add (k * 2)).block, (ad.add (k * 2)).off + 1, none⟩ = some (.int .i64 d) from fun w' h2 => ((h2.2.below (Nat.le_refl _) (Nat.le_of_lt hlt0) BB.out.size).cell (p := ⟨(ad.add (k * 2)).block, (ad.add (k * 2)).off + 1, none⟩) hbk).trans c1)
        clear hbk
        have hX := HX.out
        unfold stepX at hX
        by_cases k3 : a = 3
        · subst k3
          have : X = 1 := by rw [← hX]; simp [minI]; omega
          subst this
          clear hX
          go_wp2_with (first
          | (go_at_call 18; refine (wait_t w.heap.size x y _ AA.out.2.1).mono ?_; rintro e w' ⟨rfl, rfl⟩)
          | (go_at_call 16; refine (runs_t w.heap.size x y _ AA.out.2.1).mono ?_; rintro e w' ⟨rfl, rfl⟩)
          | (go_at_call 15; refine (left_t w.heap.size x y _ AA.out.2.1).mono ?_; rintro e w' ⟨rfl, rfl⟩)
          | (go_at_call 11; refine (step_any w.heap.size bu x y _ _ d AA.out HI.out).mono ?_; rintro e w' ⟨rfl, hp⟩; rw [HX.out, HY.out] at hp; have HP := Lib.hid hp; clear hp AA; have g0 := CC.out w' HP.out; have g1 := DD.out w' HP.out)
          | (go_at_call 18; refine (wait_t w.heap.size _ Y _ HP.out.1.2.1).mono ?_; rintro e w'' ⟨rfl, rfl⟩)
          | (go_at_call 15; refine (left_t w.heap.size _ Y _ HP.out.1.2.1).mono ?_; rintro e w'' ⟨rfl, rfl⟩))
          go_roundw
          case rel => exact ⟨k + 1, by omega, by go_num, FIN.out _ HP.out⟩
          case measure => simp [intOf]; omega
        · rw [if_neg k3] at hX
          by_cases k4 : a = 4
          · subst k4
            rw [if_pos rfl] at hX
            unfold tickX at hX
            cases hp : pos y
            · have hf : fires y d = false := by simp [fires, hp]
              rw [hf] at hX
              simp only [Bool.false_eq_true, if_false] at hX
              subst hX
              go_wp2_with (first
          | (go_at_call 18; refine (wait_t w.heap.size x y _ AA.out.2.1).mono ?_; rintro e w' ⟨rfl, rfl⟩)
          | (go_at_call 16; refine (runs_t w.heap.size x y _ AA.out.2.1).mono ?_; rintro e w' ⟨rfl, rfl⟩)
          | (go_at_call 15; refine (left_t w.heap.size x y _ AA.out.2.1).mono ?_; rintro e w' ⟨rfl, rfl⟩)
          | (go_at_call 11; refine (step_any w.heap.size bu x y _ _ d AA.out HI.out).mono ?_; rintro e w' ⟨rfl, hp⟩; rw [HX.out, HY.out] at hp; have HP := Lib.hid hp; clear hp AA; have g0 := CC.out w' HP.out; have g1 := DD.out w' HP.out)
          | (go_at_call 18; refine (wait_t w.heap.size _ Y _ HP.out.1.2.1).mono ?_; rintro e w'' ⟨rfl, rfl⟩)
          | (go_at_call 15; refine (left_t w.heap.size _ Y _ HP.out.1.2.1).mono ?_; rintro e w'' ⟨rfl, rfl⟩))
              go_roundw
              case rel => exact ⟨k + 1, by omega, by go_num, FIN.out _ HP.out⟩
              case measure => simp [intOf]; omega
            · have hf := fires_eq (d := d) hp
              by_cases hyd : y ≤ d
              · have hf' : fires y d = true := by rw [hf]; simpa using hyd
                rw [hf', if_pos rfl] at hX
                clear hf hf'
                unfold minI at hX
                by_cases hm : 2 * x < 8
                · rw [if_neg (by omega)] at hX
                  subst hX
                  go_wp2_with (first
          | (go_at_call 18; refine (wait_t w.heap.size x y _ AA.out.2.1).mono ?_; rintro e w' ⟨rfl, rfl⟩)
          | (go_at_call 16; refine (runs_t w.heap.size x y _ AA.out.2.1).mono ?_; rintro e w' ⟨rfl, rfl⟩)
          | (go_at_call 15; refine (left_t w.heap.size x y _ AA.out.2.1).mono ?_; rintro e w' ⟨rfl, rfl⟩)
          | (go_at_call 11; refine (step_any w.heap.size bu x y _ _ d AA.out HI.out).mono ?_; rintro e w' ⟨rfl, hp⟩; rw [HX.out, HY.out] at hp; have HP := Lib.hid hp; clear hp AA; have g0 := CC.out w' HP.out; have g1 := DD.out w' HP.out)
          | (go_at_call 18; refine (wait_t w.heap.size _ Y _ HP.out.1.2.1).mono ?_; rintro e w'' ⟨rfl, rfl⟩)
          | (go_at_call 15; refine (left_t w.heap.size _ Y _ HP.out.1.2.1).mono ?_; rintro e w'' ⟨rfl, rfl⟩))
                  go_roundw
                  case rel => exact ⟨k + 1, by omega, by go_num, FIN.out _ HP.out⟩
                  case measure => simp [intOf]; omega
                · have hX8 : X = 8 := by rw [← hX]; split <;> omega
                  clear hX
                  subst hX8
                  go_wp2_with (first
          | (go_at_call 18; refine (wait_t w.heap.size x y _ AA.out.2.1).mono ?_; rintro e w' ⟨rfl, rfl⟩)
          | (go_at_call 16; refine (runs_t w.heap.size x y _ AA.out.2.1).mono ?_; rintro e w' ⟨rfl, rfl⟩)
          | (go_at_call 15; refine (left_t w.heap.size x y _ AA.out.2.1).mono ?_; rintro e w' ⟨rfl, rfl⟩)
          | (go_at_call 11; refine (step_any w.heap.size bu x y _ _ d AA.out HI.out).mono ?_; rintro e w' ⟨rfl, hp⟩; rw [HX.out, HY.out] at hp; have HP := Lib.hid hp; clear hp AA; have g0 := CC.out w' HP.out; have g1 := DD.out w' HP.out)
          | (go_at_call 18; refine (wait_t w.heap.size _ Y _ HP.out.1.2.1).mono ?_; rintro e w'' ⟨rfl, rfl⟩)
          | (go_at_call 15; refine (left_t w.heap.size _ Y _ HP.out.1.2.1).mono ?_; rintro e w'' ⟨rfl, rfl⟩))
                  go_roundw
                  case rel => exact ⟨k + 1, by omega, by go_num, FIN.out _ HP.out⟩
                  case measure => simp [intOf]; omega
              · have hf' : fires y d = false := by rw [hf]; simpa using hyd
                rw [hf'] at hX
                simp only [Bool.false_eq_true, if_false] at hX
                clear hf hf'
                subst hX
                go_wp2_with (first
          | (go_at_call 18; refine (wait_t w.heap.size x y _ AA.out.2.1).mono ?_; rintro e w' ⟨rfl, rfl⟩)
          | (go_at_call 16; refine (runs_t w.heap.size x y _ AA.out.2.1).mono ?_; rintro e w' ⟨rfl, rfl⟩)
          | (go_at_call 15; refine (left_t w.heap.size x y _ AA.out.2.1).mono ?_; rintro e w' ⟨rfl, rfl⟩)
          | (go_at_call 11; refine (step_any w.heap.size bu x y _ _ d AA.out HI.out).mono ?_; rintro e w' ⟨rfl, hp⟩; rw [HX.out, HY.out] at hp; have HP := Lib.hid hp; clear hp AA; have g0 := CC.out w' HP.out; have g1 := DD.out w' HP.out)
          | (go_at_call 18; refine (wait_t w.heap.size _ Y _ HP.out.1.2.1).mono ?_; rintro e w'' ⟨rfl, rfl⟩)
          | (go_at_call 15; refine (left_t w.heap.size _ Y _ HP.out.1.2.1).mono ?_; rintro e w'' ⟨rfl, rfl⟩))
                go_roundw
                case rel => exact ⟨k + 1, by omega, by go_num, FIN.out _ HP.out⟩
                case measure => simp [intOf]; omega
          · rw [if_neg k4] at hX
            subst hX
            go_wp2_with (first
          | (go_at_call 18; refine (wait_t w.heap.size x y _ AA.out.2.1).mono ?_; rintro e w' ⟨rfl, rfl⟩)
          | (go_at_call 16; refine (runs_t w.heap.size x y _ AA.out.2.1).mono ?_; rintro e w' ⟨rfl, rfl⟩)
          | (go_at_call 15; refine (left_t w.heap.size x y _ AA.out.2.1).mono ?_; rintro e w' ⟨rfl, rfl⟩)
          | (go_at_call 11; refine (step_any w.heap.size bu x y _ _ d AA.out HI.out).mono ?_; rintro e w' ⟨rfl, hp⟩; rw [HX.out, HY.out] at hp; have HP := Lib.hid hp; clear hp AA; have g0 := CC.out w' HP.out; have g1 := DD.out w' HP.out)
          | (go_at_call 18; refine (wait_t w.heap.size _ Y _ HP.out.1.2.1).mono ?_; rintro e w'' ⟨rfl, rfl⟩)
          | (go_at_call 15; refine (left_t w.heap.size _ Y _ HP.out.1.2.1).mono ?_; rintro e w'' ⟨rfl, rfl⟩))
            go_roundw
            case rel => exact ⟨k + 1, by omega, by go_num, FIN.out _ HP.out⟩
            case measure => simp [intOf]; omega
      · go_wp2_with (go_at_call 13; refine (awake_from BB.out).mono ?_; rintro e w' ⟨rfl, hb⟩)
        go_ret
        exact ⟨rfl, hb⟩
  · go_enter Try.func5, Try.ntmps5
    go_wp2_with fail
    go_ret
    exact ⟨rfl, Below.refl _ _⟩
end Go.Proofs.Ytndebobkmemdaaa
