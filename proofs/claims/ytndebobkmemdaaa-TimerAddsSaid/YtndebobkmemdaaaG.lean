/- TimerFires, TimerNone, walked. -/
import Derived.Test.YtndebobkmemdaaaF
namespace Go.Proofs.Ytndebobkmemdaaa
open Go.RowKit
set_option linter.unusedVariables false

/-- a slice of whole numbers that reads as these -/
def Ints (w : World) (A : Option Addr) (n : Nat) (l : List Int) : Prop :=
  l.length = n ∧ n ≤ 9223372036854775807 ∧ (0 < n → ∃ ad, A = some ad ∧ ∀ i, i < n → w.cell? (ad.add i) = some (.int .i64 (l.getD i 0)))
theorem Ints.below {w w1 : World} {A : Option Addr} {n : Nat} {l : List Int} (h : Ints w A n l) {B : Nat} (hB : w.heap.size ≤ B) (hb : Below B w w1) : Ints w1 A n l :=
  ⟨h.1, h.2.1, fun hn => by
    obtain ⟨ad, e, hc⟩ := h.2.2 hn
    exact ⟨ad, e, fun i hi => (hb.cell (Nat.lt_of_lt_of_le (World.block_lt_of_cell? _ _ (hc i hi)) hB)).trans (hc i hi)⟩⟩
theorem Ints.at_ {w : World} {A : Option Addr} {n : Nat} {l : List Int} (h : Ints w A n l) (i : Nat) (hi : i < n) : ∃ ad d, A = some ad ∧ w.cell? (ad.add i) = some (.int .i64 d) := by
  obtain ⟨ad, e, hc⟩ := h.2.2 (by omega)
  exact ⟨ad, _, e, hc i hi⟩

theorem fires_any (A : Option Addr) (n c : Nat) (l : List (Int × Int)) (A' : Option Addr) (n' c' : Nat) (l' : List Int) (w : World) (h : Acts w A n l) (h' : Ints w A' n' l') :
    Calls Try.prog 4 #[.slice A n c, .slice A' n' c'] w (RetTrue w) := by
  have bh := behind_any A n c l w h
  have hi := run_inv l n
  generalize (run l n).1 = x at *
  generalize (run l n).2 = y at *
  have H' := Lib.hid h'
  have BH := Lib.hid bh
  have hmax := h'.2.1
  clear h bh h'
  by_cases k1 : n ≤ 200
  · by_cases k2 : n' ≤ 200
    · obtain ⟨i1, i2, i3, i4, i5⟩ := hi
      go_enter Try.func4, Try.ntmps4
      go_wp2_with fail
      refine BH.out.mono ?_
      rintro e w1 ⟨b, rfl, hb, ht, hbel⟩
      have P1 := Lib.hid ht; have B1 := Lib.hid hbel; clear ht hbel
      go_wp2_with fail
      refine (left_t b x y _ P1.out).mono ?_
      rintro e w' ⟨rfl, rfl⟩
      cases hp : pos y
      · have hy : y = 0 := by
          have : ¬ 0 < y := by simpa [pos] using hp
          omega
        subst hy
        have F1 := Lib.hid (fires_no (d := 1) hp)
        go_wp2_with fail
        refine (runs_t b x 0 _ P1.out).mono ?_
        rintro e w' ⟨rfl, rfl⟩
        go_wp2_with fail
        refine (tick_t b x 0 _ 1 P1.out i1 i2 (by omega) (by omega)).mono ?_
        rintro e w2 ⟨rfl, hq⟩
        rw [F1.out]
        have B2 := Lib.hid (below_put B1.out hq hb B1.out.size)
        clear hq
        go_wp2_with (go_at_call 13; refine (awake_from B2.out).mono ?_; rintro e w' ⟨rfl, hb⟩)
        go_ret
        exact ⟨rfl, hb⟩
      · have hy : 0 < y := by simpa [pos] using hp
        have HP := Lib.hid hp
        go_wp2_with fail
        refine (runs_t b x y _ P1.out).mono ?_
        rintro e w' ⟨rfl, rfl⟩
        go_wp2_with fail
        clear hp
        go_loopw [6, 7] (fun u v wr => ∃ (k : Nat) (lf : Int), k ≤ n' ∧ 0 < lf ∧ lf ≤ 8 ∧ u = .int .i64 lf ∧ v = .int .i64 k ∧ wr.heap[b]? = some (.cells (tc x lf) 40 (0, 0)) ∧ Below w.heap.size w wr) (fun _ v _ => n' - (intOf v).toNat)
        case atStart => exact ⟨0, y, Nat.zero_le _, hy, i4, rfl, rfl, P1.out, B1.out⟩
        case round =>
          obtain ⟨k, lf, hk, hl0, hl8, rfl, rfl, ha, hb'⟩ := hrel
          clear P1 B1 HP hy i3 i4 i5
          have AA := Lib.hid ha
          have BB := Lib.hid hb'
          have hp : pos lf = true := by simp [pos, hl0]
          have HP := Lib.hid hp
          clear ha hb'
          by_cases hlt : k < n'
          · obtain ⟨ad, d, rfl, c0⟩ := (Ints.below H'.out (Nat.le_refl _) BB.out).at_ k hlt
            by_cases hd : lf ≤ d
            · have F1 := Lib.hid (show fires lf d = true by rw [fires_eq hp]; simpa using hd)
              have e1 : tickL lf d = 0 := by simp [tickL, F1.out]
              have E1 := Lib.hid e1
              have P0 := Lib.hid (show pos 0 = false by decide)
              clear hp e1
              go_wp2_with fail
              refine (tick_t b x lf _ d AA.out i1 i2 (by omega) hl8).mono ?_
              rintro e w2 ⟨rfl, hq⟩
              rw [F1.out]
              rw [E1.out] at hq
              have B2 := Lib.hid (below_put BB.out hq hb BB.out.size)
              have P2 := Lib.hid hq.1
              clear hq
              go_wp2_with fail
              refine (runs_t b _ 0 _ P2.out).mono ?_
              rintro e w' ⟨rfl, rfl⟩
              rw [P0.out]
              go_wp2_with (go_at_call 13; refine (awake_from B2.out).mono ?_; rintro e w' ⟨rfl, hb⟩)
              go_ret
              exact ⟨rfl, hb⟩
            · have F1 := Lib.hid (show fires lf d = false by rw [fires_eq hp]; simpa using hd)
              have E0 := Lib.hid (show tickX x lf d = x by simp [tickX, F1.out])
              by_cases h1 : 1 ≤ d
              · have E1 := Lib.hid (tickL_no F1.out hp h1)
                clear hp
                go_wp2_with fail
                refine (tick_t b x lf _ d AA.out i1 i2 (by omega) hl8).mono ?_
                rintro e w2 ⟨rfl, hq⟩
                rw [F1.out]
                rw [E1.out, E0.out] at hq
                have B2 := Lib.hid (below_put BB.out hq hb BB.out.size)
                have P2 := Lib.hid hq.1
                clear hq
                go_wp2_with (go_at_call 15; refine (left_t b x _ _ P2.out).mono ?_; rintro e w' ⟨rfl, rfl⟩)
                go_roundw
                case rel => exact ⟨k + 1, lf - d, by omega, by omega, by omega, rfl, by go_num, P2.out, B2.out⟩
                case measure => simp [intOf]; omega
              · have E1 := Lib.hid (tickL_stay F1.out (by intro h; exact h1 h.2))
                clear hp
                go_wp2_with fail
                refine (tick_t b x lf _ d AA.out i1 i2 (by omega) hl8).mono ?_
                rintro e w2 ⟨rfl, hq⟩
                rw [F1.out]
                rw [E1.out, E0.out] at hq
                have B2 := Lib.hid (below_put BB.out hq hb BB.out.size)
                have P2 := Lib.hid hq.1
                clear hq
                go_wp2_with (go_at_call 15; refine (left_t b x _ _ P2.out).mono ?_; rintro e w' ⟨rfl, rfl⟩)
                all_goals
                  go_roundw
                  case rel => exact ⟨k + 1, lf, by omega, by omega, by omega, by go_num, by go_num, P2.out, B2.out⟩
                  case measure => simp [intOf]; omega
          · go_wp2_with fail
            refine (runs_t b x lf _ AA.out).mono ?_
            rintro e w' ⟨rfl, rfl⟩
            rw [HP.out]
            go_wp2_with (go_at_call 13; refine (awake_from BB.out).mono ?_; rintro e w' ⟨rfl, hb⟩)
            go_ret
            exact ⟨rfl, hb⟩
    · go_enter Try.func4, Try.ntmps4
      go_wp2_with fail
      go_ret
      exact ⟨rfl, Below.refl _ _⟩
  · go_enter Try.func4, Try.ntmps4
    go_wp2_with fail
    go_ret
    exact ⟨rfl, Below.refl _ _⟩
end Go.Proofs.Ytndebobkmemdaaa
