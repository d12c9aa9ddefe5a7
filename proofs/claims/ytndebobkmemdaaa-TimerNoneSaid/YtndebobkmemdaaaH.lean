/- TimerNone, walked. -/
import Derived.Test.YtndebobkmemdaaaG
namespace Go.Proofs.Ytndebobkmemdaaa
open Go.RowKit
set_option linter.unusedVariables false
section
variable (w : World)
theorem left_n : Calls Try.prog 15 #[.pointer none] w fun e w' => e = .returned (.int .i64 0) ∧ w = w' := by
  go_enter Try.func15, Try.ntmps15
  go_wp2
  go_ret
  exact ⟨rfl, rfl⟩
theorem wait_n : Calls Try.prog 18 #[.pointer none] w fun e w' => e = .returned (.int .i64 0) ∧ w = w' := by
  go_enter Try.func18, Try.ntmps18
  go_wp2
  go_ret
  exact ⟨rfl, rfl⟩
theorem runs_n : Calls Try.prog 16 #[.pointer none] w fun e w' => e = .returned (.bool false) ∧ w = w' := by
  go_enter Try.func16, Try.ntmps16
  go_wp2
  go_ret
  exact ⟨rfl, rfl⟩
theorem stop_n : Calls Try.prog 22 #[.pointer none] w fun e w' => e = .returned (.tuple #[]) ∧ w = w' := by
  go_enter Try.func22, Try.ntmps22
  go_wp2
  go_end0
  exact ⟨rfl, rfl⟩
theorem again_n : Calls Try.prog 19 #[.pointer none] w fun e w' => e = .returned (.tuple #[]) ∧ w = w' := by
  go_enter Try.func19, Try.ntmps19
  go_wp2
  go_end0
  exact ⟨rfl, rfl⟩
theorem reset_n : Calls Try.prog 25 #[.pointer none] w fun e w' => e = .returned (.tuple #[]) ∧ w = w' := by
  go_enter Try.func25, Try.ntmps25
  go_wp2
  go_end0
  exact ⟨rfl, rfl⟩
theorem start_n : Calls Try.prog 20 #[.pointer none] w fun e w' => e = .returned (.tuple #[]) ∧ w = w' := by
  go_enter Try.func20, Try.ntmps20
  go_wp2_with (first | (go_at_call 16; refine (runs_n _).mono ?_; rintro e w' ⟨rfl, rfl⟩) | (go_at_call 19; refine (again_n _).mono ?_; rintro e w' ⟨rfl, rfl⟩))
  go_end0
  exact ⟨rfl, rfl⟩
theorem tick_n (d : Int) : Calls Try.prog 17 #[.pointer none, .int .i64 d] w fun e w' => e = .returned (.bool false) ∧ w = w' := by
  go_enter Try.func17, Try.ntmps17
  go_wp2_with (go_at_call 16; refine (runs_n _).mono ?_; rintro e w' ⟨rfl, rfl⟩)
  go_ret
  exact ⟨rfl, rfl⟩
/-- the document's timer that is none, at block b -/
def Zero (b : Nat) (w w' : World) : Prop := w'.heap[b]? = some (.cells (uc 0 0) 43 (0, 0)) ∧ w.grownBy w' (some b)
theorem zero_alloc {b : Nat} {w w' : World} {o : Obj} (h : Zero b (w.alloc o) w') (hb : b < w.heap.size) : Zero b w w' :=
  ⟨h.1, h.2.os, h.2.tape, h.2.output, Nat.le_trans (by simp) h.2.size, fun k hk hne => (h.2.block k (by simp; omega) hne).trans (Below.heap_alloc _ _ _ hk)⟩
theorem same_n (bu : Nat) (h : w.heap[bu]? = some (.cells (uc 0 0) 43 (0, 0))) :
    Calls Try.prog 12 #[.pointer none, .pointer (some ⟨bu, 0, none⟩)] w fun e w' => e = .returned (.bool true) ∧ ∃ n, w' = w.drewN n := by
  have u0 : w.cell? ⟨bu, 0, none⟩ = some (.int .i64 0) := cell_of h 0
  have u1 : w.cell? ⟨bu, 1, none⟩ = some (.int .i64 0) := cell_of h 1
  have u2 : w.cell? ⟨bu, 2, none⟩ = some (.bool false) := cell_of h 2
  clear h
  go_enter Try.func12, Try.ntmps12
  go_wp2
  go_quiet ((first
      | (go_at_call 18; exact quiet_left (wait_n _))
      | (go_at_call 15; exact quiet_left (left_n _))
      | (go_at_call 16; exact quiet_left (runs_n _))))
  go_wp2
  go_ret
  exact ⟨rfl, _, rfl⟩
theorem step_n (bu : Nat) (k d : Int) (h : w.heap[bu]? = some (.cells (uc 0 0) 43 (0, 0))) :
    Calls Try.prog 11 #[.pointer none, .pointer (some ⟨bu, 0, none⟩), .agg #[.int .i64 k, .int .i64 d]] w fun e w' => e = .returned (.bool true) ∧ Zero bu w w' := by
  have hb := lt_of_heap h
  have A := Lib.hid (show (w.alloc (.cells #[.int .i64 k, .int .i64 d] 29)).heap[bu]? = some (.cells (uc 0 0) 43 (0, 0)) from (Below.heap_alloc _ _ _ hb).trans h)
  have Z := Lib.hid (show Zero bu w (w.alloc (.cells #[.int .i64 k, .int .i64 d] 29)) from zero_alloc ⟨A.out, grown_refl _ _⟩ hb)
  clear h
  by_cases k0 : k = 0
  · subst k0
    have E := Lib.hid (show startL 0 0 = 0 by decide)
    go_enter Try.func11, Try.ntmps11
    go_wp2_with (first
      | (go_at_call 20; refine (start_n _).mono ?_; rintro e w' ⟨rfl, rfl⟩)
      | (go_at_call 21; refine (start_u bu 0 0 _ A.out (by omega) (by omega) (by omega)).mono ?_; rintro e w'' ⟨rfl, hp⟩; rw [E.out] at hp; have HQ := Lib.hid (zero_alloc hp hb); clear hp))
    go_ret
    exact ⟨rfl, HQ.out⟩
  by_cases k1 : k = 1
  · subst k1
    go_enter Try.func11, Try.ntmps11
    go_wp2_with (first
      | (go_at_call 22; refine (stop_n _).mono ?_; rintro e w' ⟨rfl, rfl⟩)
      | (go_at_call 23; refine (stop_u bu 0 0 _ A.out).mono ?_; rintro e w'' ⟨rfl, hp⟩; have HQ := Lib.hid (zero_alloc hp hb); clear hp))
    go_ret
    exact ⟨rfl, HQ.out⟩
  by_cases k2 : k = 2
  · subst k2
    go_enter Try.func11, Try.ntmps11
    go_wp2_with (first
      | (go_at_call 19; refine (again_n _).mono ?_; rintro e w' ⟨rfl, rfl⟩)
      | (go_at_call 24; refine (again_u bu 0 0 _ A.out (by omega) (by omega) (by omega)).mono ?_; rintro e w'' ⟨rfl, hp⟩; have HQ := Lib.hid (zero_alloc hp hb); clear hp))
    go_ret
    exact ⟨rfl, HQ.out⟩
  by_cases k3 : k = 3
  · subst k3
    have E := Lib.hid (show minI 0 1 = 0 by decide)
    go_enter Try.func11, Try.ntmps11
    go_wp2_with (first
      | (go_at_call 25; refine (reset_n _).mono ?_; rintro e w' ⟨rfl, rfl⟩)
      | (go_at_call 26; refine (reset_u bu 0 0 _ A.out (by omega)).mono ?_; rintro e w'' ⟨rfl, hp⟩; rw [E.out] at hp; have HQ := Lib.hid (zero_alloc hp hb); clear hp))
    go_ret
    exact ⟨rfl, HQ.out⟩
  by_cases k4 : k = 4
  · subst k4
    have P0 : pos 0 = false := by decide
    have E := Lib.hid (show fires 0 d = false ∧ tickX 0 0 d = 0 ∧ tickL 0 d = 0 from ⟨fires_no P0, by simp [tickX, fires_no P0], tickL_stay (fires_no P0) (by simp [P0])⟩)
    have C0 := Lib.hid (show (w.alloc (.cells #[.int .i64 4, .int .i64 d] 29)).drew.cell? ⟨w.heap.size, 1, none⟩ = some (.int .i64 d) by simp)
    have hz : w.heap.size < (w.alloc (.cells #[.int .i64 4, .int .i64 d] 29)).drew.heap.size := by simp
    clear P0
    go_enter Try.func11, Try.ntmps11
    go_wp2
    go_region_held3 (fun w' => w'.cell? ⟨w.heap.size, 1, none⟩ = some (.int .i64 d)) (first | exact C0.out | assumption)
      (first
      | (go_at_call 17; refine (tick_n _ _).mono ?_; rintro e w' ⟨rfl, rfl⟩)
      | (go_at_call 27; refine (tick_u bu 0 0 _ _ (by exact A.out) (by omega) (by omega) (by omega) (by omega)).mono ?_; rintro e w'' ⟨rfl, hp⟩; rw [E.out.1]; have HD : w''.cell? ⟨w.heap.size, 1, none⟩ = some (.int .i64 d) := hp.2.cell C0.out (by simp; omega); rw [E.out.2.1, E.out.2.2] at hp; have HQ := Lib.hid hp; clear hp))
    go_wp2
    go_ret
    exact ⟨rfl, zero_alloc (o := .cells #[.int .i64 4, .int .i64 d] 29) ⟨HQ.out.1, HQ.out.2.os, HQ.out.2.tape, HQ.out.2.output, HQ.out.2.size, HQ.out.2.block⟩ hb⟩
  · go_enter Try.func11, Try.ntmps11
    go_wp2
    go_ret
    exact ⟨rfl, Z.out⟩
end
theorem zero_step (k d : Int) : stepX 0 0 k d = 0 ∧ stepL 0 0 k d = 0 := by
  have P0 : pos 0 = false := by decide
  have e1 : tickX 0 0 d = 0 := by simp [tickX, fires_no P0]
  have e2 : tickL 0 d = 0 := tickL_stay (fires_no P0) (by simp [P0])
  have e3 : minI 0 1 = 0 := by decide
  have e4 : startL 0 0 = 0 := by decide
  constructor
  · unfold stepX; rw [e1, e3]; simp
  · unfold stepL; rw [e2, e4]; simp
theorem step_z (w : World) (p : Option Addr) (N bu : Nat) (k d : Int) (hp : p = none ∨ p = some ⟨N, 0, none⟩) (h : At2 N bu 0 0 w) :
    Calls Try.prog 11 #[.pointer p, .pointer (some ⟨bu, 0, none⟩), .agg #[.int .i64 k, .int .i64 d]] w fun e w' => e = .returned (.bool true) ∧ Two N bu 0 0 w w' := by
  rcases hp with rfl | rfl
  · refine (step_n w bu k d h.2.2).mono fun e w' ⟨he, hz⟩ => ⟨he, ⟨h.1, (hz.2.block N (lt_of_heap h.2.1) (by simpa using h.1)).trans h.2.1, hz.1⟩, (Kept2.refl _ _ _).grownU hz.2⟩
  · have hs := step_any N bu 0 0 w k d h (by simp [Inv])
    rw [(zero_step k d).1, (zero_step k d).2] at hs
    exact hs
theorem same_z (w : World) (p : Option Addr) (N bu : Nat) (hp : p = none ∨ p = some ⟨N, 0, none⟩) (h : At2 N bu 0 0 w) :
    Calls Try.prog 12 #[.pointer p, .pointer (some ⟨bu, 0, none⟩)] w fun e w' => e = .returned (.bool true) ∧ ∃ n, w' = w.drewN n := by
  rcases hp with rfl | rfl
  · exact same_n w bu h.2.2
  · exact same_any N bu 0 0 w h
/-- the row of timers: none, and one that New did not make -/
def Rowz (N : Nat) (w : World) : Prop := w.heap[N]? = some (.cells (tc 0 0) 40 (0, 0)) ∧ w.heap[N + 1]? = some (.cells #[.pointer none, .pointer (some ⟨N, 0, none⟩)] 23 (0, 0))
theorem rowz_at {N : Nat} {w : World} (h : Rowz N w) (i : Nat) (hi : i < 2) : ∃ p : Option Addr, (p = none ∨ p = some ⟨N, 0, none⟩) ∧ w.cell? ⟨N + 1, i, none⟩ = some (.pointer p) := by
  have hc := cell_of h.2 i
  match i, hi with
  | 0, _ => exact ⟨none, .inl rfl, hc⟩
  | 1, _ => exact ⟨_, .inr rfl, hc⟩
/-- one round: a new timer of the document, a step, another one, whether they are the same -/
theorem rowz_step {N bu : Nat} {w w1 w2 : World} (h : Rowz N w) (hs : Below (N + 2) w w1) (hk : Kept2 N bu w1 w2) (hb : N + 2 ≤ bu) (ha : At2 N bu 0 0 w2) (hz : N + 2 ≤ w.heap.size) : Rowz N w2 ∧ Below N w w2 :=
  ⟨⟨ha.2.1, (hk.block (N + 1) (by have := hs.size; omega) (by omega) (by omega)).trans ((hs.block (N + 1) (by omega)).trans h.2)⟩,
    (hs.mono (by omega)).trans (hk.below (Nat.le_refl _) (by omega) (by have := hs.size; omega))⟩
theorem below_drewN {B : Nat} {a w : World} (h : Below B a w) (n : Nat) : Below B a (w.drewN n) := ⟨h.os, h.tape, h.output, h.size, h.block⟩
theorem at2_new {N b : Nat} {w : World} (h : At2 N b 0 0 w) (hN : N + 2 ≤ w.heap.size) : At2 N w.heap.size 0 0 (w.alloc (.cells (uc 0 0) 43)) :=
  ⟨by omega, (Below.heap_alloc _ _ _ (by omega)).trans h.2.1, heap_new _ _ _⟩
theorem step_below {N bu : Nat} {wr w1 w' : World} (hb : Below (N + 2) wr w1) (hr : wr.heap[N]? = some (.cells (tc 0 0) 40 (0, 0))) (ht : Two N bu 0 0 w1 w') (hz : N + 2 ≤ wr.heap.size) (hbu : N + 2 ≤ bu) : Below (N + 2) wr w' :=
  hb.trans ⟨ht.2.os, ht.2.tape, ht.2.output, ht.2.size, fun k hk => by
    by_cases e : k = N
    · subst e; exact ht.1.2.1.trans ((hb.block k hk).trans hr).symm
    · exact ht.2.block k (by have := hb.size; omega) e (by omega)⟩
theorem none_any (A : Option Addr) (n c : Nat) (l : List (Int × Int)) (w : World) (h : Acts w A n l) : Calls Try.prog 7 #[.slice A n c] w (RetTrue w) := by
  have H := Lib.hid h
  have hmax := h.2.1
  clear h
  by_cases hn : n ≤ 200
  · have D0 : decide (200 < (n : Int)) = false := by simp; omega
    go_enter Try.func7, Try.ntmps7
    go_wp2_with fail
    have R0 := Lib.hid (show Rowz w.heap.size ((w.alloc (.cells #[.int .i64 0, .int .i64 0] 40)).alloc (.cells #[.pointer none, .pointer (some ⟨w.heap.size, 0, none⟩)] 23)) from
      ⟨(Below.heap_alloc _ _ _ (by simp)).trans (heap_new _ _ _), by have := heap_new (w.alloc (.cells #[.int .i64 0, .int .i64 0] 40)) #[.pointer none, .pointer (some ⟨w.heap.size, 0, none⟩)] 23; simpa using this⟩)
    have B0 := Lib.hid (show Below w.heap.size w ((w.alloc (.cells #[.int .i64 0, .int .i64 0] 40)).alloc (.cells #[.pointer none, .pointer (some ⟨w.heap.size, 0, none⟩)] 23)) from
      ((Below.refl _ _).alloc (Nat.le_refl _) _).alloc (by simp) _)
    have Z0 : w.heap.size + 2 ≤ ((w.alloc (.cells #[.int .i64 0, .int .i64 0] 40)).alloc (.cells #[.pointer none, .pointer (some ⟨w.heap.size, 0, none⟩)] 23)).heap.size := by simp
    generalize hN : w.heap.size = N at *
    have HN := Lib.hid hN
    clear hN
    generalize (w.alloc (.cells #[.int .i64 0, .int .i64 0] 40)).alloc (.cells #[.pointer none, .pointer (some ⟨N, 0, none⟩)] 23) = w2 at *
    go_loopw [4] (fun v wr => ∃ i : Nat, i ≤ 2 ∧ v = .int .i64 i ∧ Rowz N wr ∧ Below N w wr ∧ N + 2 ≤ wr.heap.size) (fun v _ => 2 - (intOf v).toNat)
    case atStart => exact ⟨0, by omega, rfl, R0.out, B0.out, Z0⟩
    case round =>
      obtain ⟨i, hi, rfl, hr, hb, hz⟩ := hrel
      clear R0 B0 Z0
      have RR := Lib.hid hr
      have BB := Lib.hid hb
      clear hr hb
      by_cases hi2 : i < 2
      · have D : decide ((i : Int) < 2) = true := by simp; omega
        have D2 : (i : Int) < 2 := by omega
        go_wp2_with fail
        obtain ⟨wo, rfl⟩ : ∃ wo : World, wo = wr := ⟨_, rfl⟩
        go_loopw [5] (fun v wr => ∃ k : Nat, k ≤ n ∧ v = .int .i64 k ∧ Rowz N wr ∧ Below N w wr ∧ N + 2 ≤ wr.heap.size) (fun v _ => n - (intOf v).toNat)
        case atStart => exact ⟨0, Nat.zero_le _, rfl, RR.out, BB.out, hz⟩
        case round =>
          obtain ⟨k, hk, rfl, hr, hb, hz'⟩ := hrel
          clear RR BB hz
          have RR := Lib.hid hr
          have BB := Lib.hid hb
          clear hr hb
          by_cases hlt : k < n
          · obtain ⟨p, hp, hcp⟩ := rowz_at RR.out i hi2
            obtain ⟨ad, a, d, rfl, hgd, c0, c1⟩ := (Acts.below H.out (by rw [HN.out]; exact Nat.le_refl _) BB.out).at_ k hlt
            have hb0 : (ad.add (k * 2)).block < N + 2 := by
              obtain ⟨ad', _, _, e', _, hq, _⟩ := H.out.at_ k hlt
              injection e' with e'
              subst e'
              have := World.block_lt_of_cell? _ _ hq
              have := HN.out
              omega
            have KK := Lib.hid (show ∀ W : World, Below (N + 2) wr W → W.cell? ⟨N + 1, i, none⟩ = some (.pointer p) ∧ W.cell? (ad.add (k * 2)) = some (.int .i64 a) ∧ W.cell? ⟨(ad.add (k * 2)).block, (ad.add (k * 2)).off + 1, none⟩ = some (.int .i64 d) from
              fun W hW => ⟨(hW.cell (p := ⟨N + 1, i, none⟩) (Nat.lt_succ_self _)).trans hcp, (hW.cell hb0).trans c0, (hW.cell (p := ⟨(ad.add (k * 2)).block, (ad.add (k * 2)).off + 1, none⟩) hb0).trans c1⟩)
            have A1 := Lib.hid (show At2 N wr.heap.size 0 0 (wr.alloc (.cells (uc 0 0) 43)) from ⟨by omega, (Below.heap_alloc _ _ _ (lt_of_heap RR.out.1)).trans RR.out.1, heap_new _ _ _⟩)
            have B1 := Lib.hid (show Below (N + 2) wr (wr.alloc (.cells (uc 0 0) 43)) from (Below.refl _ _).alloc hz' _)
            have HPP := Lib.hid hp
            clear hgd hp hb0
            go_wp2_with fail
            go_region_held3 (fun W => W.cell? ⟨N + 1, i, none⟩ = some (.pointer p) ∧ W.cell? (ad.add (k * 2)) = some (.int .i64 a) ∧ W.cell? ⟨(ad.add (k * 2)).block, (ad.add (k * 2)).off + 1, none⟩ = some (.int .i64 d))
              (first | exact KK.out _ HB2.out | exact KK.out _ (HB1.out.alloc hz1 _) | exact KK.out _ HB1.out | exact KK.out _ B1.out.drew | exact KK.out _ (Below.refl _ _).drew)
              (first
              | (go_at_call 11; refine (step_z _ p N wr.heap.size a d HPP.out (by exact A1.out)).mono ?_; rintro e w' ⟨rfl, ht⟩; have HB1 := Lib.hid (show Below (N + 2) wr w' from step_below B1.out.drew RR.out.1 ht hz' hz'); have hz1 := Nat.le_trans hz' HB1.out.size; have HT := Lib.hid ht; clear ht)
              | (go_at_call 12; refine (same_z _ p N w'.heap.size HPP.out (by exact at2_new HT.out.1 (by omega))).mono ?_; rintro e w'' ⟨rfl, nq, rfl⟩; have HB2 := Lib.hid (show Below (N + 2) wr ((w'.alloc (.cells (uc 0 0) 43)).drewN nq) from below_drewN (HB1.out.alloc hz1 _) nq)))
            go_wp2_with fail
            go_roundw
            case rel =>
              refine ⟨k + 1, by omega, by go_num, ?_, ?_, ?_⟩
              · exact ⟨(HB2.out.block N (by omega)).trans RR.out.1, (HB2.out.block (N + 1) (by omega)).trans RR.out.2⟩
              · exact BB.out.trans (HB2.out.mono (by omega))
              · exact Nat.le_trans hz' HB2.out.size
            case measure => simp [intOf]; omega
          · go_wp2_with fail
            go_roundw
            case rel => exact ⟨i + 1, by omega, by go_num, RR.out, BB.out, hz'⟩
            case measure => simp [intOf]; omega
      · go_wp2_with fail
        refine (awake_true _).mono ?_
        rintro e w' ⟨rfl, hb⟩
        go_wp2_with fail
        go_ret
        refine ⟨rfl, ?_⟩
        rw [HN.out]
        exact BB.out.trans (hb.mono (by have := BB.out.size; have := HN.out; omega))
  · go_enter Try.func7, Try.ntmps7
    go_wp2_with fail
    go_ret
    exact ⟨rfl, Below.refl _ _⟩
end Go.Proofs.Ytndebobkmemdaaa
