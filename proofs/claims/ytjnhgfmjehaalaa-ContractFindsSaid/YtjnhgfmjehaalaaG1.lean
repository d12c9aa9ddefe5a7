/- The reference's Small, walked; the laws' uses. -/
import Derived.Test.YtjnhgfmjehaalaaE16
namespace Go.Proofs.Ytjnhgfmjehaalaa
open Go.RowKit
set_option linter.unusedVariables false
/-- the reference's count: below 0: it is not small -/
def lfE : Nat → Exp → Int → Int
  | 0, _, _ => -1
  | d + 1, e, n => e.kids.foldl (fun n k => if 0 ≤ n then lfE d k n else n) (n - 1)
abbrev lfF (d : Nat) (n : Int) (k : Exp) : Int := if 0 ≤ n then lfE d k n else n
theorem lfF_no (d : Nat) : ∀ (l : List Exp) (n : Int), n < 0 → l.foldl (lfF d) n = n
  | [], _, _ => rfl
  | k :: l, n, h => by
    rw [List.foldl_cons, show lfF d n k = n from if_neg (by omega)]
    exact lfF_no d l n h
theorem lfE_bd : ∀ (d : Nat) (e : Exp) (n : Int), 0 ≤ n → -1 ≤ lfE d e n ∧ lfE d e n ≤ n - 1
  | 0, e, n, h => by rw [lfE]; omega
  | d + 1, e, n, h => by
    have go : ∀ (l : List Exp) (n : Int), -1 ≤ n → -1 ≤ l.foldl (lfF d) n ∧ l.foldl (lfF d) n ≤ n := by
      intro l
      induction l with
      | nil => intro n h; exact ⟨h, Int.le_refl _⟩
      | cons k l ih =>
        intro n h
        rw [List.foldl_cons]
        by_cases hn : 0 ≤ n
        · rw [show lfF d n k = lfE d k n from if_pos hn]
          have h1 := lfE_bd d k n hn
          have h2 := ih (lfE d k n) h1.1
          omega
        · rw [show lfF d n k = n from if_neg hn]
          exact ih n h
    exact go e.kids (n - 1) (by omega)
theorem lfF_next {d : Nat} {l : List Exp} {i : Nat} {x : Exp} {a n : Int} (h : (l.take i).foldl (lfF d) a = n) (hx : l[i]? = some x) (hn : 0 ≤ n) : (l.take (i + 1)).foldl (lfF d) a = lfE d x n := by
  rw [List.take_add_one, hx, List.foldl_append, h]
  exact if_pos hn
theorem lfF_stop {d : Nat} {l : List Exp} {i : Nat} {a n : Int} (h : (l.take i).foldl (lfF d) a = n) (hn : n < 0) : l.foldl (lfF d) a = n := by
  rw [← List.take_append_drop i l, List.foldl_append, h, lfF_no d _ n hn]
/-- the program's count and the reference's -/
theorem sp_lf : ∀ (d : Nat) (e : Exp) (n : Int), 0 ≤ n → (spD d e n).1 = decide (0 ≤ lfE d e n) ∧ ((spD d e n).1 = true → (spD d e n).2 = lfE d e n)
  | 0, e, n, h => by
    rw [lfE, spD]
    exact ⟨rfl, fun h => by cases h⟩
  | d + 1, e, n, h => by
    rw [lfE, spD]
    by_cases hn : n - 1 < 0
    · rw [if_pos hn]
      have := lfF_no d e.kids (n - 1) hn
      rw [this, decide_eq_false (by omega)]
      exact ⟨rfl, fun h => by cases h⟩
    · rw [if_neg hn]
      have go : ∀ (l : List Exp) (n : Int), 0 ≤ n → (l.foldl (spF d) (true, n)).1 = decide (0 ≤ l.foldl (lfF d) n) ∧ ((l.foldl (spF d) (true, n)).1 = true → (l.foldl (spF d) (true, n)).2 = l.foldl (lfF d) n) := by
        intro l
        induction l with
        | nil => intro n h; exact ⟨by simp [h], fun _ => rfl⟩
        | cons k l ih =>
          intro n h
          rw [List.foldl_cons, List.foldl_cons, show spF d (true, n) k = spD d k n from rfl, show lfF d n k = lfE d k n from if_pos h]
          have h1 := sp_lf d k n h
          cases hq : spD d k n with
          | mk b q =>
            rw [hq] at h1
            cases b with
            | false =>
              have h2 : ¬ 0 ≤ lfE d k n := of_decide_eq_false h1.1.symm
              rw [spF_no, lfF_no d l _ (by omega), decide_eq_false h2]
              exact ⟨rfl, fun h => by cases h⟩
            | true =>
              have h2 : 0 ≤ lfE d k n := of_decide_eq_true h1.1.symm
              have h3 : q = lfE d k n := h1.2 rfl
              rw [h3]
              exact ih _ h2
      exact go e.kids (n - 1) (by omega)
theorem small_lf (e : Exp) : small e = decide (0 ≤ lfE 6 e 24) := (sp_lf 6 e 24 (by decide)).1
section
variable {w : World}
set_option maxHeartbeats 2000000 in
theorem left_c {ok : Nat → Prop} : ∀ (d n : Nat) (w : World) (cs : List Value) (e : Exp) (N : Int), d ≤ 6 → (kExp n).R ok w cs e → 0 ≤ N → N ≤ 24 →
    Calls Try.prog 91 #[.agg cs.toArray, .int .i64 (d : Int), .int .i64 N] w (Ret w (.int .i64 (lfE d e N))) := by
  intro d
  induction d with
  | zero =>
    intro n w cs e N hd h h0 h1
    obtain ⟨k, A, c, rfl, rfl, hs⟩ := exp_open h
    have SF := store_f64
    have E := Lib.hid (show lfE 0 e N = -1 from rfl)
    clear h hs
    go_enter Try.func91, Try.ntmps91
    go_wp2_with fail
    go_ret
    rw [E.out]
    exact ⟨rfl, by go_grown⟩
  | succ d ih =>
    intro n w cs e N hd h h0 h1
    obtain ⟨k, A, c, rfl, rfl, hs⟩ := exp_open h
    have SF := store_f64
    have hdd : ((d + 1 : Nat) : Int) = (d : Int) + 1 := by omega
    have hd1 : ¬ ((d : Int) + 1 < 1) := by omega
    have hd6 : (d : Int) ≤ 5 := by omega
    have E := Lib.hid (show lfE (d + 1) e N = e.kids.foldl (lfF d) (N - 1) from rfl)
    have IH := Lib.hid ih
    clear ih
    have hmax := hs.len.2.2.1
    have hnc := hs.len.2.1
    have B0 := Lib.hid (show Below w.heap.size w (w.alloc (.cells #[.int .i64 e.op, .slice A e.kids.length c, .string ⟨e.name.toArray⟩, .int .i64 e.val.kind, .int .i64 e.val.int, .bool e.val.bool, .string ⟨e.val.text.toArray⟩, .float .f64 e.val.num] 44)) from (Below.refl _ _).alloc (Nat.le_refl _) _)
    have L0 := Lib.hid (show Loc1 w.heap.size 44 #[.int .i64 e.op, .slice A e.kids.length c, .string ⟨e.name.toArray⟩, .int .i64 e.val.kind, .int .i64 e.val.int, .bool e.val.bool, .string ⟨e.val.text.toArray⟩, .float .f64 e.val.num] (w.alloc (.cells #[.int .i64 e.op, .slice A e.kids.length c, .string ⟨e.name.toArray⟩, .int .i64 e.val.kind, .int .i64 e.val.int, .bool e.val.bool, .string ⟨e.val.text.toArray⟩, .float .f64 e.val.num] 44)) from heap_new _ _)
    have HS := Lib.hid hs
    clear h hs
    rw [hdd]
    go_enter Try.func91, Try.ntmps91
    go_wp2_with fail
    go_loopw [2, 7] (fun v2 v7 wr => ∃ (i : Nat) (N' : Int), i ≤ e.kids.length ∧ v7 = .int .i64 i ∧ v2 = .int .i64 N' ∧ (e.kids.take i).foldl (lfF d) (N - 1) = N' ∧ -1 ≤ N' ∧ N' ≤ 24 ∧ Below w.heap.size w wr ∧ Loc1 w.heap.size 44 #[.int .i64 e.op, .slice A e.kids.length c, .string ⟨e.name.toArray⟩, .int .i64 e.val.kind, .int .i64 e.val.int, .bool e.val.bool, .string ⟨e.val.text.toArray⟩, .float .f64 e.val.num] wr) (fun _ v7 _ => e.kids.length - (intOf v7).toNat)
    case atStart => exact ⟨0, N - 1, Nat.zero_le _, rfl, rfl, rfl, by omega, by omega, B0.out, L0.out⟩
    case round =>
      obtain ⟨i, N', hi, rfl, rfl, hf, hn0, hn1, hb, hl⟩ := hrel
      have HF := Lib.hid hf
      have HB := Lib.hid hb
      have HL := Lib.hid hl
      clear hf hb hl B0 L0
      obtain ⟨q0, q1, -⟩ := cells8 HL.out
      have hzl := lt_of_heap HL.out
      by_cases hlt : i < e.kids.length
      · by_cases hn : 0 ≤ N'
        · obtain ⟨ad, x, k', B, d', rfl, he, rfl, hs', c0, c1, c2, c3, c4, c5, c6, c7⟩ := exp_at (HS.out.below HB.out) hlt
          have HE := Lib.hid he
          have BK := Lib.hid (show Below wr.heap.size wr (wr.alloc (.cells #[.int .i64 x.op, .slice B x.kids.length d', .string ⟨x.name.toArray⟩, .int .i64 x.val.kind, .int .i64 x.val.int, .bool x.val.bool, .string ⟨x.val.text.toArray⟩, .float .f64 x.val.num] 44)) from (Below.refl _ _).alloc (Nat.le_refl _) _)
          have HC := Lib.hid (IH.out (k' + 1) wr _ x N' (by omega) (exp_mk hs') hn hn1)
          have hbd := lfE_bd d x N' hn
          have HF2 := Lib.hid (lfF_next HF.out HE.out hn)
          clear he hs'
          go_wp2_with fail
          refine HC.out.mono ?_
          rintro e1 w2 ⟨rfl, hb⟩
          have B2 := Lib.hid (below_self HB.out hb)
          have L2 := Lib.hid (HL.out.below hb)
          clear HC hb c0 c1 c2 c3 c4 c5 c6 c7
          go_wp2_with fail
          go_roundw
          case rel => exact ⟨i + 1, _, by omega, by go_num, rfl, HF2.out, by omega, by omega, B2.out, L2.out⟩
          case measure => simp [intOf]; omega
        · have E2 := Lib.hid (show lfE (d + 1) e N = N' from E.out.trans (lfF_stop HF.out (by omega)))
          have hn' : ¬ (N' ≥ 0) := by omega
          go_wp2_with fail
          go_ret
          rw [E2.out]
          exact ⟨rfl, HB.out⟩
      · have E2 := Lib.hid (show lfE (d + 1) e N = N' from E.out.trans (by have h := HF.out; rw [List.take_of_length_le (show e.kids.length ≤ i by omega)] at h; exact h))
        go_wp2_with fail
        go_ret
        rw [E2.out]
        exact ⟨rfl, HB.out⟩
theorem small4_c {ok : Nat → Prop} {n : Nat} {cs : List Value} {e : Exp} (h : (kExp n).R ok w cs e) : Calls Try.prog 76 #[.agg cs.toArray] w (Ret w (.bool (small e))) := by
  obtain ⟨k, A, c, rfl, rfl, hs⟩ := exp_open h
  have SF := store_f64
  have B0 := Lib.hid (show Below w.heap.size w (w.alloc (.cells #[.int .i64 e.op, .slice A e.kids.length c, .string ⟨e.name.toArray⟩, .int .i64 e.val.kind, .int .i64 e.val.int, .bool e.val.bool, .string ⟨e.val.text.toArray⟩, .float .f64 e.val.num] 44)) from (Below.refl _ _).alloc (Nat.le_refl _) _)
  have HC := Lib.hid (left_c 6 (k + 1) (w.alloc (.cells #[.int .i64 e.op, .slice A e.kids.length c, .string ⟨e.name.toArray⟩, .int .i64 e.val.kind, .int .i64 e.val.int, .bool e.val.bool, .string ⟨e.val.text.toArray⟩, .float .f64 e.val.num] 44)) _ e 24 (Nat.le_refl _) (exp_mk (hs.below B0.out)) (by decide) (by decide))
  have E := Lib.hid (small_lf e)
  clear h hs
  go_enter Try.func76, Try.ntmps76
  go_wp2_with fail
  refine HC.out.mono ?_
  rintro e1 w2 ⟨rfl, hb⟩
  have B2 := Lib.hid (below_self B0.out hb)
  generalize lfE 6 e 24 = r at *
  go_wp2_with fail
  go_ret
  rw [E.out]
  exact ⟨rfl, B2.out⟩
end
end Go.Proofs.Ytjnhgfmjehaalaa
