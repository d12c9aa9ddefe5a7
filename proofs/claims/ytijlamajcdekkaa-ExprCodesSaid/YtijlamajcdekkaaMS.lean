/- Texts that go together. -/
import Derived.Test.YtijlamajcdekkaaMR
import Derived.Test.YtijlamajcdekkaaMC
import Derived.Deep.CutRange
import Derived.Deep.DeepMust
/- The references' reader, walked: it reads what the program's reader reads. -/
namespace Go.Proofs.Ytijlamajcdekkaa
open Go.RowKit
set_option linter.unusedVariables false
set_option linter.unusedSimpArgs false
/-- a reference's reader at block g: bytes l, how far it is, its error -/
structure Qr (ok : Nat → Prop) (g : Nat) (w : World) (A : Option Addr) (n c p : Nat) (l : List UInt8) (err : Int) : Prop where
  loc : Loc1 g 57 #[.slice A n c, .int .i64 (p : Int), .int .i64 err] w
  row : Sl kU8 (fun k => ok k ∧ k ≠ g) w (.slice A n c) l
  at_ : p ≤ n
  len : n ≤ 1099511627776
/-- of a row that is named -/
def RdL (ok : Nat → Prop) (g : Nat) (w : World) (A : Option Addr) (n c : Nat) (l rest : List UInt8) (err : Int) : Prop := ∃ p, Qr ok g w A n c p l err ∧ rest = l.drop p
def RdQ (ok : Nat → Prop) (g : Nat) (w : World) (rest : List UInt8) (err : Int) : Prop := ∃ A n c l, RdL ok g w A n c l rest err
section
variable {ok : Nat → Prop} {g : Nat} {w w' : World} {A : Option Addr} {n c p : Nat} {l rest : List UInt8} {err : Int}
theorem Qr.below (h : Qr ok g w A n c p l err) (hb : Below w.heap.size w w') : Qr ok g w' A n c p l err := ⟨h.loc.bel hb, h.row.below hb, h.at_, h.len⟩
theorem RdQ.below (h : RdQ ok g w rest err) (hb : Below w.heap.size w w') : RdQ ok g w' rest err := by
  obtain ⟨A, n, c, l, p, h, e⟩ := h
  exact ⟨A, n, c, l, p, h.below hb, e⟩
theorem Qr.lt (h : Qr ok g w A n c p l err) : g < w.heap.size := lt_of_heap h.loc
theorem RdQ.lt (h : RdQ ok g w rest err) : g < w.heap.size := by
  obtain ⟨A, n, c, l, p, h, e⟩ := h
  exact h.lt
theorem Qr.cells (h : Qr ok g w A n c p l err) : w.cell? ⟨g, 0, none⟩ = some (.slice A n c) ∧ w.cell? ⟨g, 1, none⟩ = some (.int .i64 (p : Int)) ∧ w.cell? ⟨g, 2, none⟩ = some (.int .i64 err) ∧ w.frozen? ⟨g, 1, none⟩ = false ∧ w.frozen? ⟨g, 2, none⟩ = false :=
  ⟨cell_of h.loc 0, cell_of h.loc 1, cell_of h.loc 2, free_of h.loc 1, free_of h.loc 2⟩
theorem Qr.fail (h : Qr ok g w A n c p l err) (x : Int) : Qr ok g (w.setCell ⟨g, 2, none⟩ (.int .i64 x)) A n c p l x :=
  ⟨by have := heap_set h.loc 2 (.int .i64 x); unfold Loc1; simpa using this, (h.row.ext (ext_set (ok := fun k => ok k ∧ k ≠ g) (fun e => e.2 rfl) _)).weak fun k hk => hk, h.at_, h.len⟩
theorem Qr.move (h : Qr ok g w A n c p l err) (q : Nat) (hq : q ≤ n) : Qr ok g (w.setCell ⟨g, 1, none⟩ (.int .i64 (q : Int))) A n c q l err :=
  ⟨by have := heap_set h.loc 1 (.int .i64 (q : Int)); unfold Loc1; simpa using this, (h.row.ext (ext_set (ok := fun k => ok k ∧ k ≠ g) (fun e => e.2 rfl) _)).weak fun k hk => hk, hq, h.len⟩
/-- a method that answers v and leaves the reader at s' -/
def Rl (ok : Nat → Prop) (g : Nat) (w : World) (A : Option Addr) (n c : Nat) (l : List UInt8) (v : Value) (s' : RS) (e : Ending) (w' : World) : Prop := e = .returned v ∧ RdL ok g w' A n c l s'.1 s'.2 ∧ Ext (fun k => k ≠ g) w w'
def Rq (ok : Nat → Prop) (g : Nat) (w : World) (v : Value) (s' : RS) (e : Ending) (w' : World) : Prop := e = .returned v ∧ RdQ ok g w' s'.1 s'.2 ∧ Ext (fun k => k ≠ g) w w'
theorem Rl.q {v : Value} {s' : RS} {e : Ending} (h : Rl ok g w A n c l v s' e w') : Rq ok g w v s' e w' := ⟨h.1, ⟨A, n, c, l, h.2.1⟩, h.2.2⟩
set_option maxHeartbeats 2000000 in
theorem qnumber_c (h : Qr ok g w A n c p l err) {many : Nat} (hm : many ≤ 8) : Calls Try.prog 91 #[.pointer (some ⟨g, 0, none⟩), .int .i64 (many : Int)] w (Ret w (.tuple #[.int .u64 ((if many ≤ n - p then num ((l.drop p).take many) else 0 : Nat) : Int), .bool (decide (many ≤ n - p))])) := by
  have hat := h.at_
  have hlen := h.len
  have hln := h.row.len.1
  have KK := Lib.hid (show ∀ W : World, Below w.heap.size w W → W.cell? ⟨g, 0, none⟩ = some (.slice A n c) ∧ W.cell? ⟨g, 1, none⟩ = some (.int .i64 (p : Int)) from fun W hW => ⟨(h.below hW).cells.1, (h.below hW).cells.2.1⟩)
  have HR := Lib.hid (show ∀ W : World, Below w.heap.size w W → Sl kU8 (fun k => ok k ∧ k ≠ g) W (.slice A n c) l from fun W hW => h.row.below hW)
  have HLN := Lib.hid hln
  clear h hln
  obtain ⟨c0, c1⟩ := KK.out w (Below.refl _ _)
  by_cases hmn : many ≤ n - p
  rotate_left
  · rw [if_neg hmn, decide_eq_false hmn]
    have hd : decide ((n : Int) - (p : Int) < (many : Int)) = true := by simp; omega
    go_enter Try.func91, Try.ntmps91
    go_wp2_with fail
    go_quiet ((fail))
    go_wp2_with fail
    all_goals
      go_ret2
      exact ⟨rfl, bW⟩
  rw [if_pos hmn, decide_eq_true hmn]
  have hd : decide ((n : Int) - (p : Int) < (many : Int)) = false := by simp; omega
  go_enter Try.func91, Try.ntmps91
  go_wp2_with fail
  go_quiet ((fail))
  go_wp2_with fail
  all_goals
    go_loopw [6, 7] (fun u v wr => ∃ k : Nat, k ≤ many ∧ u = .int .u64 (num ((l.drop p).take k) : Int) ∧ v = .int .i64 k ∧ Below w.heap.size w wr) (fun _ v _ => many - (intOf v).toNat)
    case atStart => exact ⟨0, Nat.zero_le _, rfl, rfl, bW⟩
    case round =>
      obtain ⟨k, hk, rfl, rfl, hb⟩ := hrel
      clear c0 c1
      obtain ⟨c0, c1⟩ := KK.out wr hb
      by_cases hlt : k < many
      · obtain ⟨ad, x, rfl, hx, hc⟩ := (HR.out wr hb).at1 (show p + k < n by omega)
        have hx' : (l.drop p)[k]? = some x := by rw [List.getElem?_drop]; exact hx
        have hs : num ((l.drop p).take (k + 1)) = num ((l.drop p).take k) * 256 + x.toNat := by
          rw [List.take_add_one, hx']; exact num_snoc _ _
        have hbd : num ((l.drop p).take k) < 72057594037927936 := by
          have h1 := num_lt ((l.drop p).take k)
          rw [List.length_take, List.length_drop, HLN.out, Nat.min_eq_left (by omega)] at h1
          have h2 : 256 ^ k ≤ 256 ^ 7 := Nat.pow_le_pow_right (by decide) (by omega)
          omega
        have hor := or_byte _ _ hbd x.toNat_lt
        have HS := Lib.hid hs
        clear hs hx hx'
        generalize num ((l.drop p).take k) = N at *
        have hx2 : (x.toNat : Int) < 256 := by have := x.toNat_lt; omega
        have hx1 : (0 : Int) ≤ x.toNat := by omega
        have hin : p + k < n := by omega
        go_wp2_with fail
        go_quiet ((fail))
        go_wp2_with fail
        all_goals
          go_roundw
          case rel => exact ⟨k + 1, by omega, by rw [HS.out]; go_num, by go_num, bW⟩
          case measure => simp [intOf]; omega
      · obtain rfl : k = many := by omega
        go_wp2_with fail
        go_ret2
        exact ⟨rfl, bW⟩
end
end Go.Proofs.Ytijlamajcdekkaa

/- The references' reader, walked: its methods read what the program's read. -/
namespace Go.Proofs.Ytijlamajcdekkaa
open Go.RowKit
set_option linter.unusedVariables false
set_option linter.unusedSimpArgs false
section
variable {ok : Nat → Prop} {w : World} {A : Option Addr} {n c : Nat} {l : List UInt8}
set_option maxHeartbeats 2000000 in
theorem qInt_l (g : Nat) (s : RS) (h : RdL ok g w A n c l s.1 s.2) : Calls Try.prog 65 #[.pointer (some ⟨g, 0, none⟩)] w (Rl ok g w A n c l (.int .i64 (rInt s).1) (rInt s).2) := by
  obtain ⟨rest, err⟩ := s
  obtain ⟨p, hq, hr⟩ := h
  try simp only at hq hr
  have hln := hq.row.len.1
  have hat := hq.at_
  have hlen := hq.len
  subst hr
  by_cases he : err = 0
  rotate_left
  · have hne : (err != 0) = true := by simpa using he
    obtain ⟨c0, c1, c2, f1, f2⟩ := hq.cells
    have e : rInt (l.drop p, err) = (0, (l.drop p, err)) := by
      first
        | (unfold rInt; exact if_pos he)
        | (unfold rCount; exact if_pos he)
        | (unfold rBool; exact if_pos he)
        | (unfold rNum; exact if_pos he)
    rw [e]
    have HF := Lib.hid (show RdL ok g w A n c l (l.drop p) err from ⟨p, hq, rfl⟩)
    clear hq e
    go_enter Try.func65, Try.ntmps65
    go_wp2_with fail
    go_ret
    exact ⟨rfl, HF.out, Ext.refl _ _⟩
  subst he
  by_cases hl : (l.drop p).length < 8
  · have e : rInt (l.drop p, 0) = (0, (l.drop p, 10)) := by unfold rInt; rw [if_neg (fun h => h rfl), if_pos hl]
    rw [e]
    clear e
    · have hd : ¬ 8 ≤ n - p := by rw [List.length_drop] at hl; omega
      have HN := qnumber_c hq (many := 8) (by omega)
      rw [if_neg hd, decide_eq_false hd] at HN
      replace HN := Lib.hid (show Calls Try.prog 91 #[.pointer (some ⟨g, 0, none⟩), .int .i64 8] w _ from HN)
      have HQ := Lib.hid hq
      obtain ⟨c0, c1, c2, f1, f2⟩ := hq.cells
      clear hq hl
      go_enter Try.func65, Try.ntmps65
      go_wp2_with fail
      refine HN.out.mono ?_
      rintro x9 w1 ⟨rfl, hb1⟩
      have HQ1 := Lib.hid (HQ.out.below hb1)
      clear c0 c1 c2 f1 f2
      obtain ⟨c0, c1, c2, f1, f2⟩ := HQ1.out.cells
      have HF := Lib.hid (show RdL ok g (w1.setCell ⟨g, 2, none⟩ (.int .i64 10)) A n c l (l.drop p) 10 from ⟨p, HQ1.out.fail 10, rfl⟩)
      have HX := Lib.hid (show Ext (fun k => k ≠ g) w (w1.setCell ⟨g, 2, none⟩ (.int .i64 10)) from (Below.ext hb1 _).trans (ext_set (fun e => e rfl) _))
      go_wp2_with fail
      go_ret
      exact ⟨rfl, HF.out, HX.out⟩
  have e : rInt (l.drop p, 0) = (s64 (num ((l.drop p).take 8)), ((l.drop p).drop 8, 0)) := by unfold rInt; rw [if_neg (fun h => h rfl), if_neg hl]
  rw [e]
  clear e
  have hd : 8 ≤ n - p := by rw [List.length_drop] at hl; omega
  have HN := qnumber_c hq (many := 8) (by omega)
  rw [if_pos hd, decide_eq_true hd] at HN
  have hlt := num_lt ((l.drop p).take 8)
  rw [List.length_take, List.length_drop, hln, Nat.min_eq_left hd] at hlt
  replace HN := Lib.hid (show Calls Try.prog 91 #[.pointer (some ⟨g, 0, none⟩), .int .i64 8] w _ from HN)
  have HQ := Lib.hid hq
  obtain ⟨c0, c1, c2, f1, f2⟩ := hq.cells
  clear hq hl
  go_enter Try.func65, Try.ntmps65
  go_wp2_with fail
  refine HN.out.mono ?_
  rintro x9 w1 ⟨rfl, hb1⟩
  have HQ1 := Lib.hid (HQ.out.below hb1)
  clear c0 c1 c2 f1 f2
  obtain ⟨c0, c1, c2, f1, f2⟩ := HQ1.out.cells
  have HF := Lib.hid (show RdL ok g (w1.setCell ⟨g, 1, none⟩ (.int .i64 ((p : Int) + 8))) A n c l ((l.drop p).drop 8) 0 from ⟨p + 8, HQ1.out.move (p + 8) (by omega), by rw [List.drop_drop]⟩)
  have HX := Lib.hid (show Ext (fun k => k ≠ g) w (w1.setCell ⟨g, 1, none⟩ (.int .i64 ((p : Int) + 8))) from (Below.ext hb1 _).trans (ext_set (fun e => e rfl) _))
  generalize num ((l.drop p).take 8) = N at *
  go_wp2_with fail
  go_ret
  exact ⟨rfl, HF.out, HX.out⟩
theorem qInt_c (g : Nat) (s : RS) (h : RdQ ok g w s.1 s.2) : Calls Try.prog 65 #[.pointer (some ⟨g, 0, none⟩)] w (Rq ok g w (.int .i64 (rInt s).1) (rInt s).2) := by
  obtain ⟨A, n, c, l, h⟩ := h
  exact (qInt_l g s h).mono fun _ _ h => h.q
set_option maxHeartbeats 2000000 in
theorem qCount_l (g : Nat) (m : Int) (s : RS) (h : RdL ok g w A n c l s.1 s.2) : Calls Try.prog 66 #[.pointer (some ⟨g, 0, none⟩), .int .i64 m] w (Rl ok g w A n c l (.int .i64 ((rCount m s).1 : Int)) (rCount m s).2) := by
  obtain ⟨rest, err⟩ := s
  obtain ⟨p, hq, hr⟩ := h
  try simp only at hq hr
  have hln := hq.row.len.1
  have hat := hq.at_
  have hlen := hq.len
  subst hr
  by_cases he : err = 0
  rotate_left
  · have hne : (err != 0) = true := by simpa using he
    obtain ⟨c0, c1, c2, f1, f2⟩ := hq.cells
    have e : rCount m (l.drop p, err) = (0, (l.drop p, err)) := by
      first
        | (unfold rInt; exact if_pos he)
        | (unfold rCount; exact if_pos he)
        | (unfold rBool; exact if_pos he)
        | (unfold rNum; exact if_pos he)
    rw [e]
    have HF := Lib.hid (show RdL ok g w A n c l (l.drop p) err from ⟨p, hq, rfl⟩)
    clear hq e
    go_enter Try.func66, Try.ntmps66
    go_wp2_with fail
    go_ret
    exact ⟨rfl, HF.out, Ext.refl _ _⟩
  subst he
  by_cases hl : (l.drop p).length < 4
  · have e : rCount m (l.drop p, 0) = (0, (l.drop p, 10)) := by unfold rCount; rw [if_neg (fun h => h rfl), if_pos hl]
    rw [e]
    clear e
    · have hd : ¬ 4 ≤ n - p := by rw [List.length_drop] at hl; omega
      have HN := qnumber_c hq (many := 4) (by omega)
      rw [if_neg hd, decide_eq_false hd] at HN
      replace HN := Lib.hid (show Calls Try.prog 91 #[.pointer (some ⟨g, 0, none⟩), .int .i64 4] w _ from HN)
      have HQ := Lib.hid hq
      obtain ⟨c0, c1, c2, f1, f2⟩ := hq.cells
      clear hq hl
      go_enter Try.func66, Try.ntmps66
      go_wp2_with fail
      refine HN.out.mono ?_
      rintro x9 w1 ⟨rfl, hb1⟩
      have HQ1 := Lib.hid (HQ.out.below hb1)
      clear c0 c1 c2 f1 f2
      obtain ⟨c0, c1, c2, f1, f2⟩ := HQ1.out.cells
      have HF := Lib.hid (show RdL ok g (w1.setCell ⟨g, 2, none⟩ (.int .i64 10)) A n c l (l.drop p) 10 from ⟨p, HQ1.out.fail 10, rfl⟩)
      have HX := Lib.hid (show Ext (fun k => k ≠ g) w (w1.setCell ⟨g, 2, none⟩ (.int .i64 10)) from (Below.ext hb1 _).trans (ext_set (fun e => e rfl) _))
      go_wp2_with fail
      go_ret
      exact ⟨rfl, HF.out, HX.out⟩
  by_cases hb : (num ((l.drop p).take 4) : Int) > max m 0
  · have e : rCount m (l.drop p, 0) = (0, (l.drop p, 11)) := by unfold rCount; rw [if_neg (fun h => h rfl), if_neg hl, if_pos hb]
    rw [e]
    clear e
    have hd : 4 ≤ n - p := by rw [List.length_drop] at hl; omega
    have HN := qnumber_c hq (many := 4) (by omega)
    rw [if_pos hd, decide_eq_true hd] at HN
    have hlt := num_lt ((l.drop p).take 4)
    rw [List.length_take, List.length_drop, hln, Nat.min_eq_left hd] at hlt
    replace HN := Lib.hid (show Calls Try.prog 91 #[.pointer (some ⟨g, 0, none⟩), .int .i64 4] w _ from HN)
    have HQ := Lib.hid hq
    obtain ⟨c0, c1, c2, f1, f2⟩ := hq.cells
    clear hq hl
    generalize num ((l.drop p).take 4) = N at *
    have hN0 : (0 : Int) ≤ N := by omega
    have hN1 : (N : Int) ≤ 4294967295 := by omega
    have h1 : (N : Int) > 0 := by omega
    have h2 : (N : Int) > m := by omega
    by_cases hm : m ≤ 0
    · go_enter Try.func66, Try.ntmps66
      go_wp2_with fail
      refine HN.out.mono ?_
      rintro x9 w1 ⟨rfl, hb1⟩
      have HQ1 := Lib.hid (HQ.out.below hb1)
      clear c0 c1 c2 f1 f2
      obtain ⟨c0, c1, c2, f1, f2⟩ := HQ1.out.cells
      have HF := Lib.hid (show RdL ok g (w1.setCell ⟨g, 2, none⟩ (.int .i64 11)) A n c l (l.drop p) 11 from ⟨p, HQ1.out.fail 11, rfl⟩)
      have HX := Lib.hid (show Ext (fun k => k ≠ g) w (w1.setCell ⟨g, 2, none⟩ (.int .i64 11)) from (Below.ext hb1 _).trans (ext_set (fun e => e rfl) _))
      go_wp2_with fail
      all_goals
        go_ret
        exact ⟨rfl, HF.out, HX.out⟩
    · go_enter Try.func66, Try.ntmps66
      go_wp2_with fail
      refine HN.out.mono ?_
      rintro x9 w1 ⟨rfl, hb1⟩
      have HQ1 := Lib.hid (HQ.out.below hb1)
      clear c0 c1 c2 f1 f2
      obtain ⟨c0, c1, c2, f1, f2⟩ := HQ1.out.cells
      have HF := Lib.hid (show RdL ok g (w1.setCell ⟨g, 2, none⟩ (.int .i64 11)) A n c l (l.drop p) 11 from ⟨p, HQ1.out.fail 11, rfl⟩)
      have HX := Lib.hid (show Ext (fun k => k ≠ g) w (w1.setCell ⟨g, 2, none⟩ (.int .i64 11)) from (Below.ext hb1 _).trans (ext_set (fun e => e rfl) _))
      go_wp2_with fail
      all_goals
        go_ret
        exact ⟨rfl, HF.out, HX.out⟩
  have e : rCount m (l.drop p, 0) = (num ((l.drop p).take 4), ((l.drop p).drop 4, 0)) := by unfold rCount; rw [if_neg (fun h => h rfl), if_neg hl, if_neg hb]
  rw [e]
  clear e
  have hd : 4 ≤ n - p := by rw [List.length_drop] at hl; omega
  have HN := qnumber_c hq (many := 4) (by omega)
  rw [if_pos hd, decide_eq_true hd] at HN
  have hlt := num_lt ((l.drop p).take 4)
  rw [List.length_take, List.length_drop, hln, Nat.min_eq_left hd] at hlt
  replace HN := Lib.hid (show Calls Try.prog 91 #[.pointer (some ⟨g, 0, none⟩), .int .i64 4] w _ from HN)
  have HQ := Lib.hid hq
  obtain ⟨c0, c1, c2, f1, f2⟩ := hq.cells
  clear hq hl
  generalize num ((l.drop p).take 4) = N at *
  have hN0 : (0 : Int) ≤ N := by omega
  have hN1 : (N : Int) ≤ 4294967295 := by omega
  by_cases hm : m ≤ 0
  · obtain rfl : N = 0 := by omega
    go_enter Try.func66, Try.ntmps66
    go_wp2_with fail
    refine HN.out.mono ?_
    rintro x9 w1 ⟨rfl, hb1⟩
    have HQ1 := Lib.hid (HQ.out.below hb1)
    clear c0 c1 c2 f1 f2
    obtain ⟨c0, c1, c2, f1, f2⟩ := HQ1.out.cells
    have HF := Lib.hid (show RdL ok g (w1.setCell ⟨g, 1, none⟩ (.int .i64 ((p : Int) + 4))) A n c l ((l.drop p).drop 4) 0 from ⟨p + 4, HQ1.out.move (p + 4) (by omega), by rw [List.drop_drop]⟩)
    have HX := Lib.hid (show Ext (fun k => k ≠ g) w (w1.setCell ⟨g, 1, none⟩ (.int .i64 ((p : Int) + 4))) from (Below.ext hb1 _).trans (ext_set (fun e => e rfl) _))
    go_wp2_with fail
    all_goals
      go_ret
      exact ⟨rfl, HF.out, HX.out⟩
  · have h2 : ¬ (N : Int) > m := by omega
    go_enter Try.func66, Try.ntmps66
    go_wp2_with fail
    refine HN.out.mono ?_
    rintro x9 w1 ⟨rfl, hb1⟩
    have HQ1 := Lib.hid (HQ.out.below hb1)
    clear c0 c1 c2 f1 f2
    obtain ⟨c0, c1, c2, f1, f2⟩ := HQ1.out.cells
    have HF := Lib.hid (show RdL ok g (w1.setCell ⟨g, 1, none⟩ (.int .i64 ((p : Int) + 4))) A n c l ((l.drop p).drop 4) 0 from ⟨p + 4, HQ1.out.move (p + 4) (by omega), by rw [List.drop_drop]⟩)
    have HX := Lib.hid (show Ext (fun k => k ≠ g) w (w1.setCell ⟨g, 1, none⟩ (.int .i64 ((p : Int) + 4))) from (Below.ext hb1 _).trans (ext_set (fun e => e rfl) _))
    go_wp2_with fail
    all_goals
      go_ret
      exact ⟨rfl, HF.out, HX.out⟩
theorem qCount_c (g : Nat) (m : Int) (s : RS) (h : RdQ ok g w s.1 s.2) : Calls Try.prog 66 #[.pointer (some ⟨g, 0, none⟩), .int .i64 m] w (Rq ok g w (.int .i64 ((rCount m s).1 : Int)) (rCount m s).2) := by
  obtain ⟨A, n, c, l, h⟩ := h
  exact (qCount_l g m s h).mono fun _ _ h => h.q
theorem truthE_num (l : List UInt8) : truthE l = if num l > 1 then 12 else 0 := rfl
set_option maxHeartbeats 2000000 in
theorem qBool_l (g : Nat) (s : RS) (h : RdL ok g w A n c l s.1 s.2) : Calls Try.prog 104 #[.pointer (some ⟨g, 0, none⟩)] w (Rl ok g w A n c l (.bool (rBool s).1) (rBool s).2) := by
  obtain ⟨rest, err⟩ := s
  obtain ⟨p, hq, hr⟩ := h
  try simp only at hq hr
  have hln := hq.row.len.1
  have hat := hq.at_
  have hlen := hq.len
  subst hr
  by_cases he : err = 0
  rotate_left
  · have hne : (err != 0) = true := by simpa using he
    obtain ⟨c0, c1, c2, f1, f2⟩ := hq.cells
    have e : rBool (l.drop p, err) = (false, (l.drop p, err)) := by
      first
        | (unfold rInt; exact if_pos he)
        | (unfold rCount; exact if_pos he)
        | (unfold rBool; exact if_pos he)
        | (unfold rNum; exact if_pos he)
    rw [e]
    have HF := Lib.hid (show RdL ok g w A n c l (l.drop p) err from ⟨p, hq, rfl⟩)
    clear hq e
    go_enter Try.func104, Try.ntmps104
    go_wp2_with fail
    go_ret
    exact ⟨rfl, HF.out, Ext.refl _ _⟩
  subst he
  by_cases hl : (l.drop p).length < 1
  · have e : rBool (l.drop p, 0) = (false, (l.drop p, 10)) := by unfold rBool; rw [if_neg (fun h => h rfl), if_pos hl]
    rw [e]
    clear e
    · have hd : ¬ 1 ≤ n - p := by rw [List.length_drop] at hl; omega
      have HN := qnumber_c hq (many := 1) (by omega)
      rw [if_neg hd, decide_eq_false hd] at HN
      replace HN := Lib.hid (show Calls Try.prog 91 #[.pointer (some ⟨g, 0, none⟩), .int .i64 1] w _ from HN)
      have HQ := Lib.hid hq
      obtain ⟨c0, c1, c2, f1, f2⟩ := hq.cells
      clear hq hl
      go_enter Try.func104, Try.ntmps104
      go_wp2_with fail
      refine HN.out.mono ?_
      rintro x9 w1 ⟨rfl, hb1⟩
      have HQ1 := Lib.hid (HQ.out.below hb1)
      clear c0 c1 c2 f1 f2
      obtain ⟨c0, c1, c2, f1, f2⟩ := HQ1.out.cells
      have HF := Lib.hid (show RdL ok g (w1.setCell ⟨g, 2, none⟩ (.int .i64 10)) A n c l (l.drop p) 10 from ⟨p, HQ1.out.fail 10, rfl⟩)
      have HX := Lib.hid (show Ext (fun k => k ≠ g) w (w1.setCell ⟨g, 2, none⟩ (.int .i64 10)) from (Below.ext hb1 _).trans (ext_set (fun e => e rfl) _))
      go_wp2_with fail
      go_ret
      exact ⟨rfl, HF.out, HX.out⟩
  by_cases hb : num ((l.drop p).take 1) > 1
  · have e : rBool (l.drop p, 0) = (false, (l.drop p, 12)) := by unfold rBool; rw [if_neg (fun h => h rfl), if_neg hl, truthE_num, if_pos hb]; rfl
    rw [e]
    clear e
    have hd : 1 ≤ n - p := by rw [List.length_drop] at hl; omega
    have HN := qnumber_c hq (many := 1) (by omega)
    rw [if_pos hd, decide_eq_true hd] at HN
    have hlt := num_lt ((l.drop p).take 1)
    rw [List.length_take, List.length_drop, hln, Nat.min_eq_left hd] at hlt
    replace HN := Lib.hid (show Calls Try.prog 91 #[.pointer (some ⟨g, 0, none⟩), .int .i64 1] w _ from HN)
    have HQ := Lib.hid hq
    obtain ⟨c0, c1, c2, f1, f2⟩ := hq.cells
    clear hq hl
    generalize num ((l.drop p).take 1) = N at *
    have h1 : (N : Int) > 1 := by omega
    go_enter Try.func104, Try.ntmps104
    go_wp2_with fail
    refine HN.out.mono ?_
    rintro x9 w1 ⟨rfl, hb1⟩
    have HQ1 := Lib.hid (HQ.out.below hb1)
    clear c0 c1 c2 f1 f2
    obtain ⟨c0, c1, c2, f1, f2⟩ := HQ1.out.cells
    have HF := Lib.hid (show RdL ok g (w1.setCell ⟨g, 2, none⟩ (.int .i64 12)) A n c l (l.drop p) 12 from ⟨p, HQ1.out.fail 12, rfl⟩)
    have HX := Lib.hid (show Ext (fun k => k ≠ g) w (w1.setCell ⟨g, 2, none⟩ (.int .i64 12)) from (Below.ext hb1 _).trans (ext_set (fun e => e rfl) _))
    go_wp2_with fail
    all_goals
      go_ret
      exact ⟨rfl, HF.out, HX.out⟩
  have e : rBool (l.drop p, 0) = (num ((l.drop p).take 1) == 1, ((l.drop p).drop 1, 0)) := by unfold rBool; rw [if_neg (fun h => h rfl), if_neg hl, truthE_num, if_neg hb]; rfl
  rw [e]
  clear e
  have hd : 1 ≤ n - p := by rw [List.length_drop] at hl; omega
  have HN := qnumber_c hq (many := 1) (by omega)
  rw [if_pos hd, decide_eq_true hd] at HN
  have hlt := num_lt ((l.drop p).take 1)
  rw [List.length_take, List.length_drop, hln, Nat.min_eq_left hd] at hlt
  replace HN := Lib.hid (show Calls Try.prog 91 #[.pointer (some ⟨g, 0, none⟩), .int .i64 1] w _ from HN)
  have HQ := Lib.hid hq
  obtain ⟨c0, c1, c2, f1, f2⟩ := hq.cells
  clear hq hl
  generalize num ((l.drop p).take 1) = N at *
  have h1 : N = 0 ∨ N = 1 := by omega
  clear hb hlt
  rcases h1 with rfl | rfl
  all_goals
    go_enter Try.func104, Try.ntmps104
    go_wp2_with fail
    refine HN.out.mono ?_
    rintro x9 w1 ⟨rfl, hb1⟩
    have HQ1 := Lib.hid (HQ.out.below hb1)
    clear c0 c1 c2 f1 f2
    obtain ⟨c0, c1, c2, f1, f2⟩ := HQ1.out.cells
    have HF := Lib.hid (show RdL ok g (w1.setCell ⟨g, 1, none⟩ (.int .i64 ((p : Int) + 1))) A n c l ((l.drop p).drop 1) 0 from ⟨p + 1, HQ1.out.move (p + 1) (by omega), by rw [List.drop_drop]⟩)
    have HX := Lib.hid (show Ext (fun k => k ≠ g) w (w1.setCell ⟨g, 1, none⟩ (.int .i64 ((p : Int) + 1))) from (Below.ext hb1 _).trans (ext_set (fun e => e rfl) _))
    go_wp2_with fail
    go_ret
    exact ⟨rfl, HF.out, HX.out⟩
theorem qBool_c (g : Nat) (s : RS) (h : RdQ ok g w s.1 s.2) : Calls Try.prog 104 #[.pointer (some ⟨g, 0, none⟩)] w (Rq ok g w (.bool (rBool s).1) (rBool s).2) := by
  obtain ⟨A, n, c, l, h⟩ := h
  exact (qBool_l g s h).mono fun _ _ h => h.q
set_option maxHeartbeats 2000000 in
theorem qNum_l (g : Nat) (s : RS) (h : RdL ok g w A n c l s.1 s.2) : Calls Try.prog 80 #[.pointer (some ⟨g, 0, none⟩)] w (Rl ok g w A n c l (.float .f64 (rNum s).1) (rNum s).2) := by
  have FB := f64from_run
  have SF := store_f64
  obtain ⟨rest, err⟩ := s
  obtain ⟨p, hq, hr⟩ := h
  try simp only at hq hr
  have hln := hq.row.len.1
  have hat := hq.at_
  have hlen := hq.len
  subst hr
  by_cases he : err = 0
  rotate_left
  · have hne : (err != 0) = true := by simpa using he
    obtain ⟨c0, c1, c2, f1, f2⟩ := hq.cells
    have e : rNum (l.drop p, err) = (0, (l.drop p, err)) := by
      first
        | (unfold rInt; exact if_pos he)
        | (unfold rCount; exact if_pos he)
        | (unfold rBool; exact if_pos he)
        | (unfold rNum; exact if_pos he)
    rw [e]
    have HF := Lib.hid (show RdL ok g w A n c l (l.drop p) err from ⟨p, hq, rfl⟩)
    clear hq e
    go_enter Try.func80, Try.ntmps80
    go_wp2_with fail
    go_ret
    exact ⟨rfl, HF.out, Ext.refl _ _⟩
  subst he
  by_cases hl : (l.drop p).length < 8
  · have e : rNum (l.drop p, 0) = (0, (l.drop p, 10)) := by unfold rNum; rw [if_neg (fun h => h rfl), if_pos hl]
    rw [e]
    clear e
    · have hd : ¬ 8 ≤ n - p := by rw [List.length_drop] at hl; omega
      have HN := qnumber_c hq (many := 8) (by omega)
      rw [if_neg hd, decide_eq_false hd] at HN
      replace HN := Lib.hid (show Calls Try.prog 91 #[.pointer (some ⟨g, 0, none⟩), .int .i64 8] w _ from HN)
      have HQ := Lib.hid hq
      obtain ⟨c0, c1, c2, f1, f2⟩ := hq.cells
      clear hq hl
      go_enter Try.func80, Try.ntmps80
      go_wp2_with fail
      refine HN.out.mono ?_
      rintro x9 w1 ⟨rfl, hb1⟩
      have HQ1 := Lib.hid (HQ.out.below hb1)
      clear c0 c1 c2 f1 f2
      obtain ⟨c0, c1, c2, f1, f2⟩ := HQ1.out.cells
      have HF := Lib.hid (show RdL ok g (w1.setCell ⟨g, 2, none⟩ (.int .i64 10)) A n c l (l.drop p) 10 from ⟨p, HQ1.out.fail 10, rfl⟩)
      have HX := Lib.hid (show Ext (fun k => k ≠ g) w (w1.setCell ⟨g, 2, none⟩ (.int .i64 10)) from (Below.ext hb1 _).trans (ext_set (fun e => e rfl) _))
      go_wp2_with fail
      go_ret
      exact ⟨rfl, HF.out, HX.out⟩
  have hfe : floatE ((l.drop p).take 8) = if nanB (num ((l.drop p).take 8)) = true ∧ num ((l.drop p).take 8) ≠ 9221120237041090561 then 12 else 0 := rfl
  by_cases hb : nanB (num ((l.drop p).take 8)) = true ∧ num ((l.drop p).take 8) ≠ 9221120237041090561
  · have e : rNum (l.drop p, 0) = (0, (l.drop p, 12)) := by unfold rNum; rw [if_neg (fun h => h rfl), if_neg hl]; simp only; rw [hfe, if_pos hb]; rfl
    rw [e]
    clear e
    have hd : 8 ≤ n - p := by rw [List.length_drop] at hl; omega
    have HN := qnumber_c hq (many := 8) (by omega)
    rw [if_pos hd, decide_eq_true hd] at HN
    have hlt := num_lt ((l.drop p).take 8)
    rw [List.length_take, List.length_drop, hln, Nat.min_eq_left hd] at hlt
    replace HN := Lib.hid (show Calls Try.prog 91 #[.pointer (some ⟨g, 0, none⟩), .int .i64 8] w _ from HN)
    have HQ := Lib.hid hq
    obtain ⟨c0, c1, c2, f1, f2⟩ := hq.cells
    clear hq hl
    clear hfe
    generalize num ((l.drop p).take 8) = N at *
    obtain ⟨hb1', hb2'⟩ := hb
    have h1 : ((N : Int) != 9221120237041090561) = true := by
      have : ¬ (N : Int) = 9221120237041090561 := by omega
      simpa using this
    have hn' : (FloatKind.f64.format.order N N != some Ordering.eq) = true := hb1'
    go_enter Try.func80, Try.ntmps80
    go_wp2_with fail
    refine HN.out.mono ?_
    rintro x9 w1 ⟨rfl, hb1⟩
    have HQ1 := Lib.hid (HQ.out.below hb1)
    clear c0 c1 c2 f1 f2
    obtain ⟨c0, c1, c2, f1, f2⟩ := HQ1.out.cells
    have HF := Lib.hid (show RdL ok g (w1.setCell ⟨g, 2, none⟩ (.int .i64 12)) A n c l (l.drop p) 12 from ⟨p, HQ1.out.fail 12, rfl⟩)
    have HX := Lib.hid (show Ext (fun k => k ≠ g) w (w1.setCell ⟨g, 2, none⟩ (.int .i64 12)) from (Below.ext hb1 _).trans (ext_set (fun e => e rfl) _))
    go_wp2_with fail
    all_goals
      go_ret
      exact ⟨rfl, HF.out, HX.out⟩
  have e : rNum (l.drop p, 0) = (num ((l.drop p).take 8), ((l.drop p).drop 8, 0)) := by unfold rNum; rw [if_neg (fun h => h rfl), if_neg hl]; simp only; rw [hfe, if_neg hb]; rfl
  rw [e]
  clear e
  have hd : 8 ≤ n - p := by rw [List.length_drop] at hl; omega
  have HN := qnumber_c hq (many := 8) (by omega)
  rw [if_pos hd, decide_eq_true hd] at HN
  have hlt := num_lt ((l.drop p).take 8)
  rw [List.length_take, List.length_drop, hln, Nat.min_eq_left hd] at hlt
  replace HN := Lib.hid (show Calls Try.prog 91 #[.pointer (some ⟨g, 0, none⟩), .int .i64 8] w _ from HN)
  have HQ := Lib.hid hq
  obtain ⟨c0, c1, c2, f1, f2⟩ := hq.cells
  clear hq hl
  clear hfe
  generalize num ((l.drop p).take 8) = N at *
  cases hn : nanB N
  · have hn' : (FloatKind.f64.format.order N N != some Ordering.eq) = false := hn
    clear hb
    go_enter Try.func80, Try.ntmps80
    go_wp2_with fail
    refine HN.out.mono ?_
    rintro x9 w1 ⟨rfl, hb1⟩
    have HQ1 := Lib.hid (HQ.out.below hb1)
    clear c0 c1 c2 f1 f2
    obtain ⟨c0, c1, c2, f1, f2⟩ := HQ1.out.cells
    have HF := Lib.hid (show RdL ok g (w1.setCell ⟨g, 1, none⟩ (.int .i64 ((p : Int) + 8))) A n c l ((l.drop p).drop 8) 0 from ⟨p + 8, HQ1.out.move (p + 8) (by omega), by rw [List.drop_drop]⟩)
    have HX := Lib.hid (show Ext (fun k => k ≠ g) w (w1.setCell ⟨g, 1, none⟩ (.int .i64 ((p : Int) + 8))) from (Below.ext hb1 _).trans (ext_set (fun e => e rfl) _))
    go_wp2_with fail
    all_goals
      go_ret
      exact ⟨rfl, HF.out, HX.out⟩
  · have hn' : (FloatKind.f64.format.order N N != some Ordering.eq) = true := hn
    obtain rfl : N = 9221120237041090561 := Classical.byContradiction fun h => hb ⟨hn, h⟩
    clear hb
    go_enter Try.func80, Try.ntmps80
    go_wp2_with fail
    refine HN.out.mono ?_
    rintro x9 w1 ⟨rfl, hb1⟩
    have HQ1 := Lib.hid (HQ.out.below hb1)
    clear c0 c1 c2 f1 f2
    obtain ⟨c0, c1, c2, f1, f2⟩ := HQ1.out.cells
    have HF := Lib.hid (show RdL ok g (w1.setCell ⟨g, 1, none⟩ (.int .i64 ((p : Int) + 8))) A n c l ((l.drop p).drop 8) 0 from ⟨p + 8, HQ1.out.move (p + 8) (by omega), by rw [List.drop_drop]⟩)
    have HX := Lib.hid (show Ext (fun k => k ≠ g) w (w1.setCell ⟨g, 1, none⟩ (.int .i64 ((p : Int) + 8))) from (Below.ext hb1 _).trans (ext_set (fun e => e rfl) _))
    go_wp2_with fail
    all_goals
      go_ret
      exact ⟨rfl, HF.out, HX.out⟩
theorem qNum_c (g : Nat) (s : RS) (h : RdQ ok g w s.1 s.2) : Calls Try.prog 80 #[.pointer (some ⟨g, 0, none⟩)] w (Rq ok g w (.float .f64 (rNum s).1) (rNum s).2) := by
  obtain ⟨A, n, c, l, h⟩ := h
  exact (qNum_l g s h).mono fun _ _ h => h.q
theorem qLeft_c (g : Nat) (s : RS) (h : RdQ ok g w s.1 s.2) : Calls Try.prog 29 #[.pointer (some ⟨g, 0, none⟩)] w (Ret w (.int .i64 (s.1.length : Int))) := by
  obtain ⟨A, n, c, l, h⟩ := h
  obtain ⟨rest, err⟩ := s
  obtain ⟨p, hq, hr⟩ := h
  try simp only at hq hr
  have hln := hq.row.len.1
  have hat := hq.at_
  have hlen := hq.len
  subst hr
  obtain ⟨c0, c1, c2, f1, f2⟩ := hq.cells
  have e : ((l.drop p).length : Int) = (n : Int) - (p : Int) := by rw [List.length_drop]; omega
  show Calls _ _ _ _ (Ret w (.int .i64 ((l.drop p).length : Int)))
  rw [e]
  clear hq e
  go_enter Try.func29, Try.ntmps29
  go_wp2_with (go_quiet ((fail)))
  all_goals
    go_ret
    exact ⟨rfl, bW⟩
end
end Go.Proofs.Ytijlamajcdekkaa

/- The references' reader, walked: Bytes. -/
namespace Go.Proofs.Ytijlamajcdekkaa
open Go.RowKit
set_option linter.unusedVariables false
set_option linter.unusedSimpArgs false
/-- bytes hang on nothing -/
theorem rps_u8 {ok ok' : Nat → Prop} {w w' : World} : ∀ {xs : List UInt8} {cs : List Value}, Rps kU8 ok w xs cs → Rps kU8 ok' w' xs cs
  | [], _, h => h
  | _ :: _, _, ⟨c, r, e, hc, hr⟩ => ⟨c, r, e, hc, rps_u8 hr⟩
theorem own_u8 {e : TypeId} {ok ok' : Nat → Prop} {w : World} {b : Nat} {v : Value} {xs : List UInt8} (h : Own kU8 e ok w b v xs) : Own kU8 e ok' w b v xs := by
  obtain ⟨cs, h1, h2⟩ := h
  exact ⟨cs, h1, rps_u8 h2⟩
theorem own_u8_far {e : TypeId} {ok : Nat → Prop} {w w' : World} {b g : Nat} {v : Value} {xs : List UInt8} (h : Own kU8 e ok w b v xs) (hg : g < b) (x : Ext (fun k => k ≠ g) w w') : Own kU8 e ok w' b v xs := by
  have h1 : Own kU8 e (fun _ => False) w b v xs := own_u8 h
  refine own_u8 (h1.ext (x.weak fun k _ hk => ?_))
  rcases hk with hk | hk
  · exact hk.elim
  · have := (h.lt k hk.symm).1
    omega
theorem rps_sc {α : Type} {f : α → Value} {h1 : ∀ x, (f x).oneCell' = true} {ok ok' : Nat → Prop} {w w' : World} : ∀ {xs : List α} {cs : List Value}, Rps (scalar f h1) ok w xs cs → Rps (scalar f h1) ok' w' xs cs
  | [], _, h => h
  | _ :: _, _, ⟨c, r, e, hc, hr⟩ => ⟨c, r, e, hc, rps_sc hr⟩
theorem own_sc {α : Type} {f : α → Value} {h1 : ∀ x, (f x).oneCell' = true} {e : TypeId} {ok ok' : Nat → Prop} {w : World} {b : Nat} {v : Value} {xs : List α} (h : Own (scalar f h1) e ok w b v xs) : Own (scalar f h1) e ok' w b v xs := by
  obtain ⟨cs, h1, h2⟩ := h
  exact ⟨cs, h1, rps_sc h2⟩
theorem own_sc_far {α : Type} {f : α → Value} {h1 : ∀ x, (f x).oneCell' = true} {e : TypeId} {ok : Nat → Prop} {w w' : World} {b g : Nat} {v : Value} {xs : List α} (h : Own (scalar f h1) e ok w b v xs) (hg : g < b) (x : Ext (fun k => k ≠ g) w w') : Own (scalar f h1) e ok w' b v xs := by
  have h1 := own_sc (ok' := fun _ => False) h
  refine own_sc (h1.ext (x.weak fun k _ hk => ?_))
  rcases hk with hk | hk
  · exact hk.elim
  · have := (h.lt k hk.symm).1
    omega
theorem own_str_far {e : TypeId} {ok : Nat → Prop} {w w' : World} {b g : Nat} {v : Value} {xs : List (List UInt8)} (h : Own kStr e ok w b v xs) (hg : g < b) (x : Ext (fun k => k ≠ g) w w') : Own kStr e ok w' b v xs := own_sc_far (h1 := fun _ => rfl) h hg x
theorem own_int_far {e : TypeId} {ok : Nat → Prop} {w w' : World} {b g : Nat} {v : Value} {xs : List Int} (h : Own kI e ok w b v xs) (hg : g < b) (x : Ext (fun k => k ≠ g) w w') : Own kI e ok w' b v xs := own_sc_far (h1 := fun _ => rfl) h hg x
/-- onto a literal of nothing, however long -/
theorem app_freshL {P : Program} {α : Type} {d : Kd α} {e t tx ty : TypeId} {W : World} {g b0 bytes : Nat} {z y : Value} {ys : List α} (ht : P.underlying t = some (.slice e)) (htx : P.underlying tx = some (.slice e)) (hi : (P.info? e).map (fun i => (i.zero, i.size, i.bytes)) = some (some z, d.sz, bytes)) (hzs : z.cells.size = d.sz)
    (hL : Loc1 g e #[] W) (hy : Sl d (fun k => k < b0) W y ys) (hb0 : b0 ≤ g) (hb : ys.length * bytes ≤ 140737488355328 ∧ ys.length ≤ 140737488355328) :
    ∃ v' w', (Builtin.append_ #[t, tx] ty #[.slice (some ⟨g, 0, none⟩) 0 0, y]).run P W = .ok v' w' ∧ (Own d e (fun _ => True) w' b0 v' ys ∧ Below b0 W w' ∧ (∀ k, k < W.heap.size → k ≠ g → w'.heap[k]? = W.heap[k]?) ∧ ∀ k, v'.ownBlock = some k → k = g ∨ k = W.heap.size) := by
  obtain ⟨i0, hi0, hz0, hz1, hz2⟩ := info_parts hi
  have hg := lt_of_heap hL
  have h : Own d e (fun _ => True) W g (.slice (some ⟨g, 0, none⟩) 0 0) ([] : List α) :=
    ⟨[], ⟨by simp, .inr ⟨g, 0, #[], rfl, Nat.le_refl _, hL, Nat.le_refl _, Nat.zero_le _, by simp, by simp⟩⟩, rfl⟩
  obtain ⟨news, hn, hs⟩ := hy.src (P := P) htx
  obtain ⟨v', w', a, b, c, hat⟩ := run_append_own (ty := ty) (P := P) ht hi0 hz0 hz1 hz2 hzs h (Nat.le_of_lt hg) (hn.weak fun k hk => ⟨trivial, fun x => by injection x with x; have x : k = g := x; omega⟩) hs (by simp only [List.length_nil, Nat.zero_add]; omega) (by simp only [List.length_nil, Nat.zero_add]; omega)
  refine ⟨v', w', a, b.lower hb0, below_grown (Below.refl _ _) h hb0 (by omega) c, fun k hk hne => c.block k hk (by simpa [Value.ownBlock] using hne), fun k hk => ?_⟩
  rcases hat with hat | hat
  · rw [hat] at hk; exact .inl (by simpa [Value.ownBlock] using hk.symm)
  · rw [hat] at hk; exact .inr (by injection hk with hk; exact hk.symm)
section
variable {ok : Nat → Prop} {w : World} {A : Option Addr} {n c : Nat} {l : List UInt8}
set_option maxRecDepth 20000 in
set_option maxHeartbeats 2000000 in
theorem qBytes_c (g : Nat) (m : Int) (s : RS) (h : RdQ ok g w s.1 s.2) : Calls Try.prog 67 #[.pointer (some ⟨g, 0, none⟩), .int .i64 m] w fun e w' =>
    ∃ v, e = .returned v ∧ Own kU8 5 ok w' w.heap.size v (rBytes m s).1 ∧ RdQ ok g w' (rBytes m s).2.1 (rBytes m s).2.2 ∧ Ext (fun k => k ≠ g) w w' := by
  obtain ⟨A, n, c, l, h⟩ := h
  have HC := Lib.hid (qCount_l g m s h)
  have hlt := rCount_lt m s
  have hsm : (rCount m s).2.2 = 0 → s.2 = 0 := fun h => Decidable.byContradiction fun hn => by
    unfold rCount at h
    rw [if_pos hn] at h
    exact hn h
  have EB := Lib.hid (show rBytes m s = if (rCount m s).2.2 ≠ 0 then ([], (rCount m s).2) else if (rCount m s).2.1.length < (rCount m s).1 then ([], (s.1, 10)) else ((rCount m s).2.1.take (rCount m s).1, ((rCount m s).2.1.drop (rCount m s).1, 0)) from rfl)
  obtain ⟨p, hq, hr⟩ := h
  have hat := hq.at_
  have hlen := hq.len
  have hln := hq.row.len.1
  have hnc := hq.row.len.2.1
  have hA0 := hq.row.len.2.2.2
  obtain ⟨c0, c1, c2, f1, f2⟩ := hq.cells
  have HR := Lib.hid hr
  clear hq hr
  generalize rCount m s = S at *
  obtain ⟨k, rest', err'⟩ := S
  simp only at hlt hsm
  by_cases he : err' = 0
  rotate_left
  · have hne : (err' == 0) = false := by simpa using he
    have hne2 : (err' != 0) = true := by simpa using he
    have e : rBytes m s = ([], (rest', err')) := by rw [EB.out, if_pos he]
    rw [e]
    clear e EB
    go_enter Try.func67, Try.ntmps67
    go_wp2_with (go_quiet ((fail)))
    refine HC.out.mono ?_
    rintro x9 w1 ⟨rfl, ⟨p1, hq1, hr1⟩, hx1⟩
    have HX := Lib.hid hx1
    have HF := Lib.hid (show RdQ ok g w1 rest' err' from ⟨A, n, c, l, p1, hq1, hr1⟩)
    obtain ⟨d0, d1, d2, g1, g2⟩ := hq1.cells
    clear hq1 hr1 hx1
    go_wp2_with (go_quiet ((fail)))
    all_goals
      go_ret
      exact ⟨_, rfl, Own.nil _ _ _ _ _, HF.out.below bW, HX.out.trans (Below.ext bW _)⟩
  subst he
  rw [if_neg (fun h => h rfl)] at EB
  by_cases hl : rest'.length < k
  · have e : rBytes m s = ([], (s.1, 10)) := by rw [EB.out, if_pos hl]
    rw [e]
    clear e EB
    go_enter Try.func67, Try.ntmps67
    go_wp2_with (go_quiet ((fail)))
    refine HC.out.mono ?_
    rintro x9 w1 ⟨rfl, ⟨p1, hq1, hr1⟩, hx1⟩
    have hp1 := hq1.at_
    have hd : decide ((n : Int) - (p1 : Int) < (k : Int)) = true := by
      have hr1 : rest' = l.drop p1 := hr1
      rw [hr1, List.length_drop] at hl
      simp; omega
    have HQ1 := Lib.hid hq1
    obtain ⟨d0, d1, d2, g1, g2⟩ := hq1.cells
    clear hq1 hr1 hl
    go_wp2_with fail
    go_quiet ((fail))
    have hb2 : Below w1.heap.size w1 (w1.drewN nq) := bW
    generalize w1.drewN nq = w2 at *
    have hq2 := HQ1.out.below hb2
    have hx2 := hx1.trans (Below.ext hb2 _)
    have HF := Lib.hid (show RdQ ok g ((w2.setCell ⟨g, 2, none⟩ (.int .i64 10)).setCell ⟨g, 1, none⟩ (.int .i64 (p : Int))) s.1 10 from ⟨A, n, c, l, p, (hq2.fail 10).move p hat, HR.out⟩)
    have HX := Lib.hid (show Ext (fun k => k ≠ g) w ((w2.setCell ⟨g, 2, none⟩ (.int .i64 10)).setCell ⟨g, 1, none⟩ (.int .i64 (p : Int))) from (hx2.trans (ext_set (fun e => e rfl) _)).trans (ext_set (fun e => e rfl) _))
    clear d0 d1 d2 g1 g2
    obtain ⟨d0, d1, d2, g1, g2⟩ := hq2.cells
    clear hq2 hx1 hx2
    go_wp2_with fail
    all_goals
      go_ret
      exact ⟨_, rfl, Own.nil _ _ _ _ _, HF.out, HX.out⟩
  have e : rBytes m s = (rest'.take k, (rest'.drop k, 0)) := by rw [EB.out, if_neg hl]
  rw [e]
  clear e EB
  go_enter Try.func67, Try.ntmps67
  go_wp2_with (go_quiet ((fail)))
  refine HC.out.mono ?_
  rintro x9 w1 ⟨rfl, ⟨p1, hq1, hr1⟩, hx1⟩
  have hp1 := hq1.at_
  have hr1' : rest' = l.drop p1 := hr1
  subst hr1'
  rw [List.length_drop] at hl
  have hd : decide ((n : Int) - (p1 : Int) < (k : Int)) = false := by simp; omega
  have hkn : k ≤ n - p1 := by omega
  have HQ1 := Lib.hid hq1
  obtain ⟨d0, d1, d2, g1, g2⟩ := hq1.cells
  clear hq1 hr1 hl
  go_wp2_with fail
  go_quiet ((fail))
  have hb2 : Below w1.heap.size w1 (w1.drewN nq) := bW
  generalize w1.drewN nq = w2 at *
  have hq2 := HQ1.out.below hb2
  have hx2 := hx1.trans (Below.ext hb2 _)
  have HQ2 := Lib.hid hq2
  clear d0 d1 d2 g1 g2
  obtain ⟨d0, d1, d2, g1, g2⟩ := hq2.cells
  have hz2 := hq2.lt
  have hw2 : w1.heap.size ≤ w2.heap.size := hb2.size
  have hw1 := hx1.size
  have hrow := (hq2.row.drop (m := p1) hp1).take (m := k) (by omega)
  rw [show p1 * kU8.sz = p1 from Nat.mul_one _] at hrow
  have HS := Lib.hid (show ∀ W : World, Below w2.heap.size w2 W → Sl kU8 (fun k => k < w2.heap.size) W (.slice (if c = p1 then A else A.map (·.add p1)) k (c - p1)) ((l.drop p1).take k) from fun W hW => (Sl.below (Sl.bound hrow) hW).weak fun k hk => hk.2)
  have KK := Lib.hid (show ∀ W : World, Below w2.heap.size w2 W → W.cell? ⟨g, 0, none⟩ = some (.slice A n c) ∧ W.cell? ⟨g, 1, none⟩ = some (.int .i64 (p1 : Int)) from fun W hW => ⟨(HQ2.out.below hW).cells.1, (HQ2.out.below hW).cells.2.1⟩)
  clear hq2 hx1 hrow g2
  have hk2 : k ≤ n := by omega
  have hlk : ((l.drop p1).take k).length = k := by rw [List.length_take, List.length_drop]; omega
  have HLK := Lib.hid hlk
  clear hlk
  have hi2 : p1 + k ≤ c := by omega
  have hi3 : (p1 : Int) + (k : Int) ≤ (c : Int) := by omega
  have hi4 : ((p1 : Int) + (k : Int)).toNat = p1 + k := by omega
  have hi5 : (0 : Int) ≤ (p1 : Int) + (k : Int) := by omega
  have hw1 : IntKind.i64.wrap ((p1 : Int) + (k : Int)) = (p1 : Int) + (k : Int) := IntWalk.i64_in _ (by omega)
  go_wp2_with fail
  go_cut [7] from 8 (fun s W => ∃ A' n' c', s = .slice A' n' c' ∧ Own kU8 5 (fun _ => True) W w2.heap.size (.slice A' n' c') ((l.drop p1).take k) ∧ Below w2.heap.size w2 W)
  case first =>
    go_region_held3 (fun W => W.cell? ⟨g, 0, none⟩ = some (.slice A n c) ∧ W.cell? ⟨g, 1, none⟩ = some (.int .i64 (p1 : Int))) (exact KK.out _ bW) (first
      | (refine step_append rfl (.tmp 46) (.tmp 61) 52 52 rfl rfl rfl (app_freshL (P := Try.prog) Try.underlying52 Try.underlying52 infoU8 rfl (by exact Loc1.dr (Loc1.new _ _ _)) (HS.out _ bW) (Nat.le_refl _) (by rw [HLK.out]; omega)) ?_; rintro u1 wa ⟨ho, hB, hgr, hat⟩; obtain ⟨A1, n1, c1, rfl, -⟩ := ho.form'; have HO := Lib.hid ho; have hb3 : Below w2.heap.size w2 wa := Below.trans bW hB; clear ho hat hgr hB))
    all_goals (simp only [Exit.then]; apply_assumption; go_meet)
    all_goals exact ⟨_, _, _, rfl, HO.out, hb3⟩
  case rest =>
    obtain ⟨A1, n1, c1, rfl, ho, hb3⟩ := hcut
    have hq3 := HQ2.out.below hb3
    have hx3 := hx2.trans (Below.ext hb3 _)
    have hf := (hq3.move (p1 + k) (by omega))
    clear d0 d1 d2 g1
    obtain ⟨d0, d1, d2, g1, g2⟩ := hq3.cells
    have HF := Lib.hid (show RdQ ok g (wc.setCell ⟨g, 1, none⟩ (.int .i64 ((p1 : Int) + (k : Int)))) ((l.drop p1).drop k) 0 from ⟨A, n, c, l, p1 + k, hf, by rw [List.drop_drop]⟩)
    have hxs : Ext (fun j => j ≠ g) wc (wc.setCell ⟨g, 1, none⟩ (.int .i64 ((p1 : Int) + (k : Int)))) := ext_set (fun e => e rfl) _
    have HX := Lib.hid (hx3.trans hxs)
    have HO := Lib.hid (show Own kU8 5 ok _ w.heap.size _ _ from own_u8 ((own_u8_far ho hz2 hxs).lower (by omega)))
    clear hq3 hf hxs ho hx3 hi4 hw1
    go_wp2_with fail
    go_ret
    exact ⟨_, rfl, HO.out, HF.out, HX.out⟩
end
end Go.Proofs.Ytijlamajcdekkaa
