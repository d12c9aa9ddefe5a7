/- Chapter 6: fields and stages that may be. -/
import Derived.Test.YtjnhgfmjehaalaaGreatC3
namespace Go.Proofs.YtjnhgfmjehaalaaGreat
open Go.RowKit
set_option linter.unusedVariables false
set_option linter.unusedSimpArgs false
/-- may a field have a value? -/
def fitsF (v : Val) (f : Fld) : Int := if !goodV v || v.kind != f.kind then 40 else if v.kind == 3 && decide (0 < f.enum.length) && !(f.enum.any fun x => x == v.text) then 60 else 0
section
variable {w : World}
theorem fits_c {ok : Nat → Prop} (v : Val) (f : Fld) {B : Option Addr} {d : Nat} (h : Sl kStr ok w (.slice B f.enum.length d) f.enum) : Calls Tryz.prog 102 #[.agg #[.int .i64 v.kind, .int .i64 v.int, .bool v.bool, .string ⟨v.text.toArray⟩, .float .f64 v.num], .agg #[.string ⟨f.name.toArray⟩, .int .i64 f.kind, .slice B f.enum.length d, .int .i64 f.init.kind, .int .i64 f.init.int, .bool f.init.bool, .string ⟨f.init.text.toArray⟩, .float .f64 f.init.num]] w (Ret w (.int .i64 (fitsF v f))) := by
 have SF := store_f64
 have HS := hidS h
 have E := Lib.hid (show fitsF v f = if !goodV v || v.kind != f.kind then 40 else if v.kind == 3 && decide (0 < f.enum.length) && !(f.enum.any fun x => x == v.text) then 60 else 0 from rfl)
 have KK := Lib.hid (show ∀ W : World, Below ((w.alloc (.cells #[.int .i64 v.kind, .int .i64 v.int, .bool v.bool, .string ⟨v.text.toArray⟩, .float .f64 v.num] 39)).alloc (.cells #[.string ⟨f.name.toArray⟩, .int .i64 f.kind, .slice B f.enum.length d, .int .i64 f.init.kind, .int .i64 f.init.int, .bool f.init.bool, .string ⟨f.init.text.toArray⟩, .float .f64 f.init.num] 41)).heap.size ((w.alloc (.cells #[.int .i64 v.kind, .int .i64 v.int, .bool v.bool, .string ⟨v.text.toArray⟩, .float .f64 v.num] 39)).alloc (.cells #[.string ⟨f.name.toArray⟩, .int .i64 f.kind, .slice B f.enum.length d, .int .i64 f.init.kind, .int .i64 f.init.int, .bool f.init.bool, .string ⟨f.init.text.toArray⟩, .float .f64 f.init.num] 41)) W → W.cell? ⟨w.heap.size, 0, none⟩ = some (.int .i64 v.kind) ∧ W.cell? ⟨w.heap.size, 1, none⟩ = some (.int .i64 v.int) ∧ W.cell? ⟨w.heap.size, 2, none⟩ = some (.bool v.bool) ∧ W.cell? ⟨w.heap.size, 3, none⟩ = some (.string ⟨v.text.toArray⟩) ∧ W.cell? ⟨w.heap.size, 4, none⟩ = some (.float .f64 v.num) ∧ W.cell? ⟨w.heap.size + 1, 0, none⟩ = some (.string ⟨f.name.toArray⟩) ∧ W.cell? ⟨w.heap.size + 1, 1, none⟩ = some (.int .i64 f.kind) ∧ W.cell? ⟨w.heap.size + 1, 2, none⟩ = some (.slice B f.enum.length d) ∧ W.cell? ⟨w.heap.size + 1, 3, none⟩ = some (.int .i64 f.init.kind) ∧ W.cell? ⟨w.heap.size + 1, 4, none⟩ = some (.int .i64 f.init.int) ∧ W.cell? ⟨w.heap.size + 1, 5, none⟩ = some (.bool f.init.bool) ∧ W.cell? ⟨w.heap.size + 1, 6, none⟩ = some (.string ⟨f.init.text.toArray⟩) ∧ W.cell? ⟨w.heap.size + 1, 7, none⟩ = some (.float .f64 f.init.num) ∧ w.heap.size + 1 < W.heap.size from fun W hW => by
  have h1 : Loc1 w.heap.size 39 #[.int .i64 v.kind, .int .i64 v.int, .bool v.bool, .string ⟨v.text.toArray⟩, .float .f64 v.num] ((w.alloc (.cells #[.int .i64 v.kind, .int .i64 v.int, .bool v.bool, .string ⟨v.text.toArray⟩, .float .f64 v.num] 39)).alloc (.cells #[.string ⟨f.name.toArray⟩, .int .i64 f.kind, .slice B f.enum.length d, .int .i64 f.init.kind, .int .i64 f.init.int, .bool f.init.bool, .string ⟨f.init.text.toArray⟩, .float .f64 f.init.num] 41)) := (by (focus (repeat (first | with_reducible assumption | exact Loc1.newE _ _ _ (by simp) | with_reducible refine Loc1.al _ ?_ | with_reducible refine Loc1.dr ?_ | with_reducible refine Loc1.bel (by assumption) ?_))))
  have h2 : Loc1 (w.heap.size + 1) 41 #[.string ⟨f.name.toArray⟩, .int .i64 f.kind, .slice B f.enum.length d, .int .i64 f.init.kind, .int .i64 f.init.int, .bool f.init.bool, .string ⟨f.init.text.toArray⟩, .float .f64 f.init.num] ((w.alloc (.cells #[.int .i64 v.kind, .int .i64 v.int, .bool v.bool, .string ⟨v.text.toArray⟩, .float .f64 v.num] 39)).alloc (.cells #[.string ⟨f.name.toArray⟩, .int .i64 f.kind, .slice B f.enum.length d, .int .i64 f.init.kind, .int .i64 f.init.int, .bool f.init.bool, .string ⟨f.init.text.toArray⟩, .float .f64 f.init.num] 41)) := (by (focus (repeat (first | with_reducible assumption | exact Loc1.newE _ _ _ (by simp) | with_reducible refine Loc1.al _ ?_ | with_reducible refine Loc1.dr ?_ | with_reducible refine Loc1.bel (by assumption) ?_))))
  refine ⟨cell_of (h1.bel hW) 0, ?_⟩
  exact ⟨cell_of (h1.bel hW) 1, cell_of (h1.bel hW) 2, cell_of (h1.bel hW) 3, cell_of (h1.bel hW) 4, cell_of (h2.bel hW) 0, cell_of (h2.bel hW) 1, cell_of (h2.bel hW) 2, cell_of (h2.bel hW) 3, cell_of (h2.bel hW) 4, cell_of (h2.bel hW) 5, cell_of (h2.bel hW) 6, cell_of (h2.bel hW) 7, lt_of_heap (h2.bel hW)⟩)
 have hmax := h.len.2.2.1
 generalize fitsF v f = r at *
 clear h
 go_enter Tryz.func102, Tryz.ntmps102
 go_wp2_with (first | (go_at_call 71; refine (good_c v).mono ?_; rintro x9 w1 ⟨rfl, hb1⟩; obtain ⟨v0, v1, v2, v3, v4, c0, c1, c2, c3, c4, c5, c6, c7, hz⟩ := KK.out w1 bW) | (go_at_call 151; refine (shas_c v.text (HS.out _ bW)).mono ?_; rintro x9 w2 ⟨rfl, hb2⟩))
 all_goals
  go_ret
  rw [E.out]
  exact ⟨by first | (simp [*]; done) | (simp [*]; omega) | (simp_all; done) | (simp_all; omega) | (simp [*]; intros; (repeat' split) <;> (first | omega | (simp_all; done) | (simp_all; omega))), bW⟩
/-- an expression of a kind -/
def isE (fl : List Fld) (n : Nat) (e : Exp) (k : Int) : Bool := (chkE fl n e).2 == 0 && (chkE fl n e).1 == k
theorem is_c {A : Option Addr} {N c : Nat} {fl : List Fld} {n : Nat} {cs : List Value} {e : Exp} (k : Int) (h : (kExp n).R (fun _ => True) w cs e) (hf : Sl kFld (fun _ => True) w (.slice A N c) fl) :
 Calls Tryz.prog 97 #[.agg cs.toArray, .int .i64 k, .slice A N c] w (Ret w (.bool (isE fl n e k))) := by
 have E := Lib.hid (show isE fl n e k = ((chkE fl n e).2 == 0 && (chkE fl n e).1 == k) from rfl)
 obtain ⟨m, B, d, hm, rfl, hs⟩ := exp_open h
 have SF := store_f64
 have B0 : Below w.heap.size w (w.alloc (.cells #[.int .i64 e.op, .slice B e.kids.length d, .string ⟨e.name.toArray⟩, .int .i64 e.val.kind, .int .i64 e.val.int, .bool e.val.bool, .string ⟨e.val.text.toArray⟩, .float .f64 e.val.num] 44)) := bW
 have HC := Lib.hid (check_c (h := Kd.below h B0) (hf := hf.below B0))
 generalize chkE fl n e = r at *
 generalize isE fl n e k = q at *
 obtain ⟨r1, r2⟩ := r
 clear h hf hs hm
 go_enter Tryz.func97, Tryz.ntmps97
 go_wp2_with (first | (go_at_call 148; refine HC.out.mono ?_; rintro x9 wz ⟨rfl, hb⟩))
 all_goals
  go_ret
  rw [E.out]
  exact ⟨by first | (simp [*]; done) | (simp [*]; omega) | (simp_all; done) | (simp_all; omega) | (simp [*]; intros; (repeat' split) <;> (first | omega | (simp_all; done) | (simp_all; omega))), bW⟩
theorem gf1_c (s : List UInt8) : Calls Tryz.prog 101 #[.string ⟨s.toArray⟩] w (Ret w (.bool (decide (32 < s.length)))) := by
 have E := Lib.hid (show decide (32 < s.length) = decide (32 < s.length) from rfl)
 go_enter Tryz.func101, Tryz.ntmps101
 go_wp2_with fail
 go_ret
 exact ⟨by simp; omega, bW⟩
def longS (l : List (List UInt8)) : Bool := l.any fun s => decide (32 < s.length)
theorem long_c {ok : Nat → Prop} {A : Option Addr} {n c : Nat} {l : List (List UInt8)} (h : Sl kStr ok w (.slice A n c) l) : Calls Tryz.prog 100 #[.slice A n c, .func (.func 101) #[] #[]] w (Ret w (.bool (longS l))) :=
 anf_s (m := 0) 101 #[] (fun s => decide (32 < s.length)) h (enters Tryz.func101 (by kernel_rfl) (by kernel_rfl)) (fun W s hW _ => by rw [Array.append_empty]; exact gf1_c s)
/-- a field that may be -/
def gField (f : Fld) : Bool := decide (f.enum.length ≤ 4) && !longS f.enum && apartB f.enum && ((f.enum.length : Int) == 0 || f.kind == 3) && fitsF f.init f == 0
set_option maxHeartbeats 2000000 in
set_option maxRecDepth 20000 in
theorem gfield_c (f : Fld) {B : Option Addr} {d : Nat} (h : Sl kStr (fun _ => True) w (.slice B f.enum.length d) f.enum) : Calls Tryz.prog 52 #[.agg #[.string ⟨f.name.toArray⟩, .int .i64 f.kind, .slice B f.enum.length d, .int .i64 f.init.kind, .int .i64 f.init.int, .bool f.init.bool, .string ⟨f.init.text.toArray⟩, .float .f64 f.init.num]] w (Ret w (.bool (gField f))) := by
 have SF := store_f64
 have HS := hidS h
 have E := Lib.hid (show gField f = (decide (f.enum.length ≤ 4) && !longS f.enum && apartB f.enum && ((f.enum.length : Int) == 0 || f.kind == 3) && fitsF f.init f == 0) from rfl)
 have hmax := h.len.2.2.1
 have B0 : Below w.heap.size w (w.alloc (.cells #[.string ⟨f.name.toArray⟩, .int .i64 f.kind, .slice B f.enum.length d, .int .i64 f.init.kind, .int .i64 f.init.int, .bool f.init.bool, .string ⟨f.init.text.toArray⟩, .float .f64 f.init.num] 41)) := bW
 have KK := Lib.hid (show ∀ W : World, Below (w.alloc (.cells #[.string ⟨f.name.toArray⟩, .int .i64 f.kind, .slice B f.enum.length d, .int .i64 f.init.kind, .int .i64 f.init.int, .bool f.init.bool, .string ⟨f.init.text.toArray⟩, .float .f64 f.init.num] 41)).heap.size (w.alloc (.cells #[.string ⟨f.name.toArray⟩, .int .i64 f.kind, .slice B f.enum.length d, .int .i64 f.init.kind, .int .i64 f.init.int, .bool f.init.bool, .string ⟨f.init.text.toArray⟩, .float .f64 f.init.num] 41)) W → W.cell? ⟨w.heap.size, 0, none⟩ = some (.string ⟨f.name.toArray⟩) ∧ W.cell? ⟨w.heap.size, 1, none⟩ = some (.int .i64 f.kind) ∧ W.cell? ⟨w.heap.size, 2, none⟩ = some (.slice B f.enum.length d) ∧ W.cell? ⟨w.heap.size, 3, none⟩ = some (.int .i64 f.init.kind) ∧ W.cell? ⟨w.heap.size, 4, none⟩ = some (.int .i64 f.init.int) ∧ W.cell? ⟨w.heap.size, 5, none⟩ = some (.bool f.init.bool) ∧ W.cell? ⟨w.heap.size, 6, none⟩ = some (.string ⟨f.init.text.toArray⟩) ∧ W.cell? ⟨w.heap.size, 7, none⟩ = some (.float .f64 f.init.num) ∧ w.heap.size < W.heap.size from fun W hW => by
  have h1 : Loc1 w.heap.size 41 #[.string ⟨f.name.toArray⟩, .int .i64 f.kind, .slice B f.enum.length d, .int .i64 f.init.kind, .int .i64 f.init.int, .bool f.init.bool, .string ⟨f.init.text.toArray⟩, .float .f64 f.init.num] (w.alloc (.cells #[.string ⟨f.name.toArray⟩, .int .i64 f.kind, .slice B f.enum.length d, .int .i64 f.init.kind, .int .i64 f.init.int, .bool f.init.bool, .string ⟨f.init.text.toArray⟩, .float .f64 f.init.num] 41)) := (by (focus (repeat (first | with_reducible assumption | exact Loc1.newE _ _ _ (by simp) | with_reducible refine Loc1.al _ ?_ | with_reducible refine Loc1.dr ?_ | with_reducible refine Loc1.bel (by assumption) ?_))))
  exact ⟨cell_of (h1.bel hW) 0, cell_of (h1.bel hW) 1, cell_of (h1.bel hW) 2, cell_of (h1.bel hW) 3, cell_of (h1.bel hW) 4, cell_of (h1.bel hW) 5, cell_of (h1.bel hW) 6, cell_of (h1.bel hW) 7, lt_of_heap (h1.bel hW)⟩)
 generalize gField f = r at *
 clear h
 cases hk3 : (f.kind == 3) <;> cases hk0 : ((f.enum.length : Int) == 0)
 all_goals
  go_enter Tryz.func52, Tryz.ntmps52
  go_wp2_with (first
   | (go_at_call 100; refine (long_c (HS.out _ bW)).mono ?_; rintro x9 wz ⟨rfl, hb⟩; obtain ⟨c0, c1, c2, c3, c4, c5, c6, c7, hz⟩ := KK.out wz bW)
   | (go_at_call 98; refine (apart_c (HS.out _ bW)).mono ?_; rintro x9 wz ⟨rfl, hb⟩; obtain ⟨c0, c1, c2, c3, c4, c5, c6, c7, hz⟩ := KK.out wz bW)
   | (go_at_call 102; refine (fits_c f.init f (HS.out _ bW)).mono ?_; rintro x9 wz ⟨rfl, hb⟩))
  all_goals
   go_ret
   rw [E.out]
   exact ⟨by first | (simp [*]; done) | (simp [*]; omega) | (simp_all; done) | (simp_all; omega) | (simp [*]; intros; (repeat' split) <;> (first | omega | (simp_all; done) | (simp_all; omega))), bW⟩
/-- the organizations rise, and are -/
def risesF (last : Int) : List Int → Bool
 | [] => true
 | o :: l => !(decide (o ≤ last) || decide (4 ≤ o)) && risesF o l
/-- a stage that may be -/
def gStage (s : Stg) : Bool := !(decide (4 < s.orgs.length) || decide (s.need < 0) || decide ((s.orgs.length : Int) < s.need)) && risesF (-1) s.orgs
theorem gstage_c (s : Stg) {B : Option Addr} {d : Nat} (h : Sl kI (fun _ => True) w (.slice B s.orgs.length d) s.orgs) : Calls Tryz.prog 57 #[.agg #[.string ⟨s.name.toArray⟩, .int .i64 s.need, .slice B s.orgs.length d]] w (Ret w (.bool (gStage s))) := by
 have HS := hidS h
 have E := Lib.hid (show gStage s = (!(decide (4 < s.orgs.length) || decide (s.need < 0) || decide ((s.orgs.length : Int) < s.need)) && risesF (-1) s.orgs) from rfl)
 have hmax := h.len.2.2.1
 have hnc := h.len.2.1
 have B0 : Below w.heap.size w (w.alloc (.cells #[.string ⟨s.name.toArray⟩, .int .i64 s.need, .slice B s.orgs.length d] 68)) := bW
 have KK := Lib.hid (show ∀ W : World, Below (w.alloc (.cells #[.string ⟨s.name.toArray⟩, .int .i64 s.need, .slice B s.orgs.length d] 68)).heap.size (w.alloc (.cells #[.string ⟨s.name.toArray⟩, .int .i64 s.need, .slice B s.orgs.length d] 68)) W → W.cell? ⟨w.heap.size, 0, none⟩ = some (.string ⟨s.name.toArray⟩) ∧ W.cell? ⟨w.heap.size, 1, none⟩ = some (.int .i64 s.need) ∧ W.cell? ⟨w.heap.size, 2, none⟩ = some (.slice B s.orgs.length d) ∧ w.heap.size < W.heap.size from fun W hW => by
  have h1 : Loc1 w.heap.size 68 #[.string ⟨s.name.toArray⟩, .int .i64 s.need, .slice B s.orgs.length d] (w.alloc (.cells #[.string ⟨s.name.toArray⟩, .int .i64 s.need, .slice B s.orgs.length d] 68)) := (by (focus (repeat (first | with_reducible assumption | exact Loc1.newE _ _ _ (by simp) | with_reducible refine Loc1.al _ ?_ | with_reducible refine Loc1.dr ?_ | with_reducible refine Loc1.bel (by assumption) ?_))))
  exact ⟨cell_of (h1.bel hW) 0, cell_of (h1.bel hW) 1, cell_of (h1.bel hW) 2, lt_of_heap (h1.bel hW)⟩)
 generalize gStage s = r at *
 clear h
 by_cases hc : 4 < s.orgs.length ∨ s.need < 0 ∨ (s.orgs.length : Int) < s.need
 ·go_enter Tryz.func57, Tryz.ntmps57
  go_wp2_with fail
  all_goals
   go_ret
   rw [E.out]
   exact ⟨by first | (simp [*]; done) | (simp [*]; omega) | (simp_all; done) | (simp_all; omega) | (simp [*]; intros; (repeat' split) <;> (first | omega | (simp_all; done) | (simp_all; omega))), bW⟩
 have h1 : (s.orgs.length : Int) ≤ 4 := by omega
 have h2 : 0 ≤ s.need := by omega
 have h3 : s.need ≤ (s.orgs.length : Int) := by omega
 replace E := Lib.hid (show r = risesF (-1) s.orgs by rw [E.out]; simp; omega)
 clear hc
 go_enter Tryz.func57, Tryz.ntmps57
 have hb0 := KK.out (w.alloc (.cells #[.string ⟨s.name.toArray⟩, .int .i64 s.need, .slice B s.orgs.length d] 68)) bW
 obtain ⟨c0, c1, c2, hz⟩ := hb0
 go_wp2_with fail
 go_loopw [26, 3] (fun v26 v3 wr => ∃ (k : Nat) (last : Int), k ≤ s.orgs.length ∧ v26 = .int .i64 k ∧ v3 = .int .i64 last ∧ risesF last (s.orgs.drop k) = r ∧ wr = (w.alloc (.cells #[.string ⟨s.name.toArray⟩, .int .i64 s.need, .slice B s.orgs.length d] 68))) (fun v26 _ _ => s.orgs.length - (intOf v26).toNat)
 case atStart => exact ⟨0, -1, Nat.zero_le _, rfl, rfl, E.out.symm, rfl⟩
 case round =>
  obtain ⟨k, last, hk, rfl, rfl, hp, rfl⟩ := hrel
  have HP := Lib.hid hp
  clear hp
  by_cases hlt : k < s.orgs.length
  ·obtain ⟨ad, e, rfl, he, c0'⟩ := int_at (HS.out (w.alloc (.cells #[.string ⟨s.name.toArray⟩, .int .i64 s.need, .slice B s.orgs.length d] 68)) B0) hlt
   have HR := Lib.hid (show (!(decide (e ≤ last) || decide (4 ≤ e)) && risesF e (s.orgs.drop (k + 1))) = r by
    rw [← HP.out, List.drop_eq_getElem_cons hlt, (List.getElem?_eq_some_iff.1 he).2]; rfl)
   clear he
   by_cases hc : e ≤ last ∨ 4 ≤ e
   ·have E1 := Lib.hid (show r = false by rw [← HR.out]; simp; omega)
    clear h1 h2 h3
    go_wp2_with fail
    all_goals
     go_ret
     rw [E1.out]
     exact ⟨rfl, bW⟩
   ·have g1 : last < e := by omega
    have g2 : e < 4 := by omega
    have E1 := Lib.hid (show risesF e (s.orgs.drop (k + 1)) = r by rw [← HR.out]; simp; omega)
    clear hc
    go_wp2_with fail
    go_roundw
    case rel => exact ⟨k + 1, e, by omega, by go_num, rfl, E1.out, trivial⟩
    case measure => simp [intOf]; omega
  ·have E1 := Lib.hid (show r = true by rw [← HP.out, List.drop_eq_nil_of_le (by omega)]; rfl)
   go_wp2_with fail
   go_ret
   rw [E1.out]
   exact ⟨rfl, bW⟩
end
end Go.Proofs.YtjnhgfmjehaalaaGreat
