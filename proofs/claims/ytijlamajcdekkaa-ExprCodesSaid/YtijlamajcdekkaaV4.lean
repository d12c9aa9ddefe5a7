/- Package expr, walked: Get. -/
import Derived.Test.YtijlamajcdekkaaV3
namespace Go.Proofs.Ytijlamajcdekkaa
open Go.RowKit
set_option linter.unusedVariables false
set_option linter.unusedSimpArgs false
def gE (s : RS) : Except Int (Exp × RS) := if s.2 ≠ 0 then .error s.2 else match gX 6 24 s with | .error x => .error x | .ok p => .ok (p.1, p.2.2)
section
variable {ok : Nat → Prop} {w : World}
def RetGE (ok : Nat → Prop) (g : Nat) (w : World) (r : Except Int (Exp × RS)) (e : Ending) (w' : World) : Prop :=
  (match r with
    | .ok p => ∃ cs : List Value, e = .returned (.tuple #[.agg cs.toArray, .int .i64 0]) ∧ (kExp 6).R (fun k => w.heap.size ≤ k) w' cs p.1 ∧ Rd ok g w' p.2.1 p.2.2
    | .error x => e = .returned (.tuple #[.agg #[.int .i64 0, .slice none 0 0, .string ⟨#[]⟩, .int .i64 0, .int .i64 0, .bool false, .string ⟨#[]⟩, .float .f64 0], .int .i64 x])) ∧ Ext (fun k => k ≠ g) w w'
theorem ext_over {g : Nat} {a : World} (h : Ext (fun k => k ≠ g) w a) {w' : World} {B : Nat} (x : Ext (fun k => k < B ∧ k ≠ g) a w') (hB : w.heap.size ≤ B) : Ext (fun k => k ≠ g) w w' :=
  ⟨x.os.trans h.os, x.tape.trans h.tape, x.output.trans h.output, Nat.le_trans h.size x.size, fun k hk ho => (x.block k (Nat.lt_of_lt_of_le hk h.size) ⟨by omega, ho⟩).trans (h.block k hk ho)⟩
set_option maxRecDepth 20000 in
set_option maxHeartbeats 8000000 in
theorem eget_c (g : Nat) (s : RS) (h : Rd ok g w s.1 s.2) : Calls Try.prog 22 #[.pointer (some ⟨g, 0, none⟩)] w (RetGE ok g w (gE s)) := by
  have SF := store_f64
  have hgw := h.lt
  have hr0 := Lib.hid (h.bound.below (show Below w.heap.size w ((w.alloc (.cells #[.int .i64 0, .slice none 0 0, .string ⟨#[]⟩, .int .i64 0, .int .i64 0, .bool false, .string ⟨#[]⟩, .float .f64 0] 27)).alloc (.cells #[.int .i64 0] 33)) from bW))
  have LR : Loc1 w.heap.size 27 #[.int .i64 0, .slice none 0 0, .string ⟨#[]⟩, .int .i64 0, .int .i64 0, .bool false, .string ⟨#[]⟩, .float .f64 0] ((w.alloc (.cells #[.int .i64 0, .slice none 0 0, .string ⟨#[]⟩, .int .i64 0, .int .i64 0, .bool false, .string ⟨#[]⟩, .float .f64 0] 27)).alloc (.cells #[.int .i64 0] 33)) := by (focus (repeat (first | with_reducible assumption | (refine Loc1.newE _ _ _ ?_; simp; done) | with_reducible refine Loc1.al _ ?_ | with_reducible refine Loc1.dr ?_ | with_reducible refine Loc1.bel (by assumption) ?_)))
  have LE : Loc1 (w.heap.size + 1) 33 #[.int .i64 0] ((w.alloc (.cells #[.int .i64 0, .slice none 0 0, .string ⟨#[]⟩, .int .i64 0, .int .i64 0, .bool false, .string ⟨#[]⟩, .float .f64 0] 27)).alloc (.cells #[.int .i64 0] 33)) := by (focus (repeat (first | with_reducible assumption | (refine Loc1.newE _ _ _ ?_; simp; done) | with_reducible refine Loc1.al _ ?_ | with_reducible refine Loc1.dr ?_ | with_reducible refine Loc1.bel (by assumption) ?_)))
  have hx0 : Ext (fun k => k ≠ g) w ((w.alloc (.cells #[.int .i64 0, .slice none 0 0, .string ⟨#[]⟩, .int .i64 0, .int .i64 0, .bool false, .string ⟨#[]⟩, .float .f64 0] 27)).alloc (.cells #[.int .i64 0] 33)) := Below.ext (show Below w.heap.size w ((w.alloc (.cells #[.int .i64 0, .slice none 0 0, .string ⟨#[]⟩, .int .i64 0, .int .i64 0, .bool false, .string ⟨#[]⟩, .float .f64 0] 27)).alloc (.cells #[.int .i64 0] 33)) from bW) _
  have hz0 : ((w.alloc (.cells #[.int .i64 0, .slice none 0 0, .string ⟨#[]⟩, .int .i64 0, .int .i64 0, .bool false, .string ⟨#[]⟩, .float .f64 0] 27)).alloc (.cells #[.int .i64 0] 33)).heap.size = w.heap.size + 2 := by simp
  have E := Lib.hid (show gE s = if s.2 ≠ 0 then .error s.2 else match gX 6 24 s with | .error x => .error x | .ok p => .ok (p.1, p.2.2) from rfl)
  generalize gE s = r at *
  clear h
  go_enter_defers Try.func22, Try.ntmps22
  go_upto_region 2 with (fail)
  generalize ((w.alloc (.cells #[.int .i64 0, .slice none 0 0, .string ⟨#[]⟩, .int .i64 0, .int .i64 0, .bool false, .string ⟨#[]⟩, .float .f64 0] 27)).alloc (.cells #[.int .i64 0] 33)) = w0 at *
  go_wp2_with fail
  refine (err_c g s hr0.out).mono ?_
  rintro x9 w9 ⟨rfl, rfl⟩
  go_wp2_with fail
  refine (err_c g s hr0.out).mono ?_
  rintro x9 w9 ⟨rfl, rfl⟩
  by_cases he : s.2 = 0
  rotate_left
  · have he1 : (s.2 == 0) = false := by simpa using he
    have E1 := Lib.hid (show r = .error s.2 by rw [E.out, if_pos he])
    clear he
    go_wp2_with fail
    refine (must_no s.2).mono ?_
    rintro x9 w9 ⟨hbd, rfl⟩
    have hbd : x9 = .panicked [{ v := .iface 89 (.int .i64 s.2), recovered := false }] := hbd
    subst hbd
    go_wp2_with fail
    have q0 := cell_of LE 0
    have q1 := free_of LE 0
    simp only [List.getElem?_toArray, List.getElem?_cons_zero] at q0
    have KC := cell_of (heap_set LE 0 (.int .i64 s.2)) 0
    simp only [List.setIfInBounds_toArray, List.set_cons_zero, List.getElem?_toArray, List.getElem?_cons_zero] at KC
    obtain ⟨y0, y1, y2, y3, y4, y5, y6, y7⟩ := cells8 (LR.st (i := 0) (v := .int .i64 s.2) (show w.heap.size ≠ w.heap.size + 1 by omega))
    rw [E1.out]
    exact leaves_caught (v := .tuple #[.agg #[.int .i64 0, .slice none 0 0, .string ⟨#[]⟩, .int .i64 0, .int .i64 0, .bool false, .string ⟨#[]⟩, .float .f64 0], .int .i64 s.2]) (x := 0) q0 q1 (by simp [results, Try.results22, go_sem, KC, y0, y1, y2, y3, y4, y5, y6, y7]) ⟨rfl, ext_over hx0 (ext_set (fun e => by have := e.1; simp at this) _) (Nat.le_succ _)⟩
  have he1 : (s.2 == 0) = true := by simpa using he
  replace E := Lib.hid (show r = match gX 6 24 s with | .error x => .error x | .ok p => .ok (p.1, p.2.2) by rw [E.out, if_neg (by simpa using he)])
  clear he
  go_wp2_with fail
  refine (must_ok _).mono ?_
  rintro x9 w9 ⟨rfl, rfl⟩
  go_upto_region 6 with (fail)
  have hb1 : Below w0.heap.size w0 (w0.alloc (.cells #[.pointer (some ⟨g, 0, none⟩), .int .i64 24] 85)) := bW
  have LS : Loc1 (w.heap.size + 2) 85 #[.pointer (some ⟨g, 0, none⟩), .int .i64 24] (w0.alloc (.cells #[.pointer (some ⟨g, 0, none⟩), .int .i64 24] 85)) := Loc1.newE _ _ _ hz0.symm
  have hz1 : (w0.alloc (.cells #[.pointer (some ⟨g, 0, none⟩), .int .i64 24] 85)).heap.size = w0.heap.size + 1 := by simp
  have hr1 := Lib.hid (hr0.out.below hb1)
  replace LR := LR.below hb1
  replace LE := LE.below hb1
  have hx1 : Ext (fun k => k ≠ g) w (w0.alloc (.cells #[.pointer (some ⟨g, 0, none⟩), .int .i64 24] 85)) := hx0.trans (Below.ext hb1 _)
  have HC := Lib.hid (show Calls Try.prog 42 #[.pointer (some ⟨w.heap.size + 2, 0, none⟩), .int .i64 6] (w0.alloc (.cells #[.pointer (some ⟨g, 0, none⟩), .int .i64 24] 85)) (RetXp (fun k => ok k ∧ k < w.heap.size) (w.heap.size + 2) g (w0.alloc (.cells #[.pointer (some ⟨g, 0, none⟩), .int .i64 24] 85)) 6 (gX 6 24 s)) from getX_c 6 (by omega) (fun k => ok k ∧ k < w.heap.size) (w0.alloc (.cells #[.pointer (some ⟨g, 0, none⟩), .int .i64 24] 85)) (w.heap.size + 2) g 24 s hr1.out LS (by omega) (fun k hk => by have := hk.2; omega) (by decide))
  clear hb1 LS hr0 hx0
  generalize (w0.alloc (.cells #[.pointer (some ⟨g, 0, none⟩), .int .i64 24] 85)) = w1 at *
  have KX := Lib.hid (show ∀ W : World, Ext (fun k => k ≠ g ∧ k ≠ w.heap.size + 2) w1 W → Ext (fun k => k ≠ g) w W from fun W hW => ⟨hW.os.trans hx1.os, hW.tape.trans hx1.tape, hW.output.trans hx1.output, Nat.le_trans hx1.size hW.size, fun k hk ho => (hW.block k (Nat.lt_of_lt_of_le hk hx1.size) ⟨ho, by omega⟩).trans (hx1.block k hk ho)⟩)
  cases hx : gX 6 24 s with
  | error x =>
    rw [hx] at HC
    have E1 := Lib.hid (show r = .error x by rw [E.out, hx])
    clear hx
    go_wp2_with fail
    refine HC.out.mono ?_
    rintro x9 w3 ⟨hbd, hx3⟩
    have hbd : x9 = .panicked [{ v := .iface 89 (.int .i64 x), recovered := false }] := hbd
    subst hbd
    have LR3 : Loc1 w.heap.size 27 #[.int .i64 0, .slice none 0 0, .string ⟨#[]⟩, .int .i64 0, .int .i64 0, .bool false, .string ⟨#[]⟩, .float .f64 0] w3 := (hx3.block _ (lt_of_heap LR) ⟨by omega, by omega⟩).trans LR
    have LE3 : Loc1 (w.heap.size + 1) 33 #[.int .i64 0] w3 := (hx3.block _ (lt_of_heap LE) ⟨by omega, by omega⟩).trans LE
    have hx4 := KX.out w3 hx3
    go_wp2_with fail
    have q0 := cell_of LE3 0
    have q1 := free_of LE3 0
    simp only [List.getElem?_toArray, List.getElem?_cons_zero] at q0
    have KC := cell_of (heap_set LE3 0 (.int .i64 x)) 0
    simp only [List.setIfInBounds_toArray, List.set_cons_zero, List.getElem?_toArray, List.getElem?_cons_zero] at KC
    obtain ⟨y0, y1, y2, y3, y4, y5, y6, y7⟩ := cells8 (LR3.st (i := 0) (v := .int .i64 x) (show w.heap.size ≠ w.heap.size + 1 by omega))
    rw [E1.out]
    exact leaves_caught (v := .tuple #[.agg #[.int .i64 0, .slice none 0 0, .string ⟨#[]⟩, .int .i64 0, .int .i64 0, .bool false, .string ⟨#[]⟩, .float .f64 0], .int .i64 x]) (x := 0) q0 q1 (by simp [results, Try.results22, go_sem, KC, y0, y1, y2, y3, y4, y5, y6, y7]) ⟨rfl, ext_over hx4 (ext_set (fun e => by have := e.1; simp at this) _) (Nat.le_succ _)⟩
  | ok q =>
  rw [hx] at HC
  obtain ⟨e, M, s3⟩ := q
  have E1 := Lib.hid (show r = .ok (e, s3) by rw [E.out, hx])
  clear hx
  go_wp2_with fail
  refine HC.out.mono ?_
  rintro x9 w3 ⟨⟨cs, rfl, hR, hr3, -⟩, hx3⟩
  have LR3 : Loc1 w.heap.size 27 #[.int .i64 0, .slice none 0 0, .string ⟨#[]⟩, .int .i64 0, .int .i64 0, .bool false, .string ⟨#[]⟩, .float .f64 0] w3 := (hx3.block _ (lt_of_heap LR) ⟨by omega, by omega⟩).trans LR
  have LE3 : Loc1 (w.heap.size + 1) 33 #[.int .i64 0] w3 := (hx3.block _ (lt_of_heap LE) ⟨by omega, by omega⟩).trans LE
  have hx4 := KX.out w3 hx3
  obtain ⟨k, B, c, hk, rfl, hs⟩ := exp_open hR
  have HR3 := Lib.hid hr3
  have HS3 := Lib.hid hs
  have HK := Lib.hid hk
  clear hr3 hs hR hk HC KX
  obtain ⟨m0, m1, m2, m3, m4, m5, m6, m7⟩ := cells8 LR3
  have u0 := free_of LR3 0
  have u1 := free_of LR3 1
  have u2 := free_of LR3 2
  have u3 := free_of LR3 3
  have u4 := free_of LR3 4
  have u5 := free_of LR3 5
  have u6 := free_of LR3 6
  have u7 := free_of LR3 7
  have hz3 := lt_of_heap LR3
  have n0 := cell_of LE3 0
  have n1 := free_of LE3 0
  simp only [List.getElem?_toArray, List.getElem?_cons_zero] at n0
  go_wp21
  have KH : Loc1 w.heap.size 27 #[.int .i64 e.op, .slice B e.kids.length c, .string ⟨e.name.toArray⟩, .int .i64 e.val.kind, .int .i64 e.val.int, .bool e.val.bool, .string ⟨e.val.text.toArray⟩, .float .f64 e.val.num] (((((((((w3.setCell ⟨w.heap.size, 0, none⟩ (.int .i64 e.op)).setCell ⟨w.heap.size, 1, none⟩ (.slice B e.kids.length c)).setCell ⟨w.heap.size, 2, none⟩ (.string ⟨e.name.toArray⟩)).setCell ⟨w.heap.size, 3, none⟩ (.int .i64 e.val.kind)).setCell ⟨w.heap.size, 4, none⟩ (.int .i64 e.val.int)).setCell ⟨w.heap.size, 5, none⟩ (.bool e.val.bool)).setCell ⟨w.heap.size, 6, none⟩ (.string ⟨e.val.text.toArray⟩)).setCell ⟨w.heap.size, 7, none⟩ (.float .f64 e.val.num))) := by
    have := (heap_set (heap_set (heap_set (heap_set (heap_set (heap_set (heap_set (heap_set LR3 0 (.int .i64 e.op)) 1 (.slice B e.kids.length c)) 2 (.string ⟨e.name.toArray⟩)) 3 (.int .i64 e.val.kind)) 4 (.int .i64 e.val.int)) 5 (.bool e.val.bool)) 6 (.string ⟨e.val.text.toArray⟩)) 7 (.float .f64 e.val.num))
    unfold Loc1
    simpa using this
  have X8 : Ext (fun k => k ≠ w.heap.size) w3 (((((((((w3.setCell ⟨w.heap.size, 0, none⟩ (.int .i64 e.op)).setCell ⟨w.heap.size, 1, none⟩ (.slice B e.kids.length c)).setCell ⟨w.heap.size, 2, none⟩ (.string ⟨e.name.toArray⟩)).setCell ⟨w.heap.size, 3, none⟩ (.int .i64 e.val.kind)).setCell ⟨w.heap.size, 4, none⟩ (.int .i64 e.val.int)).setCell ⟨w.heap.size, 5, none⟩ (.bool e.val.bool)).setCell ⟨w.heap.size, 6, none⟩ (.string ⟨e.val.text.toArray⟩)).setCell ⟨w.heap.size, 7, none⟩ (.float .f64 e.val.num))) := (ext_set_ne (ext_set_ne (ext_set_ne (ext_set_ne (ext_set_ne (ext_set_ne (ext_set_ne (ext_set_ne (Ext.refl _ _) 0 _) 1 _) 2 _) 3 _) 4 _) 5 _) 6 _) 7 _)
  have LE4 := loc_ext X8 (show w.heap.size + 1 ≠ w.heap.size by omega) LE3
  have KE : Loc1 (w.heap.size + 1) 33 #[.int .i64 0] ((((((((((w3.setCell ⟨w.heap.size, 0, none⟩ (.int .i64 e.op)).setCell ⟨w.heap.size, 1, none⟩ (.slice B e.kids.length c)).setCell ⟨w.heap.size, 2, none⟩ (.string ⟨e.name.toArray⟩)).setCell ⟨w.heap.size, 3, none⟩ (.int .i64 e.val.kind)).setCell ⟨w.heap.size, 4, none⟩ (.int .i64 e.val.int)).setCell ⟨w.heap.size, 5, none⟩ (.bool e.val.bool)).setCell ⟨w.heap.size, 6, none⟩ (.string ⟨e.val.text.toArray⟩)).setCell ⟨w.heap.size, 7, none⟩ (.float .f64 e.val.num)).setCell ⟨w.heap.size + 1, 0, none⟩ (.int .i64 0))) := by
    have := heap_set LE4 0 (.int .i64 0)
    unfold Loc1
    simpa using this
  have KH2 : Loc1 w.heap.size 27 #[.int .i64 e.op, .slice B e.kids.length c, .string ⟨e.name.toArray⟩, .int .i64 e.val.kind, .int .i64 e.val.int, .bool e.val.bool, .string ⟨e.val.text.toArray⟩, .float .f64 e.val.num] ((((((((((w3.setCell ⟨w.heap.size, 0, none⟩ (.int .i64 e.op)).setCell ⟨w.heap.size, 1, none⟩ (.slice B e.kids.length c)).setCell ⟨w.heap.size, 2, none⟩ (.string ⟨e.name.toArray⟩)).setCell ⟨w.heap.size, 3, none⟩ (.int .i64 e.val.kind)).setCell ⟨w.heap.size, 4, none⟩ (.int .i64 e.val.int)).setCell ⟨w.heap.size, 5, none⟩ (.bool e.val.bool)).setCell ⟨w.heap.size, 6, none⟩ (.string ⟨e.val.text.toArray⟩)).setCell ⟨w.heap.size, 7, none⟩ (.float .f64 e.val.num)).setCell ⟨w.heap.size + 1, 0, none⟩ (.int .i64 0))) := KH.st (by omega)
  have X9 : Ext (fun k => k < w.heap.size ∨ (k ≠ w.heap.size ∧ k ≠ w.heap.size + 1)) w3 ((((((((((w3.setCell ⟨w.heap.size, 0, none⟩ (.int .i64 e.op)).setCell ⟨w.heap.size, 1, none⟩ (.slice B e.kids.length c)).setCell ⟨w.heap.size, 2, none⟩ (.string ⟨e.name.toArray⟩)).setCell ⟨w.heap.size, 3, none⟩ (.int .i64 e.val.kind)).setCell ⟨w.heap.size, 4, none⟩ (.int .i64 e.val.int)).setCell ⟨w.heap.size, 5, none⟩ (.bool e.val.bool)).setCell ⟨w.heap.size, 6, none⟩ (.string ⟨e.val.text.toArray⟩)).setCell ⟨w.heap.size, 7, none⟩ (.float .f64 e.val.num)).setCell ⟨w.heap.size + 1, 0, none⟩ (.int .i64 0))) := (X8.weak fun k _ hk => by omega).trans (ext_set (fun e => by have e' : (w.heap.size + 1 < w.heap.size ∨ (w.heap.size + 1 ≠ w.heap.size ∧ w.heap.size + 1 ≠ w.heap.size + 1)) := e; omega) _)
  have KC := cell_of KE 0
  simp only [List.getElem?_toArray, List.getElem?_cons_zero] at KC
  obtain ⟨y0, y1, y2, y3, y4, y5, y6, y7⟩ := cells8 KH2
  have RF : Rd ok g ((((((((((w3.setCell ⟨w.heap.size, 0, none⟩ (.int .i64 e.op)).setCell ⟨w.heap.size, 1, none⟩ (.slice B e.kids.length c)).setCell ⟨w.heap.size, 2, none⟩ (.string ⟨e.name.toArray⟩)).setCell ⟨w.heap.size, 3, none⟩ (.int .i64 e.val.kind)).setCell ⟨w.heap.size, 4, none⟩ (.int .i64 e.val.int)).setCell ⟨w.heap.size, 5, none⟩ (.bool e.val.bool)).setCell ⟨w.heap.size, 6, none⟩ (.string ⟨e.val.text.toArray⟩)).setCell ⟨w.heap.size, 7, none⟩ (.float .f64 e.val.num)).setCell ⟨w.heap.size + 1, 0, none⟩ (.int .i64 0))) s3.1 s3.2 := by
    obtain ⟨A2, c2, hh2, hs2, hl2⟩ := HR3.out
    exact ⟨A2, c2, (X9.block g (lt_of_heap hh2) (.inl hgw)).trans hh2, (hs2.ext (X9.weak fun k _ hk => .inl hk.1.2)).weak fun k hk => ⟨hk.1.1, hk.2⟩, hl2⟩
  have YF : Ext (fun k => k ≠ g) w ((((((((((w3.setCell ⟨w.heap.size, 0, none⟩ (.int .i64 e.op)).setCell ⟨w.heap.size, 1, none⟩ (.slice B e.kids.length c)).setCell ⟨w.heap.size, 2, none⟩ (.string ⟨e.name.toArray⟩)).setCell ⟨w.heap.size, 3, none⟩ (.int .i64 e.val.kind)).setCell ⟨w.heap.size, 4, none⟩ (.int .i64 e.val.int)).setCell ⟨w.heap.size, 5, none⟩ (.bool e.val.bool)).setCell ⟨w.heap.size, 6, none⟩ (.string ⟨e.val.text.toArray⟩)).setCell ⟨w.heap.size, 7, none⟩ (.float .f64 e.val.num)).setCell ⟨w.heap.size + 1, 0, none⟩ (.int .i64 0))) := ⟨X9.os.trans hx4.os, X9.tape.trans hx4.tape, X9.output.trans hx4.output, Nat.le_trans hx4.size X9.size, fun k hk ho => (X9.block k (Nat.lt_of_lt_of_le hk hx4.size) (.inl hk)).trans (hx4.block k hk ho)⟩
  have SF3 : Sl (kExp k) (fun k => w.heap.size ≤ k) ((((((((((w3.setCell ⟨w.heap.size, 0, none⟩ (.int .i64 e.op)).setCell ⟨w.heap.size, 1, none⟩ (.slice B e.kids.length c)).setCell ⟨w.heap.size, 2, none⟩ (.string ⟨e.name.toArray⟩)).setCell ⟨w.heap.size, 3, none⟩ (.int .i64 e.val.kind)).setCell ⟨w.heap.size, 4, none⟩ (.int .i64 e.val.int)).setCell ⟨w.heap.size, 5, none⟩ (.bool e.val.bool)).setCell ⟨w.heap.size, 6, none⟩ (.string ⟨e.val.text.toArray⟩)).setCell ⟨w.heap.size, 7, none⟩ (.float .f64 e.val.num)).setCell ⟨w.heap.size + 1, 0, none⟩ (.int .i64 0))) (.slice B e.kids.length c) e.kids := (HS3.out.ext (X9.weak fun k _ hk => by have hk' : w1.heap.size ≤ k := hk; exact .inr ⟨by omega, by omega⟩)).weak fun k hk => by have hk' : w1.heap.size ≤ k := hk; omega
  rw [E1.out]
  obtain rfl : k = 5 := by have hk6 := HK.out; omega
  have EF : (kExp 6).R (fun k => w.heap.size ≤ k) ((((((((((w3.setCell ⟨w.heap.size, 0, none⟩ (.int .i64 e.op)).setCell ⟨w.heap.size, 1, none⟩ (.slice B e.kids.length c)).setCell ⟨w.heap.size, 2, none⟩ (.string ⟨e.name.toArray⟩)).setCell ⟨w.heap.size, 3, none⟩ (.int .i64 e.val.kind)).setCell ⟨w.heap.size, 4, none⟩ (.int .i64 e.val.int)).setCell ⟨w.heap.size, 5, none⟩ (.bool e.val.bool)).setCell ⟨w.heap.size, 6, none⟩ (.string ⟨e.val.text.toArray⟩)).setCell ⟨w.heap.size, 7, none⟩ (.float .f64 e.val.num)).setCell ⟨w.heap.size + 1, 0, none⟩ (.int .i64 0))) [.int .i64 e.op, .slice B e.kids.length c, .string ⟨e.name.toArray⟩, .int .i64 e.val.kind, .int .i64 e.val.int, .bool e.val.bool, .string ⟨e.val.text.toArray⟩, .float .f64 e.val.num] e := exp_mk SF3
  exact leaves_idle (v := .tuple #[.agg #[.int .i64 e.op, .slice B e.kids.length c, .string ⟨e.name.toArray⟩, .int .i64 e.val.kind, .int .i64 e.val.int, .bool e.val.bool, .string ⟨e.val.text.toArray⟩, .float .f64 e.val.num], .int .i64 0]) (by simp [results, Try.results22, go_sem, KC, y0, y1, y2, y3, y4, y5, y6, y7]) ⟨⟨_, rfl, EF, RF⟩, YF⟩
end
end Go.Proofs.Ytijlamajcdekkaa
