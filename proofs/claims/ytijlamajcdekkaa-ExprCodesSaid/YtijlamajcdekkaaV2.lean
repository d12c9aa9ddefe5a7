/- Package expr, walked: a value read, or none. -/
import Derived.Test.YtijlamajcdekkaaV1
import Derived.Test.YtijlamajcdekkaaMB
namespace Go.Proofs.Ytijlamajcdekkaa
open Go.RowKit
set_option linter.unusedVariables false
set_option linter.unusedSimpArgs false
def vX (s : RS) : Except Int (Val × RS) := if (rInt s).1 = 0 ∧ (rInt s).2.2 = 0 then .ok (zeroV, (rInt s).2) else if (gVal s).1.2 = 0 then .ok ((gVal s).1.1, (gVal s).2) else .error (gVal s).1.2
section
variable {ok : Nat → Prop} {w : World}
def RetX (ok : Nat → Prop) (g : Nat) (w : World) (r : Except Int (Val × RS)) (e : Ending) (w' : World) : Prop :=
  (match r with | .ok p => e = .returned (.agg #[.int .i64 p.1.kind, .int .i64 p.1.int, .bool p.1.bool, .string ⟨p.1.text.toArray⟩, .float .f64 p.1.num]) ∧ Rd ok g w' p.2.1 p.2.2 | .error x => Bad x e) ∧ Ext (fun k => k ≠ g) w w'
/-- a reader's copy -/
theorem rd_copy {g : Nat} {s : RS} (h : Rd ok g w s.1 s.2) : ∃ A c, w.heap[g]? = some (.cells #[.slice A s.1.length c, .int .i64 s.2] 81 (0, 0)) ∧
    ∀ (W : World) (p : Nat), Below w.heap.size w W → w.heap.size ≤ p → Loc1 p 81 #[.slice A s.1.length c, .int .i64 s.2] W → Rd (fun k => (ok k ∧ k ≠ g) ∧ k < w.heap.size) p W s.1 s.2 := by
  obtain ⟨A, c, hh, hs, hl⟩ := h
  refine ⟨A, c, hh, fun W p hW hp hL => ⟨A, c, hL, ?_, hl⟩⟩
  exact (hs.bound.weak fun k hk => ⟨hk, by have := hk.2; omega⟩).below hW
/-- the copy laid back -/
theorem rd_lay {g p : Nat} {w1 : World} {s' : RS} {v0 v1 : Value} (hg : w1.heap[g]? = some (.cells #[v0, v1] 81 (0, 0))) (h : Rd (fun k => (ok k ∧ k ≠ g) ∧ k < w.heap.size) p w1 s'.1 s'.2) (hgp : g ≠ p) :
    ∃ A c, w1.cell? ⟨p, 0, none⟩ = some (.slice A s'.1.length c) ∧ w1.cell? ⟨p, 1, none⟩ = some (.int .i64 s'.2) ∧ Rd (fun k => ok k ∧ k < w.heap.size) g ((w1.setCell ⟨g, 0, none⟩ (.slice A s'.1.length c)).setCell ⟨g, 1, none⟩ (.int .i64 s'.2)) s'.1 s'.2 := by
  obtain ⟨A, c, hh, hs, hl⟩ := h
  refine ⟨A, c, cell_of hh 0, cell_of hh 1, A, c, ?_, ?_, hl⟩
  · have := heap_set (heap_set hg 0 (.slice A s'.1.length c)) 1 (.int .i64 s'.2)
    simpa using this
  · exact (hs.weak (ok' := fun k => (ok k ∧ k < w.heap.size) ∧ k ≠ g) fun k hk => ⟨⟨hk.1.1.1, hk.1.2⟩, hk.1.1.2⟩).ext ((ext_set (fun e => e.2 rfl) _).trans (ext_set (fun e => e.2 rfl) _))
set_option maxRecDepth 20000 in
set_option maxHeartbeats 8000000 in
theorem val_c (b g : Nat) (N : Int) (s : RS) (h : Rd ok g w s.1 s.2) (hS : Loc1 b 85 #[.pointer (some ⟨g, 0, none⟩), .int .i64 N] w) (hbg : b ≠ g) : Calls Try.prog 64 #[.pointer (some ⟨b, 0, none⟩)] w (RetX ok g w (vX s)) := by
  have SF := store_f64
  have hgw := h.lt
  have hbw := lt_of_heap hS
  have E := Lib.hid (show vX s = if (rInt s).1 = 0 ∧ (rInt s).2.2 = 0 then .ok (zeroV, (rInt s).2) else if (gVal s).1.2 = 0 then .ok ((gVal s).1.1, (gVal s).2) else .error (gVal s).1.2 from rfl)
  obtain ⟨A, c, hh, hcp⟩ := rd_copy h
  have hP := Lib.hid (hcp ((w.alloc (.cells #[.int .i64 0, .int .i64 0, .bool false, .string ⟨#[]⟩, .float .f64 0] 25)).alloc (.cells #[.slice A s.1.length c, .int .i64 s.2] 81)) (w.heap.size + 1) bW (by omega) (by (focus (repeat (first | with_reducible assumption | (refine Loc1.newE _ _ _ ?_; simp; done) | with_reducible refine Loc1.al _ ?_ | with_reducible refine Loc1.dr ?_ | with_reducible refine Loc1.bel (by assumption) ?_)))))
  have hI := Lib.hid (int_c (w.heap.size + 1) s hP.out)
  have H := Lib.hid h.bound
  have LR : Loc1 w.heap.size 25 #[.int .i64 0, .int .i64 0, .bool false, .string ⟨#[]⟩, .float .f64 0] ((w.alloc (.cells #[.int .i64 0, .int .i64 0, .bool false, .string ⟨#[]⟩, .float .f64 0] 25)).alloc (.cells #[.slice A s.1.length c, .int .i64 s.2] 81)) := by (focus (repeat (first | with_reducible assumption | (refine Loc1.newE _ _ _ ?_; simp; done) | with_reducible refine Loc1.al _ ?_ | with_reducible refine Loc1.dr ?_ | with_reducible refine Loc1.bel (by assumption) ?_)))
  have LS : Loc1 b 85 #[.pointer (some ⟨g, 0, none⟩), .int .i64 N] ((w.alloc (.cells #[.int .i64 0, .int .i64 0, .bool false, .string ⟨#[]⟩, .float .f64 0] 25)).alloc (.cells #[.slice A s.1.length c, .int .i64 s.2] 81)) := by (focus (repeat (first | with_reducible assumption | (refine Loc1.newE _ _ _ ?_; simp; done) | with_reducible refine Loc1.al _ ?_ | with_reducible refine Loc1.dr ?_ | with_reducible refine Loc1.bel (by assumption) ?_)))
  have LG : Loc1 g 81 #[.slice A s.1.length c, .int .i64 s.2] ((w.alloc (.cells #[.int .i64 0, .int .i64 0, .bool false, .string ⟨#[]⟩, .float .f64 0] 25)).alloc (.cells #[.slice A s.1.length c, .int .i64 s.2] 81)) := by
    have hh' : Loc1 g 81 #[.slice A s.1.length c, .int .i64 s.2] w := hh
    (focus (repeat (first | with_reducible assumption | (refine Loc1.newE _ _ _ ?_; simp; done) | with_reducible refine Loc1.al _ ?_ | with_reducible refine Loc1.dr ?_ | with_reducible refine Loc1.bel (by assumption) ?_)))
  have k0 := cell_of hS 0
  have k1 := cell_of hS 1
  have g0 := cell_of hh 0
  have g1 := cell_of hh 1
  have hx0 : Below w.heap.size w ((w.alloc (.cells #[.int .i64 0, .int .i64 0, .bool false, .string ⟨#[]⟩, .float .f64 0] 25)).alloc (.cells #[.slice A s.1.length c, .int .i64 s.2] 81)) := bW
  have hz0 : ((w.alloc (.cells #[.int .i64 0, .int .i64 0, .bool false, .string ⟨#[]⟩, .float .f64 0] 25)).alloc (.cells #[.slice A s.1.length c, .int .i64 s.2] 81)).heap.size = w.heap.size + 2 := by simp
  simp only [List.getElem?_toArray, List.getElem?_cons_zero, List.getElem?_cons_succ] at k0 k1 g0 g1
  generalize vX s = r at *
  generalize hg2 : gVal s = q at *
  clear h hcp
  go_enter Try.func64, Try.ntmps64
  go_upto_region 2 with (fail)
  generalize ((w.alloc (.cells #[.int .i64 0, .int .i64 0, .bool false, .string ⟨#[]⟩, .float .f64 0] 25)).alloc (.cells #[.slice A s.1.length c, .int .i64 s.2] 81)) = w1 at *
  clear k0 k1 g0 g1
  go_wp2_with fail
  refine hI.out.mono ?_
  rintro x9 w2 ⟨rfl, hr2, hx2⟩
  generalize rInt s = pp at *
  obtain ⟨n, s1⟩ := pp
  replace E := Lib.hid (show r = if n = 0 ∧ s1.2 = 0 then .ok (zeroV, s1) else if q.1.2 = 0 then .ok (q.1.1, q.2) else .error q.1.2 from E.out)
  have hs2 := hx2.size
  have LR2 := loc_ext hx2 (by omega) LR
  have LS2 := loc_ext hx2 (by omega) LS
  have LG2 := loc_ext hx2 (by omega) LG
  have hx3 : Ext (fun k => k ≠ g) w w2 := ext_off (Below.ext hx0 _) hx2 (by omega)
  have H2 := Lib.hid (rd_off (H.out.below hx0) hx2 ⟨by omega, fun k hk => by have := hk.2; omega⟩)
  clear LR LS LG hI hP
  have HV := Lib.hid (hg2 ▸ vget_c g s H2.out)
  have k0 := cell_of LS2 0
  have k1 := cell_of LS2 1
  simp only [List.getElem?_toArray, List.getElem?_cons_zero, List.getElem?_cons_succ] at k0 k1
  by_cases hn : n = 0 ∧ s1.2 = 0
  · have E1 := Lib.hid (show r = .ok (zeroV, s1) by rw [E.out, if_pos hn])
    obtain ⟨hn1, hn2⟩ := hn
    obtain ⟨A', c', p0, p1, hL⟩ := rd_lay LG2 hr2 (by omega)
    rw [hn2] at hL p1
    have HL := Lib.hid hL
    clear hL
    have f0 := free_of LG2 0
    have f1 := free_of LG2 1
    have e0 := cell_of LG2 0
    have e1 := cell_of LG2 1
    simp only [List.getElem?_toArray, List.getElem?_cons_zero, List.getElem?_cons_succ] at e0 e1
    rw [hn1]
    go_wp2_with fail
    refine (err_c _ _ hr2).mono ?_
    rintro x9 w9 ⟨rfl, rfl⟩
    have hh := Lib.hid hn2
    rw [hn2]
    clear hn1 hn2
    go_upto_region 3 with (fail)
    go_region
    have HR3 := Lib.hid (HL.out.below (show Below _ _ (((w2.setCell ⟨g, 0, none⟩ (.slice A' s1.1.length c')).setCell ⟨g, 1, none⟩ (.int .i64 0)).drew) from (Below.refl _ _).drew))
    have LR3 : Loc1 w.heap.size 25 #[.int .i64 0, .int .i64 0, .bool false, .string ⟨#[]⟩, .float .f64 0] (((w2.setCell ⟨g, 0, none⟩ (.slice A' s1.1.length c')).setCell ⟨g, 1, none⟩ (.int .i64 0)).drew) := Loc1.dr (Loc1.st (by omega) (Loc1.st (by omega) LR2))
    have hx4 : Ext (fun k => k ≠ g) w (((w2.setCell ⟨g, 0, none⟩ (.slice A' s1.1.length c')).setCell ⟨g, 1, none⟩ (.int .i64 0)).drew) := hx3.trans ((ext_set_ne (ext_set_ne (Ext.refl _ _) 0 _) 1 _).trans (ext_drew _ _))
    clear f0 f1 e0 e1 k0 k1 p0 p1 HL HV H2
    generalize (((w2.setCell ⟨g, 0, none⟩ (.slice A' s1.1.length c')).setCell ⟨g, 1, none⟩ (.int .i64 0)).drew) = w3 at *
    obtain ⟨x0, x1, x2, x3, x4⟩ := cells5 LR3
    obtain ⟨y0, y1, y2, y3, y4⟩ := frees5 LR3
    have hz := lt_of_heap LR3
    go_wp2_with fail
    have KH := set5_heap (.int .i64 0) (.int .i64 0) (.bool false) (.string ⟨#[]⟩) (.float .f64 0) LR3
    have X5 := set5_ext w3 w.heap.size (.int .i64 0) (.int .i64 0) (.bool false) (.string ⟨#[]⟩) (.float .f64 0)
    have R5 : Rd (fun k => ok k ∧ k < w.heap.size) g (set5 w3 w.heap.size (.int .i64 0) (.int .i64 0) (.bool false) (.string ⟨#[]⟩) (.float .f64 0)) _ _ := rd_off HR3.out X5 ⟨by omega, fun k hk => by have := hk.2; omega⟩
    have Y5 : Ext (fun k => k ≠ g) w (set5 w3 w.heap.size (.int .i64 0) (.int .i64 0) (.bool false) (.string ⟨#[]⟩) (.float .f64 0)) := ext_off hx4 X5 (Nat.le_refl _)
    obtain ⟨q0, q1, q2, q3, q4⟩ := cells5 KH
    unfold set5 at q0 q1 q2 q3 q4 R5 Y5
    rw [E1.out]
    refine bodyPost_ret (v := .agg #[.int .i64 0, .int .i64 0, .bool false, .string ⟨#[]⟩, .float .f64 0]) (by simp [results, Try.results64, go_sem, q0, q1, q2, q3, q4]) rfl ⟨⟨rfl, ?_⟩, Y5⟩
    show Rd ok g _ s1.1 s1.2
    rw [hh.out]
    exact R5.weak fun k hk => hk.1
  · have E1 := Lib.hid (show r = if q.1.2 = 0 then .ok (q.1.1, q.2) else .error q.1.2 by rw [E.out, if_neg hn])
    have HT := Lib.hid (show ∀ (K : Unit), True from fun _ => trivial)
    by_cases hn1 : n = 0
    · have hn2 : (s1.2 == 0) = false := by
        have : ¬ s1.2 = 0 := fun h => hn ⟨hn1, h⟩
        simpa using this
      rw [hn1]
      clear hn hn1
      go_wp2_with fail
      refine (err_c _ _ hr2).mono ?_
      rintro x9 w9 ⟨rfl, rfl⟩
      go_wp2_with fail
      refine HV.out.mono ?_
      rintro x9 w4 ⟨rfl, hr4, hx4⟩
      have LR4 := loc_ext hx4 (by omega) LR2
      have hx5 := hx3.trans hx4
      have hs4 := hx4.size
      obtain ⟨⟨v, e9⟩, s4⟩ := q
      clear k0 k1 HV H2 hr2 LG2 LS2
      by_cases he : e9 = 0
      · have E2 := Lib.hid (show r = .ok (v, s4) by rw [E1.out, if_pos he])
        subst he
        go_wp2_with fail
        refine (told_ok v).mono ?_
        rintro x9 w5 ⟨rfl, hb5⟩
        have LR5 := LR4.below hb5
        have HR5 := Lib.hid (hr4.below hb5)
        have hx6 := hx5.trans (Below.ext hb5 (fun k => k ≠ g))
        obtain ⟨x0, x1, x2, x3, x4⟩ := cells5 LR5
        obtain ⟨y0, y1, y2, y3, y4⟩ := frees5 LR5
        have hz := lt_of_heap LR5
        go_wp2_with fail
        have KH := set5_heap (.int .i64 v.kind) (.int .i64 v.int) (.bool v.bool) (.string ⟨v.text.toArray⟩) (.float .f64 v.num) LR5
        have X5 := set5_ext w5 w.heap.size (.int .i64 v.kind) (.int .i64 v.int) (.bool v.bool) (.string ⟨v.text.toArray⟩) (.float .f64 v.num)
        have R5 : Rd (fun k => ok k ∧ k < w.heap.size) g (set5 w5 w.heap.size (.int .i64 v.kind) (.int .i64 v.int) (.bool v.bool) (.string ⟨v.text.toArray⟩) (.float .f64 v.num)) _ _ := rd_off HR5.out X5 ⟨by omega, fun k hk => by have := hk.2; omega⟩
        have Y5 : Ext (fun k => k ≠ g) w (set5 w5 w.heap.size (.int .i64 v.kind) (.int .i64 v.int) (.bool v.bool) (.string ⟨v.text.toArray⟩) (.float .f64 v.num)) := ext_off hx6 X5 (Nat.le_refl _)
        obtain ⟨q0, q1, q2, q3, q4⟩ := cells5 KH
        unfold set5 at q0 q1 q2 q3 q4 R5 Y5
        rw [E2.out]
        exact bodyPost_ret (v := .agg #[.int .i64 v.kind, .int .i64 v.int, .bool v.bool, .string ⟨v.text.toArray⟩, .float .f64 v.num]) (by simp [results, Try.results64, go_sem, q0, q1, q2, q3, q4]) rfl ⟨⟨rfl, R5.weak fun k hk => hk.1⟩, Y5⟩
      · have E2 := Lib.hid (show r = .error e9 by rw [E1.out, if_neg he])
        go_wp2_with fail
        refine (told_no v e9 he).mono ?_
        rintro x9 w5 ⟨hbd, hb5⟩
        have hbd : x9 = .panicked [{ v := .iface 89 (.int .i64 e9), recovered := false }] := hbd
        subst hbd
        have hx6 := hx5.trans (Below.ext hb5 (fun k => k ≠ g))
        go_wp2_with fail
        rw [E2.out]
        exact ⟨rfl, rfl, hx6⟩
    · have hn2 : (n == 0) = false := by simpa using hn1
      clear hn hn1
      go_wp2_with fail
      refine HV.out.mono ?_
      rintro x9 w4 ⟨rfl, hr4, hx4⟩
      have LR4 := loc_ext hx4 (by omega) LR2
      have hx5 := hx3.trans hx4
      have hs4 := hx4.size
      obtain ⟨⟨v, e9⟩, s4⟩ := q
      clear k0 k1 HV H2 hr2 LG2 LS2
      by_cases he : e9 = 0
      · have E2 := Lib.hid (show r = .ok (v, s4) by rw [E1.out, if_pos he])
        subst he
        go_wp2_with fail
        refine (told_ok v).mono ?_
        rintro x9 w5 ⟨rfl, hb5⟩
        have LR5 := LR4.below hb5
        have HR5 := Lib.hid (hr4.below hb5)
        have hx6 := hx5.trans (Below.ext hb5 (fun k => k ≠ g))
        obtain ⟨x0, x1, x2, x3, x4⟩ := cells5 LR5
        obtain ⟨y0, y1, y2, y3, y4⟩ := frees5 LR5
        have hz := lt_of_heap LR5
        go_wp2_with fail
        have KH := set5_heap (.int .i64 v.kind) (.int .i64 v.int) (.bool v.bool) (.string ⟨v.text.toArray⟩) (.float .f64 v.num) LR5
        have X5 := set5_ext w5 w.heap.size (.int .i64 v.kind) (.int .i64 v.int) (.bool v.bool) (.string ⟨v.text.toArray⟩) (.float .f64 v.num)
        have R5 : Rd (fun k => ok k ∧ k < w.heap.size) g (set5 w5 w.heap.size (.int .i64 v.kind) (.int .i64 v.int) (.bool v.bool) (.string ⟨v.text.toArray⟩) (.float .f64 v.num)) _ _ := rd_off HR5.out X5 ⟨by omega, fun k hk => by have := hk.2; omega⟩
        have Y5 : Ext (fun k => k ≠ g) w (set5 w5 w.heap.size (.int .i64 v.kind) (.int .i64 v.int) (.bool v.bool) (.string ⟨v.text.toArray⟩) (.float .f64 v.num)) := ext_off hx6 X5 (Nat.le_refl _)
        obtain ⟨q0, q1, q2, q3, q4⟩ := cells5 KH
        unfold set5 at q0 q1 q2 q3 q4 R5 Y5
        rw [E2.out]
        exact bodyPost_ret (v := .agg #[.int .i64 v.kind, .int .i64 v.int, .bool v.bool, .string ⟨v.text.toArray⟩, .float .f64 v.num]) (by simp [results, Try.results64, go_sem, q0, q1, q2, q3, q4]) rfl ⟨⟨rfl, R5.weak fun k hk => hk.1⟩, Y5⟩
      · have E2 := Lib.hid (show r = .error e9 by rw [E1.out, if_neg he])
        go_wp2_with fail
        refine (told_no v e9 he).mono ?_
        rintro x9 w5 ⟨hbd, hb5⟩
        have hbd : x9 = .panicked [{ v := .iface 89 (.int .i64 e9), recovered := false }] := hbd
        subst hbd
        have hx6 := hx5.trans (Below.ext hb5 (fun k => k ≠ g))
        go_wp2_with fail
        rw [E2.out]
        exact ⟨rfl, rfl, hx6⟩
end
end Go.Proofs.Ytijlamajcdekkaa
