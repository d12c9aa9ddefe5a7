/- Package contract, walked: its source: values, expressions. -/
import Derived.Test.YtjnhgfmjehaalaaGreatV5
namespace Go.Proofs.YtjnhgfmjehaalaaGreat
open Go.RowKit
set_option linter.unusedVariables false
set_option linter.unusedSimpArgs false
section
variable {ok : Nat → Prop} {w W W' : World} {b g : Nat} {S S' : CS}
theorem CJ.bound (h : CJ ok b g S w) : CJ (fun k => ok k ∧ k < w.heap.size) b g S w := ⟨fun he => (h.rd he).bound, h.src, h.ne, fun k hk => h.far k hk.1, h.glt⟩
theorem CJ.weak {ok' : Nat → Prop} (h : CJ ok b g S w) (hk : ∀ k, ok k → ok' k) (hf : ∀ k, ok' k → k ≠ b) : CJ ok' b g S w := ⟨fun he => (h.rd he).weak hk, h.src, h.ne, hf, h.glt⟩
theorem CJ.off {R : Nat} (h : CJ ok b g S W) (x : Ext (fun k => k ≠ R) W W') (hb : b ≠ R) (hk : ∀ k, ok k → k ≠ R) (hg : g ≠ R) : CJ ok b g S W' := ⟨fun he => rd_off (h.rd he) x ⟨hg, hk⟩, loc_ext x hb h.src, h.ne, h.far, Nat.lt_of_lt_of_le h.glt x.size⟩
theorem ext_off2 {R : Nat} (h : Ext (fun k => k ≠ g ∧ k ≠ b) w W) (x : Ext (fun k => k ≠ R) W W') (hR : w.heap.size ≤ R) : Ext (fun k => k ≠ g ∧ k ≠ b) w W' :=
 ⟨x.os.trans h.os, x.tape.trans h.tape, x.output.trans h.output, Nat.le_trans h.size x.size, fun k hk ho => (x.block k (Nat.lt_of_lt_of_le hk h.size) (by omega)).trans (h.block k hk ho)⟩
def RetCV (ok : Nat → Prop) (b g : Nat) (w : World) (v : Val) (S' : CS) (e : Ending) (w' : World) : Prop := e = .returned (.agg #[.int .i64 v.kind, .int .i64 v.int, .bool v.bool, .string ⟨v.text.toArray⟩, .float .f64 v.num]) ∧ CJ ok b g S' w' ∧ Ext (fun k => k ≠ g ∧ k ≠ b) w w'
set_option maxRecDepth 20000 in
set_option maxHeartbeats 8000000 in
theorem cval_c (J0 : CJ ok b g S w) : Calls Tryz.prog 133 #[.pointer (some ⟨b, 0, none⟩)] w (RetCV ok b g w (cVal S).1 (cVal S).2) := by
 have SF := store_f64
 have J := (J0.bound).below (show Below w.heap.size w (w.alloc (.cells #[.int .i64 0, .int .i64 0, .bool false, .string ⟨#[]⟩, .float .f64 0] 39)) from bW)
 have hbw := J0.blt
 have hgw := J0.glt
 have hfar := J0.far
 have LR := Loc1.new w 39 #[.int .i64 0, .int .i64 0, .bool false, .string ⟨#[]⟩, .float .f64 0]
 have hx0 : Ext (fun k => k ≠ g ∧ k ≠ b) w (w.alloc (.cells #[.int .i64 0, .int .i64 0, .bool false, .string ⟨#[]⟩, .float .f64 0] 39)) := ext_alloc _ _ _
 clear J0
 by_cases he : S.2 = 0
 rotate_left
 ·have E : cVal S = (zeroV, S) := by unfold cVal; rw [if_pos he]
  rw [E]
  clear E
  go_enter Tryz.func133, Tryz.ntmps133
  go_upto_region 1 with (fail)
  generalize (w.alloc (.cells #[.int .i64 0, .int .i64 0, .bool false, .string ⟨#[]⟩, .float .f64 0] 39)) = w0 at *
  have j0 := cell_of J.src 0
  have j1 := cell_of J.src 1
  have v1 := free_of J.src 1
  simp only [List.getElem?_toArray, List.getElem?_cons_zero, List.getElem?_cons_succ] at j0 j1
  have he1 : (S.2 == 0) = false := by simpa using he
  clear he
  obtain ⟨m0, m1, m2, m3, m4⟩ := cells5 LR
  have u0 := free_of LR 0
  have u1 := free_of LR 1
  have u2 := free_of LR 2
  have u3 := free_of LR 3
  have u4 := free_of LR 4
  have hz := lt_of_heap LR
  go_wp21
  have XS : Ext (fun k => k ≠ w.heap.size) w0 (((((w0.setCell ⟨w.heap.size, 0, none⟩ (.int .i64 0)).setCell ⟨w.heap.size, 1, none⟩ (.int .i64 0)).setCell ⟨w.heap.size, 2, none⟩ (.bool false)).setCell ⟨w.heap.size, 3, none⟩ (.string ⟨#[]⟩)).setCell ⟨w.heap.size, 4, none⟩ (.float .f64 0)) := (ext_set_ne (ext_set_ne (ext_set_ne (ext_set_ne (ext_set_ne (Ext.refl _ _) 0 _) 1 _) 2 _) 3 _) 4 _)
  have LF : Loc1 w.heap.size 39 #[.int .i64 0, .int .i64 0, .bool false, .string ⟨#[]⟩, .float .f64 0] (((((w0.setCell ⟨w.heap.size, 0, none⟩ (.int .i64 0)).setCell ⟨w.heap.size, 1, none⟩ (.int .i64 0)).setCell ⟨w.heap.size, 2, none⟩ (.bool false)).setCell ⟨w.heap.size, 3, none⟩ (.string ⟨#[]⟩)).setCell ⟨w.heap.size, 4, none⟩ (.float .f64 0)) := by
   have := (heap_set (heap_set (heap_set (heap_set (heap_set LR 0 (.int .i64 0)) 1 (.int .i64 0)) 2 (.bool false)) 3 (.string ⟨#[]⟩)) 4 (.float .f64 0))
   unfold Loc1
   simpa using this
  have JF := J.off XS (by omega) (fun k hk => by have := hk.2; omega) (by omega)
  have hxF := ext_off2 hx0 XS (Nat.le_refl _)
  clear XS LR J hx0
  obtain ⟨q0, q1, q2, q3, q4⟩ := cells5 LF
  exact bodyPost_ret (v := .agg #[.int .i64 0, .int .i64 0, .bool false, .string ⟨#[]⟩, .float .f64 0]) (by simp [results, Tryz.results133, go_sem, q0, q1, q2, q3, q4]) rfl ⟨rfl, JF.weak (fun k hk => hk.1) hfar, hxF⟩
 have E : cVal S = ((gVal S.1).1.1, ((gVal S.1).2, (gVal S.1).1.2)) := by unfold cVal; rw [if_neg (by simpa using he)]
 rw [E]
 clear E
 have HG := Lib.hid (vget_c g S.1 (J.rd he))
 generalize gVal S.1 = p at *
 obtain ⟨⟨v, e9⟩, s9⟩ := p
 have hh := Lib.hid he
 go_enter Tryz.func133, Tryz.ntmps133
 go_upto_region 1 with (fail)
 generalize (w.alloc (.cells #[.int .i64 0, .int .i64 0, .bool false, .string ⟨#[]⟩, .float .f64 0] 39)) = w0 at *
 have j0 := cell_of J.src 0
 have j1 := cell_of J.src 1
 have v1 := free_of J.src 1
 simp only [List.getElem?_toArray, List.getElem?_cons_zero, List.getElem?_cons_succ] at j0 j1
 have he1 : (S.2 == 0) = true := by simpa using he
 clear he
 go_wp2_with fail
 refine HG.out.mono ?_
 rintro x9 w1 ⟨rfl, hr1, hx1⟩
 have J1 := J.call hr1 hx1 hh.out
 have L1 := loc_ext hx1 (by omega) LR
 have hx2 := hx0.trans (hx1.weak (ok' := fun k => k ≠ g ∧ k ≠ b) fun k _ hk => hk.1)
 have HR := Lib.hid hr1
 have hs1 := hx1.size
 clear j0 j1 v1 J LR hx0 hr1
 obtain ⟨m0, m1, m2, m3, m4⟩ := cells5 L1
 have u0 := free_of L1 0
 have u1 := free_of L1 1
 have u2 := free_of L1 2
 have u3 := free_of L1 3
 have u4 := free_of L1 4
 have hz := lt_of_heap L1
 go_upto_region 4 with (fail)
 have HR2 := Lib.hid (rd_off HR.out (show Ext (fun k => k ≠ w.heap.size) w1 (((((w1.setCell ⟨w.heap.size, 0, none⟩ (.int .i64 v.kind)).setCell ⟨w.heap.size, 1, none⟩ (.int .i64 v.int)).setCell ⟨w.heap.size, 2, none⟩ (.bool v.bool)).setCell ⟨w.heap.size, 3, none⟩ (.string ⟨v.text.toArray⟩)).setCell ⟨w.heap.size, 4, none⟩ (.float .f64 v.num)) from (ext_set_ne (ext_set_ne (ext_set_ne (ext_set_ne (ext_set_ne (Ext.refl _ _) 0 _) 1 _) 2 _) 3 _) 4 _)) ⟨by omega, fun k hk => by have := hk.2; omega⟩)
 have XS : Ext (fun k => k ≠ w.heap.size) w1 (((((w1.setCell ⟨w.heap.size, 0, none⟩ (.int .i64 v.kind)).setCell ⟨w.heap.size, 1, none⟩ (.int .i64 v.int)).setCell ⟨w.heap.size, 2, none⟩ (.bool v.bool)).setCell ⟨w.heap.size, 3, none⟩ (.string ⟨v.text.toArray⟩)).setCell ⟨w.heap.size, 4, none⟩ (.float .f64 v.num)) := (ext_set_ne (ext_set_ne (ext_set_ne (ext_set_ne (ext_set_ne (Ext.refl _ _) 0 _) 1 _) 2 _) 3 _) 4 _)
 have L2 : Loc1 w.heap.size 39 #[.int .i64 v.kind, .int .i64 v.int, .bool v.bool, .string ⟨v.text.toArray⟩, .float .f64 v.num] (((((w1.setCell ⟨w.heap.size, 0, none⟩ (.int .i64 v.kind)).setCell ⟨w.heap.size, 1, none⟩ (.int .i64 v.int)).setCell ⟨w.heap.size, 2, none⟩ (.bool v.bool)).setCell ⟨w.heap.size, 3, none⟩ (.string ⟨v.text.toArray⟩)).setCell ⟨w.heap.size, 4, none⟩ (.float .f64 v.num)) := by
  have := (heap_set (heap_set (heap_set (heap_set (heap_set L1 0 (.int .i64 v.kind)) 1 (.int .i64 v.int)) 2 (.bool v.bool)) 3 (.string ⟨v.text.toArray⟩)) 4 (.float .f64 v.num))
  unfold Loc1
  simpa using this
 have J2 := J1.off XS (by omega) (fun k hk => by have := hk.2; omega) (by omega)
 have hx3 := ext_off2 hx2 XS (Nat.le_refl _)
 clear XS L1 J1 hx2
 generalize (((((w1.setCell ⟨w.heap.size, 0, none⟩ (.int .i64 v.kind)).setCell ⟨w.heap.size, 1, none⟩ (.int .i64 v.int)).setCell ⟨w.heap.size, 2, none⟩ (.bool v.bool)).setCell ⟨w.heap.size, 3, none⟩ (.string ⟨v.text.toArray⟩)).setCell ⟨w.heap.size, 4, none⟩ (.float .f64 v.num)) = w2 at *
 clear m0 m1 m2 m3 m4 u0 u1 u2 u3 u4 hz
 go_wp2_with fail
 refine (keep_c e9 J2 rfl s9 fun _ => HR2.out).mono ?_
 rintro x9 w3 ⟨rfl, J3, hx4⟩
 have L3 : Loc1 w.heap.size 39 #[.int .i64 v.kind, .int .i64 v.int, .bool v.bool, .string ⟨v.text.toArray⟩, .float .f64 v.num] w3 := (hx4.block _ (lt_of_heap L2) ⟨by omega, by omega⟩).trans L2
 have hx5 := hx3.trans hx4
 clear L2 J2 hx3 HR2
 obtain ⟨m0, m1, m2, m3, m4⟩ := cells5 L3
 have u0 := free_of L3 0
 have u1 := free_of L3 1
 have u2 := free_of L3 2
 have u3 := free_of L3 3
 have u4 := free_of L3 4
 have hz := lt_of_heap L3
 go_wp21
 have XS : Ext (fun k => k ≠ w.heap.size) w3 (((((w3.setCell ⟨w.heap.size, 0, none⟩ (.int .i64 v.kind)).setCell ⟨w.heap.size, 1, none⟩ (.int .i64 v.int)).setCell ⟨w.heap.size, 2, none⟩ (.bool v.bool)).setCell ⟨w.heap.size, 3, none⟩ (.string ⟨v.text.toArray⟩)).setCell ⟨w.heap.size, 4, none⟩ (.float .f64 v.num)) := (ext_set_ne (ext_set_ne (ext_set_ne (ext_set_ne (ext_set_ne (Ext.refl _ _) 0 _) 1 _) 2 _) 3 _) 4 _)
 have LF : Loc1 w.heap.size 39 #[.int .i64 v.kind, .int .i64 v.int, .bool v.bool, .string ⟨v.text.toArray⟩, .float .f64 v.num] (((((w3.setCell ⟨w.heap.size, 0, none⟩ (.int .i64 v.kind)).setCell ⟨w.heap.size, 1, none⟩ (.int .i64 v.int)).setCell ⟨w.heap.size, 2, none⟩ (.bool v.bool)).setCell ⟨w.heap.size, 3, none⟩ (.string ⟨v.text.toArray⟩)).setCell ⟨w.heap.size, 4, none⟩ (.float .f64 v.num)) := by
  have := (heap_set (heap_set (heap_set (heap_set (heap_set L3 0 (.int .i64 v.kind)) 1 (.int .i64 v.int)) 2 (.bool v.bool)) 3 (.string ⟨v.text.toArray⟩)) 4 (.float .f64 v.num))
  unfold Loc1
  simpa using this
 have JF := J3.off XS (by omega) (fun k hk => by have := hk.2; omega) (by omega)
 have hxF := ext_off2 hx5 XS (Nat.le_refl _)
 clear XS L3 J3 hx5
 obtain ⟨q0, q1, q2, q3, q4⟩ := cells5 LF
 exact bodyPost_ret (v := .agg #[.int .i64 v.kind, .int .i64 v.int, .bool v.bool, .string ⟨v.text.toArray⟩, .float .f64 v.num]) (by simp [results, Tryz.results133, go_sem, q0, q1, q2, q3, q4]) rfl ⟨rfl, JF.weak (fun k hk => hk.1) hfar, hxF⟩
end
end Go.Proofs.YtjnhgfmjehaalaaGreat
