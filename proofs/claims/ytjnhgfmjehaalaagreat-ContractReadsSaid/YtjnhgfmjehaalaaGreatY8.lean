/- The references' contracts, read: moves. -/
import Derived.Test.YtjnhgfmjehaalaaGreatY7
import Derived.Test.YtjnhgfmjehaalaaGreatY8a
namespace Go.Proofs.YtjnhgfmjehaalaaGreat
open Go.RowKit
set_option linter.unusedVariables false
set_option linter.unusedSimpArgs false
section
variable {ok : Nat → Prop} {w : World} {g : Nat}
/-- what getMove answers -/
def RetMq (ok : Nat → Prop) (g : Nat) (w : World) (r : Except Int (Mov × RS)) (e : Ending) (w' : World) : Prop :=
 (match r with
   | .ok p => ∃ cs : List Value, e = .returned (.tuple #[.agg cs.toArray, .int .i64 0]) ∧ (kMov 6).R (fun k => w.heap.size ≤ k) w' cs p.1 ∧ RdQ ok g w' p.2.1 p.2.2
   | .error x => x ≠ 0 ∧ ∃ (m : Mov) (A D : Option Addr) (n c n2 c2 : Nat), e = .returned (.tuple #[.agg #[.string ⟨m.name.toArray⟩, .int .i64 m.frm, .int .i64 m.tgt, .int .i64 m.guard.op, .slice A n c, .string ⟨m.guard.name.toArray⟩, .int .i64 m.guard.val.kind, .int .i64 m.guard.val.int, .bool m.guard.val.bool, .string ⟨m.guard.val.text.toArray⟩, .float .f64 m.guard.val.num, .slice D n2 c2, .int .i64 m.org], .int .i64 x])) ∧ Ext (fun k => k ≠ g) w w'
def QM2 (ok : Nat → Prop) (w : World) (g : Nat) (nm : List UInt8) (k1 k2 k3 : Int) (e : Exp) (B1 : Option Addr) (d1 : Nat) (s6 : RS) (n fb B : Nat) (v8 : Value) (W : World) : Prop :=
 ∃ (i : Nat) (l : List Eff) (s7 : RS) (kv : Value), i ≤ n ∧ v8 = .int .i64 (i : Int) ∧ qE qEffect s6 i = .ok (l, s7) ∧ Loc1 fb 47 #[.string ⟨nm.toArray⟩, .int .i64 k1, .int .i64 k2, .int .i64 e.op, .slice B1 e.kids.length d1, .string ⟨e.name.toArray⟩, .int .i64 e.val.kind, .int .i64 e.val.int, .bool e.val.bool, .string ⟨e.val.text.toArray⟩, .float .f64 e.val.num, kv, .int .i64 k3] W ∧ QL ok w g s7 W ∧ Loc1 w.heap.size 47 #[.string ⟨#[]⟩, .int .i64 0, .int .i64 0, .int .i64 0, .slice none 0 0, .string ⟨#[]⟩, .int .i64 0, .int .i64 0, .bool false, .string ⟨#[]⟩, .float .f64 0, .slice none 0 0, .int .i64 0] W ∧ Own (kEff 6) 51 (fun k => B ≤ k) W B kv l ∧ B ≤ W.heap.size ∧ Sl (kExp 5) (fun k => fb < k ∧ k < B) W (.slice B1 e.kids.length d1) e.kids
set_option maxRecDepth 20000 in
set_option maxHeartbeats 20000000 in
theorem qmove_c (g : Nat) (s : RS) (h : RdQ ok g w s.1 s.2) : Calls Tryz.prog 141 #[.pointer (some ⟨g, 0, none⟩)] w (RetMq ok g w (qMove s)) := by
 have SF := store_f64
 have hgw := h.lt
 have J := (QL.start h).below (show Below w.heap.size w (w.alloc (.cells #[.string ⟨#[]⟩, .int .i64 0, .int .i64 0, .int .i64 0, .slice none 0 0, .string ⟨#[]⟩, .int .i64 0, .int .i64 0, .bool false, .string ⟨#[]⟩, .float .f64 0, .slice none 0 0, .int .i64 0] 47)) from bW)
 have LR := Loc1.new w 47 #[.string ⟨#[]⟩, .int .i64 0, .int .i64 0, .int .i64 0, .slice none 0 0, .string ⟨#[]⟩, .int .i64 0, .int .i64 0, .bool false, .string ⟨#[]⟩, .float .f64 0, .slice none 0 0, .int .i64 0]
 have E := Lib.hid (show qMove s = qMov1 (rBytes 16 s).1 (rInt (rBytes 16 s).2) from rfl)
 generalize qMove s = r at *
 clear h
 go_enter Tryz.func141, Tryz.ntmps141
 go_upto_region 1 with (fail)
 generalize (w.alloc (.cells #[.string ⟨#[]⟩, .int .i64 0, .int .i64 0, .int .i64 0, .slice none 0 0, .string ⟨#[]⟩, .int .i64 0, .int .i64 0, .bool false, .string ⟨#[]⟩, .float .f64 0, .slice none 0 0, .int .i64 0] 47)) = w0 at *
 have HB := Lib.hid (fun (W : World) (h : RdQ (fun k => ok k ∧ k < w.heap.size) g W s.1 s.2) => qBytes_c g 16 s h)
 generalize rBytes 16 s = p1 at *
 obtain ⟨nm, s1⟩ := p1
 replace E := Lib.hid (show r = qMov1 nm (rInt s1) from E.out)
 replace HB := Lib.hid (show ∀ (W : World), RdQ (fun k => ok k ∧ k < w.heap.size) g W s.1 s.2 → Calls Tryz.prog 82 #[.pointer (some ⟨g, 0, none⟩), .int .i64 16] W (fun e w' => ∃ v, e = .returned v ∧ Own kU8 5 (fun k => ok k ∧ k < w.heap.size) w' W.heap.size v nm ∧ RdQ (fun k => ok k ∧ k < w.heap.size) g w' s1.1 s1.2 ∧ Ext (fun k => k ≠ g) W w') from HB.out)
 have HI1 := Lib.hid (fun (W : World) (h : RdQ (fun k => ok k ∧ k < w.heap.size) g W s1.1 s1.2) => qInt_c g s1 h)
 generalize rInt s1 = p2 at *
 obtain ⟨k1, s2⟩ := p2
 replace E := Lib.hid (show r = qMov2 nm k1 (rInt s2) from E.out)
 replace HI1 := Lib.hid (show ∀ (W : World), RdQ (fun k => ok k ∧ k < w.heap.size) g W s1.1 s1.2 → Calls Tryz.prog 140 #[.pointer (some ⟨g, 0, none⟩)] W (Rq (fun k => ok k ∧ k < w.heap.size) g W (.int .i64 k1) s2) from HI1.out)
 have HI2 := Lib.hid (fun (W : World) (h : RdQ (fun k => ok k ∧ k < w.heap.size) g W s2.1 s2.2) => qInt_c g s2 h)
 generalize rInt s2 = p2 at *
 obtain ⟨k2, s3⟩ := p2
 replace E := Lib.hid (show r = qMov3 nm k1 k2 (rInt s3) from E.out)
 replace HI2 := Lib.hid (show ∀ (W : World), RdQ (fun k => ok k ∧ k < w.heap.size) g W s2.1 s2.2 → Calls Tryz.prog 140 #[.pointer (some ⟨g, 0, none⟩)] W (Rq (fun k => ok k ∧ k < w.heap.size) g W (.int .i64 k2) s3) from HI2.out)
 have HI3 := Lib.hid (fun (W : World) (h : RdQ (fun k => ok k ∧ k < w.heap.size) g W s3.1 s3.2) => qInt_c g s3 h)
 generalize rInt s3 = p2 at *
 obtain ⟨k3, s4⟩ := p2
 replace E := Lib.hid (show r = if s4.2 ≠ 0 then .error s4.2 else match gE s4 with | .error x => .error x | .ok p => qMov4 nm k1 k2 k3 p.1 (rCount 4 p.2) from E.out)
 replace HI3 := Lib.hid (show ∀ (W : World), RdQ (fun k => ok k ∧ k < w.heap.size) g W s3.1 s3.2 → Calls Tryz.prog 140 #[.pointer (some ⟨g, 0, none⟩)] W (Rq (fun k => ok k ∧ k < w.heap.size) g W (.int .i64 k3) s4) from HI3.out)
 have hz0 := lt_of_heap LR
 refine qmove_r1 J LR hgw HB HI1 HI2 HI3 (fun _ d _ _ _ h => by cases d <;> exact h) ?_
 clear HB HI1 HI2 HI3 hz0 J LR
 intro w2 fb u12 u13 u14 u15 u16 u17 u18 u19 u20 u21 LF J1 LR1 hfb
 simp only [Exit.then]
 try apply_assumption
 have J := J1
 have LR := LR1
 clear J1 LR1
 have he4 := J.e
 have hf2 := lt_of_heap LF
 by_cases he : s4.2 = 0
 rotate_left
 ·have he1 : (s4.2 != 0) = true := by simpa using he
  have E2 := Lib.hid (show r = .error s4.2 by rw [E.out]; rw [if_pos he])
  have hne := Lib.hid he
  clear he
  go_upto_region 3 with (fail)
  obtain ⟨m0, m1, m2, m3, m4, m5, m6, m7, m8, m9, m10, m11, m12⟩ := cells13 LF
  have hzm := lt_of_heap LF
  obtain ⟨q0, q1, q2, q3, q4, q5, q6, q7, q8, q9, q10, q11, q12, y0, y1, y2, y3, y4, y5, y6, y7, y8, y9, y10, y11, y12, hzq⟩ := op13 LR
  obtain ⟨LS1, XS1⟩ := st13 LR (.string ⟨nm.toArray⟩) (.int .i64 k1) (.int .i64 k2) (.int .i64 0) (.slice none 0 0) (.string ⟨#[]⟩) (.int .i64 0) (.int .i64 0) (.bool false) (.string ⟨#[]⟩) (.float .f64 0) (.slice none 0 0) (.int .i64 k3)
  have J5 := J.off XS1 (Nat.le_refl _) hgw
  have HF := Lib.hid J5
  obtain ⟨v0, v1, v2, v3, v4, v5, v6, v7, v8, v9, v10, v11, v12⟩ := cells13 LS1
  clear LS1 J5
  go_region
  all_goals
   go_wp21
   rw [E2.out]
   exact bodyPost_ret (v := .tuple #[.agg #[.string ⟨nm.toArray⟩, .int .i64 k1, .int .i64 k2, .int .i64 0, .slice none 0 0, .string ⟨#[]⟩, .int .i64 0, .int .i64 0, .bool false, .string ⟨#[]⟩, .float .f64 0, .slice none 0 0, .int .i64 k3], .int .i64 s4.2]) (by simp [results, Tryz.results141, go_sem, v0, v1, v2, v3, v4, v5, v6, v7, v8, v9, v10, v11, v12]) rfl ⟨⟨hne.out, ⟨nm, k1, k2, zeroE, [], k3⟩, _, _, _, _, _, _, rfl⟩, HF.out.ext.trans (ext_drew _ _)⟩
 have he1 : (s4.2 != 0) = false := by simpa using he
 replace E := Lib.hid (show r = match gE s4 with | .error x => .error x | .ok p => qMov4 nm k1 k2 k3 p.1 (rCount 4 p.2) by rw [E.out, if_neg (by simpa using he)])
 clear he
 have C1 := Lib.hid (qeget_c g s4 J.rd)
 cases hx : gE s4 with
 | error x =>
  rw [hx] at C1 E
  have hx0 := Lib.hid (gE_err hx)
  have hx1 : (x != 0) = true := by simpa using gE_err hx
  clear hx
  go_wp2_with fail
  refine C1.out.mono ?_
  rintro x9 w3 ⟨hbd, hx3⟩
  have hbd : x9 = .returned (.tuple #[.agg #[.int .i64 0, .slice none 0 0, .string ⟨#[]⟩, .int .i64 0, .int .i64 0, .bool false, .string ⟨#[]⟩, .float .f64 0], .int .i64 x]) := hbd
  subst hbd
  have X3 := J.ext.trans hx3
  replace LF := loc_ext hx3 (by omega) LF
  replace LR := loc_ext hx3 (by omega) LR
  clear he4 C1 J hx3
  go_upto_region 5 with (fail)
  have BA : Below w3.heap.size w3 (w3.alloc (.cells #[.int .i64 0, .slice none 0 0, .string ⟨#[]⟩, .int .i64 0, .int .i64 0, .bool false, .string ⟨#[]⟩, .float .f64 0] 44)) := bW
  replace LF := LF.bel BA
  replace LR := LR.bel BA
  replace X3 := X3.trans (Below.ext BA _)
  clear BA
  generalize hw6 : (w3.alloc (.cells #[.int .i64 0, .slice none 0 0, .string ⟨#[]⟩, .int .i64 0, .int .i64 0, .bool false, .string ⟨#[]⟩, .float .f64 0] 44)) = w4 at *
  clear hw6
  obtain ⟨m0, m1, m2, m3, m4, m5, m6, m7, m8, m9, m10, m11, m12⟩ := cells13 LF
  have hzm := lt_of_heap LF
  obtain ⟨q0, q1, q2, q3, q4, q5, q6, q7, q8, q9, q10, q11, q12, y0, y1, y2, y3, y4, y5, y6, y7, y8, y9, y10, y11, y12, hzq⟩ := op13 LR
  obtain ⟨LS1, XS1⟩ := st13 LR (.string ⟨nm.toArray⟩) (.int .i64 k1) (.int .i64 k2) (.int .i64 0) (.slice none 0 0) (.string ⟨#[]⟩) (.int .i64 0) (.int .i64 0) (.bool false) (.string ⟨#[]⟩) (.float .f64 0) (.slice none 0 0) (.int .i64 k3)
  have HF := Lib.hid (ext_off X3 XS1 (Nat.le_refl _))
  obtain ⟨v0, v1, v2, v3, v4, v5, v6, v7, v8, v9, v10, v11, v12⟩ := cells13 LS1
  clear LS1 XS1 X3
  go_wp21
  rw [E.out]
  exact bodyPost_ret (v := .tuple #[.agg #[.string ⟨nm.toArray⟩, .int .i64 k1, .int .i64 k2, .int .i64 0, .slice none 0 0, .string ⟨#[]⟩, .int .i64 0, .int .i64 0, .bool false, .string ⟨#[]⟩, .float .f64 0, .slice none 0 0, .int .i64 k3], .int .i64 x]) (by simp [results, Tryz.results141, go_sem, v0, v1, v2, v3, v4, v5, v6, v7, v8, v9, v10, v11, v12]) rfl ⟨⟨hx0.out, ⟨nm, k1, k2, zeroE, [], k3⟩, _, _, _, _, _, _, rfl⟩, HF.out⟩
 | ok p =>
 rw [hx] at C1 E
 obtain ⟨e, s5⟩ := p
 clear hx
 go_wp2_with fail
 refine C1.out.mono ?_
 rintro x9 w3 ⟨⟨cs, rfl, hR, hr3⟩, hx3⟩
 obtain ⟨kd, B1, d1, hkd, rfl, hks⟩ := exp_open hR
 obtain rfl : kd = 5 := by omega
 replace J := J.call hr3 hx3
 replace LF := loc_ext hx3 (by omega) LF
 replace LR := loc_ext hx3 (by omega) LR
 simp only at hks
 clear he4 C1 hr3 hx3 hR hkd
 replace E := Lib.hid (show r = qMov4 nm k1 k2 k3 e (rCount 4 s5) from E.out)
 go_upto_region 7 with (fail)
 have BA : Below w3.heap.size w3 (w3.alloc (.cells #[.int .i64 e.op, .slice B1 e.kids.length d1, .string ⟨e.name.toArray⟩, .int .i64 e.val.kind, .int .i64 e.val.int, .bool e.val.bool, .string ⟨e.val.text.toArray⟩, .float .f64 e.val.num] 44)) := bW
 have LG := Loc1.new w3 44 #[.int .i64 e.op, .slice B1 e.kids.length d1, .string ⟨e.name.toArray⟩, .int .i64 e.val.kind, .int .i64 e.val.int, .bool e.val.bool, .string ⟨e.val.text.toArray⟩, .float .f64 e.val.num]
 replace LF := LF.bel BA
 replace LR := LR.bel BA
 replace J := J.below BA
 replace hks := hks.below BA
 clear BA
 generalize hw6 : (w3.alloc (.cells #[.int .i64 e.op, .slice B1 e.kids.length d1, .string ⟨e.name.toArray⟩, .int .i64 e.val.kind, .int .i64 e.val.int, .bool e.val.bool, .string ⟨e.val.text.toArray⟩, .float .f64 e.val.num] 44)) = w4 at *
 clear hw6
 obtain ⟨x0, x1, x2, x3, x4, x5, x6, x7⟩ := cells8 LG
 have hzx := lt_of_heap LG
 obtain ⟨m0, m1, m2, m3, m4, m5, m6, m7, m8, m9, m10, m11, m12, u0, u1, u2, u3, u4, u5, u6, u7, u8, u9, u10, u11, u12, hzm⟩ := op13 LF
 go_upto_region 8 with (fail)
 have XF : Ext (fun k => k ≠ fb) w4 ((((((((w4.setCell ⟨fb, 3, none⟩ (.int .i64 e.op)).setCell ⟨fb, 4, none⟩ (.slice B1 e.kids.length d1)).setCell ⟨fb, 5, none⟩ (.string ⟨e.name.toArray⟩)).setCell ⟨fb, 6, none⟩ (.int .i64 e.val.kind)).setCell ⟨fb, 7, none⟩ (.int .i64 e.val.int)).setCell ⟨fb, 8, none⟩ (.bool e.val.bool)).setCell ⟨fb, 9, none⟩ (.string ⟨e.val.text.toArray⟩)).setCell ⟨fb, 10, none⟩ (.float .f64 e.val.num)) := (ext_set_ne (ext_set_ne (ext_set_ne (ext_set_ne (ext_set_ne (ext_set_ne (ext_set_ne (ext_set_ne (Ext.refl _ _) 3 _) 4 _) 5 _) 6 _) 7 _) 8 _) 9 _) 10 _)
 have LF7 : Loc1 fb 47 #[.string ⟨nm.toArray⟩, .int .i64 k1, .int .i64 k2, .int .i64 e.op, .slice B1 e.kids.length d1, .string ⟨e.name.toArray⟩, .int .i64 e.val.kind, .int .i64 e.val.int, .bool e.val.bool, .string ⟨e.val.text.toArray⟩, .float .f64 e.val.num, .slice none 0 0, .int .i64 k3] ((((((((w4.setCell ⟨fb, 3, none⟩ (.int .i64 e.op)).setCell ⟨fb, 4, none⟩ (.slice B1 e.kids.length d1)).setCell ⟨fb, 5, none⟩ (.string ⟨e.name.toArray⟩)).setCell ⟨fb, 6, none⟩ (.int .i64 e.val.kind)).setCell ⟨fb, 7, none⟩ (.int .i64 e.val.int)).setCell ⟨fb, 8, none⟩ (.bool e.val.bool)).setCell ⟨fb, 9, none⟩ (.string ⟨e.val.text.toArray⟩)).setCell ⟨fb, 10, none⟩ (.float .f64 e.val.num)) := by
  have := heap_set (heap_set (heap_set (heap_set (heap_set (heap_set (heap_set (heap_set LF 3 (.int .i64 e.op)) 4 (.slice B1 e.kids.length d1)) 5 (.string ⟨e.name.toArray⟩)) 6 (.int .i64 e.val.kind)) 7 (.int .i64 e.val.int)) 8 (.bool e.val.bool)) 9 (.string ⟨e.val.text.toArray⟩)) 10 (.float .f64 e.val.num)
  unfold Loc1
  simpa using this
 replace J := J.off XF (by omega) hgw
 replace LR := loc_ext XF (by omega) LR
 replace hks : Sl (kExp 5) (fun k => fb < k ∧ k < w4.heap.size) ((((((((w4.setCell ⟨fb, 3, none⟩ (.int .i64 e.op)).setCell ⟨fb, 4, none⟩ (.slice B1 e.kids.length d1)).setCell ⟨fb, 5, none⟩ (.string ⟨e.name.toArray⟩)).setCell ⟨fb, 6, none⟩ (.int .i64 e.val.kind)).setCell ⟨fb, 7, none⟩ (.int .i64 e.val.int)).setCell ⟨fb, 8, none⟩ (.bool e.val.bool)).setCell ⟨fb, 9, none⟩ (.string ⟨e.val.text.toArray⟩)).setCell ⟨fb, 10, none⟩ (.float .f64 e.val.num)) (.slice B1 e.kids.length d1) e.kids := (hks.bound.weak fun k hk => ⟨by have := hk.1; omega, hk.2⟩).ext (XF.weak fun k _ hk => by have := hk.1; omega)
 have hzw : ((((((((w4.setCell ⟨fb, 3, none⟩ (.int .i64 e.op)).setCell ⟨fb, 4, none⟩ (.slice B1 e.kids.length d1)).setCell ⟨fb, 5, none⟩ (.string ⟨e.name.toArray⟩)).setCell ⟨fb, 6, none⟩ (.int .i64 e.val.kind)).setCell ⟨fb, 7, none⟩ (.int .i64 e.val.int)).setCell ⟨fb, 8, none⟩ (.bool e.val.bool)).setCell ⟨fb, 9, none⟩ (.string ⟨e.val.text.toArray⟩)).setCell ⟨fb, 10, none⟩ (.float .f64 e.val.num)).heap.size = w4.heap.size := by simp only [World.size_setCell]
 rw [← hzw] at hks
 clear m0 m1 m2 m3 m4 m5 m6 m7 m8 m9 m10 m11 m12 u0 u1 u2 u3 u4 u5 u6 u7 u8 u9 u10 u11 u12 hzm
 clear LF XF LG x0 x1 x2 x3 x4 x5 x6 x7 hzx hzw
 generalize hw7 : ((((((((w4.setCell ⟨fb, 3, none⟩ (.int .i64 e.op)).setCell ⟨fb, 4, none⟩ (.slice B1 e.kids.length d1)).setCell ⟨fb, 5, none⟩ (.string ⟨e.name.toArray⟩)).setCell ⟨fb, 6, none⟩ (.int .i64 e.val.kind)).setCell ⟨fb, 7, none⟩ (.int .i64 e.val.int)).setCell ⟨fb, 8, none⟩ (.bool e.val.bool)).setCell ⟨fb, 9, none⟩ (.string ⟨e.val.text.toArray⟩)).setCell ⟨fb, 10, none⟩ (.float .f64 e.val.num)) = w5 at *
 clear hw7
 have C1 := Lib.hid (qCount_c g 4 s5 J.rd)
 have hle : (rCount 4 s5).1 ≤ 4 := rCount_le4 s5
 generalize rCount 4 s5 = p3 at *
 obtain ⟨n, s6⟩ := p3
 replace E := Lib.hid (show r = qMov5 nm k1 k2 k3 e (qE qEffect s6 n) from E.out)
 replace C1 := Lib.hid (show Calls Tryz.prog 138 #[.pointer (some ⟨g, 0, none⟩), .int .i64 4] w5 (Rq (fun k => ok k ∧ k < w.heap.size) g w5 (.int .i64 (n : Int)) s6) from C1.out)
 simp only at hle
 go_wp2_with fail
 refine C1.out.mono ?_
 rintro x9 w6 ⟨rfl, hr6, hx6⟩
 replace J := J.call hr6 hx6
 replace LF7 := loc_ext hx6 (by omega) LF7
 replace LR := loc_ext hx6 (by omega) LR
 have hs6 := hx6.size
 replace hks : Sl (kExp 5) (fun k => fb < k ∧ k < w6.heap.size) w6 (.slice B1 e.kids.length d1) e.kids := (hks.ext (hx6.weak fun k _ hk => by have := hk.1; omega)).weak fun k hk => ⟨hk.1, by have := hk.2; omega⟩
 clear hr6 hx6 C1 hs6
 have hfz := lt_of_heap LF7
 go_wp2_with fail
 generalize hB : w6.heap.size = B at *
 have hB6 : B ≤ w6.heap.size := by omega
 clear hB
 go_loopw [8] (fun v8 wz => QM2 ok w g nm k1 k2 k3 e B1 d1 s6 n fb B v8 wz) (fun v8 _ => n - (intOf v8).toNat)
 case atStart => exact ⟨0, [], s6, _, Nat.zero_le _, rfl, rfl, LF7, J, LR, Own.nil _ _ _ _ _, hB6, hks⟩
 case round =>
  obtain ⟨wo, hwx⟩ : ∃ x, x = wr := ⟨_, rfl⟩
  subst hwx
  clear J LF7 LR hB6 hks
  obtain ⟨i, l, s7, kv, hi, rfl, hqe, LF, J, LR, HO, hws, hks⟩ := hrel
  have HQ := Lib.hid hqe
  have EL := Lib.hid (qE_len hqe)
  clear hqe
  obtain ⟨Ak, nk, ck, rfl, hnk⟩ := HO.form'
  have HNK := Lib.hid hnk
  clear hnk
  by_cases hin : i < n
  rotate_left
  ·have hi2 : i = n := by omega
   have E1 := Lib.hid (show r = if s7.2 ≠ 0 then .error s7.2 else .ok (⟨nm, k1, k2, e, l, k3⟩, s7) by rw [E.out, ← hi2, HQ.out]; rfl)
   obtain rfl : nk = l.length := HNK.out
   have hin1 : ¬ (i : Int) < (n : Int) := by omega
   clear hi2 E HQ EL hin
   have he4 := J.e
   go_upto_region 19 with (fail)
   obtain ⟨m0, m1, m2, m3, m4, m5, m6, m7, m8, m9, m10, m11, m12⟩ := cells13 LF
   have hzm := lt_of_heap LF
   obtain ⟨q0, q1, q2, q3, q4, q5, q6, q7, q8, q9, q10, q11, q12, y0, y1, y2, y3, y4, y5, y6, y7, y8, y9, y10, y11, y12, hzq⟩ := op13 LR
   obtain ⟨LS1, XS1⟩ := st13 LR (.string ⟨nm.toArray⟩) (.int .i64 k1) (.int .i64 k2) (.int .i64 e.op) (.slice B1 e.kids.length d1) (.string ⟨e.name.toArray⟩) (.int .i64 e.val.kind) (.int .i64 e.val.int) (.bool e.val.bool) (.string ⟨e.val.text.toArray⟩) (.float .f64 e.val.num) (.slice Ak l.length ck) (.int .i64 k3)
   have J5 := J.off XS1 (Nat.le_refl _) hgw
   have HF := Lib.hid J5
   have HS := Lib.hid (((own_far HO (show w.heap.size < B by omega) XS1).sl fun k hk => hk).weak (ok' := fun k => w.heap.size ≤ k) fun k hk => by have : B ≤ k := hk; omega)
   have HK := Lib.hid (show Sl (kExp 5) (fun k => w.heap.size ≤ k) _ (.slice B1 e.kids.length d1) e.kids from (hks.ext (XS1.weak fun k _ hk => by have := hk.1; omega)).weak fun k hk => by have := hk.1; omega)
   obtain ⟨v0, v1, v2, v3, v4, v5, v6, v7, v8, v9, v10, v11, v12⟩ := cells13 LS1
   clear LS1 J5 XS1
   go_region
   all_goals
    go_wp21
    rw [E1.out]
    by_cases he : s7.2 = 0
    ·rw [if_neg (by simpa using he)]
     rw [he]
     exact bodyPost_ret (v := .tuple #[.agg #[.string ⟨nm.toArray⟩, .int .i64 k1, .int .i64 k2, .int .i64 e.op, .slice B1 e.kids.length d1, .string ⟨e.name.toArray⟩, .int .i64 e.val.kind, .int .i64 e.val.int, .bool e.val.bool, .string ⟨e.val.text.toArray⟩, .float .f64 e.val.num, .slice Ak l.length ck, .int .i64 k3], .int .i64 0]) (by simp [results, Tryz.results141, go_sem, v0, v1, v2, v3, v4, v5, v6, v7, v8, v9, v10, v11, v12]) rfl ⟨⟨_, rfl, mov_mk (k := 5) (m := ⟨nm, k1, k2, e, l, k3⟩) (HK.out.below (Below.refl _ _).drew) (HS.out.below (Below.refl _ _).drew), HF.out.fin.below (Below.refl _ _).drew⟩, HF.out.ext.trans (ext_drew _ _)⟩
    ·rw [if_pos (by simpa using he)]
     exact bodyPost_ret (v := .tuple #[.agg #[.string ⟨nm.toArray⟩, .int .i64 k1, .int .i64 k2, .int .i64 e.op, .slice B1 e.kids.length d1, .string ⟨e.name.toArray⟩, .int .i64 e.val.kind, .int .i64 e.val.int, .bool e.val.bool, .string ⟨e.val.text.toArray⟩, .float .f64 e.val.num, .slice Ak l.length ck, .int .i64 k3], .int .i64 s7.2]) (by simp [results, Tryz.results141, go_sem, v0, v1, v2, v3, v4, v5, v6, v7, v8, v9, v10, v11, v12]) rfl ⟨⟨he, ⟨nm, k1, k2, e, [], k3⟩, _, _, _, _, _, _, rfl⟩, HF.out.ext.trans (ext_drew _ _)⟩
  have hi0 : (i : Int) < (n : Int) := by omega
  have hl4 : l.length ≤ 4 := by have : l.length = i := EL.out; omega
  have HB := Lib.hid (qBytes_c g 16 s7 J.rd)
  have EQ := Lib.hid (show qEffect s7 = qEff0 (rBytes 16 s7) from rfl)
  generalize rBytes 16 s7 = p4 at *
  obtain ⟨en, s8⟩ := p4
  replace HB := Lib.hid (show Calls Tryz.prog 82 #[.pointer (some ⟨g, 0, none⟩), .int .i64 16] wo (fun e w' => ∃ v, e = .returned v ∧ Own kU8 5 (fun k => ok k ∧ k < w.heap.size) w' wo.heap.size v en ∧ RdQ (fun k => ok k ∧ k < w.heap.size) g w' s8.1 s8.2 ∧ Ext (fun k => k ≠ g) wo w') from HB.out)
  go_wp2_with fail
  refine HB.out.mono ?_
  rintro x9 w8 ⟨v5, rfl, ho5, hr8, hx8⟩
  obtain ⟨Av, nv, cv, rfl, -⟩ := ho5.form'
  have CV := conv_vs (P := Tryz.prog) ((own_u8 (ok' := fun _ => True) ho5).sl fun _ _ => trivial) 29 9 5 Tryz.underlying29 Tryz.underlying5 Tryz.underlying9
  replace J := J.call hr8 hx8
  replace LF := loc_ext hx8 (by omega) LF
  replace LR := loc_ext hx8 (by omega) LR
  have HOV := Lib.hid (fun k hk => Nat.lt_of_lt_of_le (HO.lt k hk).2 hx8.size)
  replace HO := own_far HO (by omega) hx8
  replace hks := hks.ext (hx8.weak fun k _ hk => by have := hk.1; omega)
  replace hws := Nat.le_trans hws hx8.size
  clear ho5 hr8 hx8 HB
  go_upto_region 13 with (fail)
  clear CV
  have he4 := J.e
  by_cases he : s8.2 = 0
  rotate_left
  ·have he1 : (s8.2 != 0) = true := by simpa using he
   have E1 := Lib.hid (show r = .error s8.2 by rw [E.out, qE_stop (i := i + 1) (qE_bad HQ.out (by show qEffect s7 = _; rw [EQ.out]; unfold qEff0; rw [if_pos he])) n hin]; rfl)
   have hne := Lib.hid he
   clear he
   go_upto_region 14 with (fail)
   obtain ⟨m0, m1, m2, m3, m4, m5, m6, m7, m8, m9, m10, m11, m12⟩ := cells13 LF
   have hzm := lt_of_heap LF
   obtain ⟨q0, q1, q2, q3, q4, q5, q6, q7, q8, q9, q10, q11, q12, y0, y1, y2, y3, y4, y5, y6, y7, y8, y9, y10, y11, y12, hzq⟩ := op13 LR
   obtain ⟨LS1, XS1⟩ := st13 LR (.string ⟨nm.toArray⟩) (.int .i64 k1) (.int .i64 k2) (.int .i64 e.op) (.slice B1 e.kids.length d1) (.string ⟨e.name.toArray⟩) (.int .i64 e.val.kind) (.int .i64 e.val.int) (.bool e.val.bool) (.string ⟨e.val.text.toArray⟩) (.float .f64 e.val.num) (.slice Ak nk ck) (.int .i64 k3)
   have J5 := J.off XS1 (Nat.le_refl _) hgw
   have HF := Lib.hid J5
   obtain ⟨v0, v1, v2, v3, v4, v5, v6, v7, v8, v9, v10, v11, v12⟩ := cells13 LS1
   clear LS1 J5
   go_region
   all_goals
    go_wp21
    rw [E1.out]
    exact bodyPost_ret (v := .tuple #[.agg #[.string ⟨nm.toArray⟩, .int .i64 k1, .int .i64 k2, .int .i64 e.op, .slice B1 e.kids.length d1, .string ⟨e.name.toArray⟩, .int .i64 e.val.kind, .int .i64 e.val.int, .bool e.val.bool, .string ⟨e.val.text.toArray⟩, .float .f64 e.val.num, .slice Ak nk ck, .int .i64 k3], .int .i64 s8.2]) (by simp [results, Tryz.results141, go_sem, v0, v1, v2, v3, v4, v5, v6, v7, v8, v9, v10, v11, v12]) rfl ⟨⟨hne.out, ⟨nm, k1, k2, e, [], k3⟩, _, _, _, _, _, _, rfl⟩, HF.out.ext.trans (ext_drew _ _)⟩
  have he1 : (s8.2 != 0) = false := by simpa using he
  replace EQ := Lib.hid (show qEffect s7 = match gE s8 with | .error x => .error x | .ok p => .ok (⟨en, p.1⟩, p.2) by rw [EQ.out]; unfold qEff0; rw [if_neg (by simpa using he)]; rfl)
  clear he
  have C1 := Lib.hid (qeget_c g s8 J.rd)
  cases hx : gE s8 with
  | error x =>
   rw [hx] at C1 EQ
   have hx0 := Lib.hid (gE_err hx)
   have hx1 : (x != 0) = true := by simpa using gE_err hx
   have E1 := Lib.hid (show r = .error x by rw [E.out, qE_stop (i := i + 1) (qE_bad HQ.out (by show qEffect s7 = _; rw [EQ.out])) n hin]; rfl)
   clear hx
   go_wp2_with fail
   refine C1.out.mono ?_
   rintro x9 w3 ⟨hbd, hx3⟩
   have hbd : x9 = .returned (.tuple #[.agg #[.int .i64 0, .slice none 0 0, .string ⟨#[]⟩, .int .i64 0, .int .i64 0, .bool false, .string ⟨#[]⟩, .float .f64 0], .int .i64 x]) := hbd
   subst hbd
   have X3 := J.ext.trans hx3
   replace LF := loc_ext hx3 (by omega) LF
   replace LR := loc_ext hx3 (by omega) LR
   clear he4 C1 J hx3
   go_upto_region 16 with (fail)
   have BA : Below w3.heap.size w3 (w3.alloc (.cells #[.int .i64 0, .slice none 0 0, .string ⟨#[]⟩, .int .i64 0, .int .i64 0, .bool false, .string ⟨#[]⟩, .float .f64 0] 44)) := bW
   replace LF := LF.bel BA
   replace LR := LR.bel BA
   replace X3 := X3.trans (Below.ext BA _)
   clear BA
   generalize hw6 : (w3.alloc (.cells #[.int .i64 0, .slice none 0 0, .string ⟨#[]⟩, .int .i64 0, .int .i64 0, .bool false, .string ⟨#[]⟩, .float .f64 0] 44)) = w4 at *
   clear hw6
   obtain ⟨m0, m1, m2, m3, m4, m5, m6, m7, m8, m9, m10, m11, m12⟩ := cells13 LF
   have hzm := lt_of_heap LF
   obtain ⟨q0, q1, q2, q3, q4, q5, q6, q7, q8, q9, q10, q11, q12, y0, y1, y2, y3, y4, y5, y6, y7, y8, y9, y10, y11, y12, hzq⟩ := op13 LR
   obtain ⟨LS1, XS1⟩ := st13 LR (.string ⟨nm.toArray⟩) (.int .i64 k1) (.int .i64 k2) (.int .i64 e.op) (.slice B1 e.kids.length d1) (.string ⟨e.name.toArray⟩) (.int .i64 e.val.kind) (.int .i64 e.val.int) (.bool e.val.bool) (.string ⟨e.val.text.toArray⟩) (.float .f64 e.val.num) (.slice Ak nk ck) (.int .i64 k3)
   have HF := Lib.hid (ext_off X3 XS1 (Nat.le_refl _))
   obtain ⟨v0, v1, v2, v3, v4, v5, v6, v7, v8, v9, v10, v11, v12⟩ := cells13 LS1
   clear LS1 XS1 X3
   go_wp21
   rw [E1.out]
   exact bodyPost_ret (v := .tuple #[.agg #[.string ⟨nm.toArray⟩, .int .i64 k1, .int .i64 k2, .int .i64 e.op, .slice B1 e.kids.length d1, .string ⟨e.name.toArray⟩, .int .i64 e.val.kind, .int .i64 e.val.int, .bool e.val.bool, .string ⟨e.val.text.toArray⟩, .float .f64 e.val.num, .slice Ak nk ck, .int .i64 k3], .int .i64 x]) (by simp [results, Tryz.results141, go_sem, v0, v1, v2, v3, v4, v5, v6, v7, v8, v9, v10, v11, v12]) rfl ⟨⟨hx0.out, ⟨nm, k1, k2, e, [], k3⟩, _, _, _, _, _, _, rfl⟩, HF.out⟩
  | ok p =>
  rw [hx] at C1 EQ
  obtain ⟨ex, s9⟩ := p
  clear hx
  have HQ2 := Lib.hid (show qE qEffect s6 (i + 1) = .ok (l ++ [⟨en, ex⟩], s9) from qE_next HQ.out (q := (⟨en, ex⟩, s9)) (by show qEffect s7 = _; rw [EQ.out]))
  go_wp2_with fail
  refine C1.out.mono ?_
  rintro x9 w9 ⟨⟨cs, rfl, hR, hr9⟩, hx9⟩
  obtain ⟨k9, B9, d9, -, rfl, -⟩ := exp_open hR
  replace J := J.call hr9 hx9
  replace LF := loc_ext hx9 (by omega) LF
  replace LR := loc_ext hx9 (by omega) LR
  replace HO := own_far HO (by omega) hx9
  replace hks := hks.ext (hx9.weak fun k _ hk => by have := hk.1; omega)
  have hws9 := Nat.le_trans hws hx9.size
  clear hr9 hx9 C1 he4
  go_upto_region 18 with (fail)
  have BA : Below w9.heap.size w9 (w9.alloc (.cells #[.int .i64 ex.op, .slice B9 ex.kids.length d9, .string ⟨ex.name.toArray⟩, .int .i64 ex.val.kind, .int .i64 ex.val.int, .bool ex.val.bool, .string ⟨ex.val.text.toArray⟩, .float .f64 ex.val.num] 44)) := bW
  have LG := Loc1.new w9 44 #[.int .i64 ex.op, .slice B9 ex.kids.length d9, .string ⟨ex.name.toArray⟩, .int .i64 ex.val.kind, .int .i64 ex.val.int, .bool ex.val.bool, .string ⟨ex.val.text.toArray⟩, .float .f64 ex.val.num]
  replace LF := LF.bel BA
  replace LR := LR.bel BA
  replace J := J.below BA
  replace hks := hks.below BA
  replace HO := HO.below BA
  replace hR := Kd.below hR BA
  have hwsA := Nat.le_trans hws9 BA.size
  clear BA
  generalize hw6 : (w9.alloc (.cells #[.int .i64 ex.op, .slice B9 ex.kids.length d9, .string ⟨ex.name.toArray⟩, .int .i64 ex.val.kind, .int .i64 ex.val.int, .bool ex.val.bool, .string ⟨ex.val.text.toArray⟩, .float .f64 ex.val.num] 44)) = wk at *
  clear hw6
  obtain ⟨x0, x1, x2, x3, x4, x5, x6, x7⟩ := cells8 LG
  have hzx := lt_of_heap LG
  have m11 := cell_of LF 11
  have u11 := free_of LF 11
  have hze := lt_of_heap LF
  simp only [List.getElem?_toArray, List.getElem?_cons_zero, List.getElem?_cons_succ] at m11
  have HV := Lib.hid (show ∀ k, (Value.slice Ak nk ck).ownBlock = some k → k < w8.heap.size from fun k hk => HOV.out k hk)
  have AB := Lib.hid (append_fresh (P := Tryz.prog) (d := kEff 6) (e := 51) (t := 45) (tx := 45) (ty := 45) (w := wk) (base := B) (b0 := w8.heap.size) Tryz.underlying45 Tryz.underlying45 infoEffT (by rw [kEff_sz]; rfl) HO (by omega) (eff_mk (e := ⟨en, ex⟩) hR) (by omega) HV.out (by omega) (by omega))
  clear hR
  go_wp2_with (at_builtin; refine at_append rfl (.tmp 73) (.tmp 77) 45 45 rfl rfl rfl AB.out ?_; rintro v' w'' ⟨ho2, hg2⟩; obtain ⟨A9, n9, c9, rfl, hn9⟩ := ho2.form'; have hL9 := (show Loc1 fb 47 #[.string ⟨nm.toArray⟩, .int .i64 k1, .int .i64 k2, .int .i64 e.op, .slice B1 e.kids.length d1, .string ⟨e.name.toArray⟩, .int .i64 e.val.kind, .int .i64 e.val.int, .bool e.val.bool, .string ⟨e.val.text.toArray⟩, .float .f64 e.val.num, .slice Ak nk ck, .int .i64 k3] w'' from (hg2.block fb (lt_of_heap LF) (fun e => by have := (HO.lt fb e.symm).1; omega)).trans LF); have m1w := cell_of hL9 11; have u1w := free_of hL9 11; have HN9 := Lib.hid hn9; have HO3 := Lib.hid ho2; have HG2 := Lib.hid hg2; clear ho2 hg2 hn9)
  have XG : Ext (fun k => k < B) wk w'' := ⟨HG2.out.os, HG2.out.tape, HG2.out.output, HG2.out.size, fun k hk hkb => HG2.out.block k hk (fun e => by have := (HO.lt k e.symm).1; omega)⟩
  have XF : Ext (fun k => k ≠ fb) w'' (w''.setCell ⟨fb, 11, none⟩ (.slice A9 n9 c9)) := ext_set_ne (Ext.refl _ _) 11 _
  have JF := (J.grown XG (by omega) hgw).off XF (by omega) hgw
  have LEF : Loc1 fb 47 #[.string ⟨nm.toArray⟩, .int .i64 k1, .int .i64 k2, .int .i64 e.op, .slice B1 e.kids.length d1, .string ⟨e.name.toArray⟩, .int .i64 e.val.kind, .int .i64 e.val.int, .bool e.val.bool, .string ⟨e.val.text.toArray⟩, .float .f64 e.val.num, .slice A9 n9 c9, .int .i64 k3] (w''.setCell ⟨fb, 11, none⟩ (.slice A9 n9 c9)) := by have := heap_set hL9 11 (.slice A9 n9 c9); unfold Loc1; simpa using this
  have LRF := loc_ext XF (by omega) ((XG.block _ (lt_of_heap LR) (by omega)).trans LR)
  have OF := own_far HO3.out (show fb < B by omega) XF
  have KF := (hks.ext (XG.weak fun k _ hk => hk.2)).ext (XF.weak fun k _ hk => by have := hk.1; omega)
  have hwf : B ≤ (w''.setCell ⟨fb, 11, none⟩ (.slice A9 n9 c9)).heap.size := by
   rw [World.size_setCell]
   have h1 := XG.size
   omega
  go_roundw
  case rel => exact ⟨i + 1, l ++ [⟨en, ex⟩], s9, _, by omega, by go_num, HQ2.out, LEF, JF, LRF, OF, hwf, KF⟩
  case measure => simp [intOf]; omega
end
end Go.Proofs.YtjnhgfmjehaalaaGreat
