/- Package contract, walked: its source: moves. -/
import Derived.Test.YtjnhgfmjehaalaaGreatV10
namespace Go.Proofs.YtjnhgfmjehaalaaGreat
open Go.RowKit
set_option linter.unusedVariables false
set_option linter.unusedSimpArgs false
def cMov5 (n : List UInt8) (f t o : Int) (g : Exp) (l : List Eff × CS) : Mov × CS := (⟨n, f, t, g, l.1, o⟩, l.2)
def cMov4 (n : List UInt8) (f t o : Int) (g : Exp × CS) : Mov × CS := cMov5 n f t o g.1 (cMany 4 cEffect g.2)
def cMov3 (n : List UInt8) (f t : Int) (o : Int × CS) : Mov × CS := cMov4 n f t o.1 (cExp o.2)
def cMov2 (n : List UInt8) (f : Int) (t : Int × CS) : Mov × CS := cMov3 n f t.1 (cNum t.2)
def cMov1 (n : List UInt8) (f : Int × CS) : Mov × CS := cMov2 n f.1 (cNum f.2)
def cMov0 (a : List UInt8 × CS) : Mov × CS := cMov1 a.1 (cNum a.2)
def cMove (S : CS) : Mov × CS := cMov0 (cText 16 S)
section
variable {ok : Nat → Prop} {w W W' : World} {b g : Nat} {S S' : CS}
set_option maxRecDepth 20000 in
set_option maxHeartbeats 8000000 in
theorem cmove_c (J : CJ ok b g S w) : Calls Tryz.prog 80 #[.pointer (some ⟨b, 0, none⟩)] w (RetEl (kMov 6) ok b g w (cMove S)) := by
 have SF := store_f64
 have hmf : ∀ (fn : Fn) (first cap : Array Value) (w : World), (Instr.makeFunc fn first cap).run Tryz.prog w = .ok (.func fn first cap) w := fun _ _ _ _ => rfl
 have J0 := (J.bound).below (show Below w.heap.size w (w.alloc (.cells #[.string ⟨#[]⟩, .int .i64 0, .int .i64 0, .int .i64 0, .slice none 0 0, .string ⟨#[]⟩, .int .i64 0, .int .i64 0, .bool false, .string ⟨#[]⟩, .float .f64 0, .slice none 0 0, .int .i64 0] 47)) from bW)
 have hbw := J.blt
 have hgw := J.glt
 have hfar := J.far
 have LR0 := Loc1.new w 47 #[.string ⟨#[]⟩, .int .i64 0, .int .i64 0, .int .i64 0, .slice none 0 0, .string ⟨#[]⟩, .int .i64 0, .int .i64 0, .bool false, .string ⟨#[]⟩, .float .f64 0, .slice none 0 0, .int .i64 0]
 have hT0 : Ext (fun k => k ≠ g ∧ k ≠ b) w (w.alloc (.cells #[.string ⟨#[]⟩, .int .i64 0, .int .i64 0, .int .i64 0, .slice none 0 0, .string ⟨#[]⟩, .int .i64 0, .int .i64 0, .bool false, .string ⟨#[]⟩, .float .f64 0, .slice none 0 0, .int .i64 0] 47)) := ext_alloc _ _ _
 have hz0 : w.heap.size + 1 ≤ (w.alloc (.cells #[.string ⟨#[]⟩, .int .i64 0, .int .i64 0, .int .i64 0, .slice none 0 0, .string ⟨#[]⟩, .int .i64 0, .int .i64 0, .bool false, .string ⟨#[]⟩, .float .f64 0, .slice none 0 0, .int .i64 0] 47)).heap.size := by simp
 have E := Lib.hid (show cMove S = cMov0 (cText 16 S) from rfl)
 generalize cMove S = r at *
 clear J
 go_enter Tryz.func80, Tryz.ntmps80
 go_upto_region 1 with (fail)
 generalize (w.alloc (.cells #[.string ⟨#[]⟩, .int .i64 0, .int .i64 0, .int .i64 0, .slice none 0 0, .string ⟨#[]⟩, .int .i64 0, .int .i64 0, .bool false, .string ⟨#[]⟩, .float .f64 0, .slice none 0 0, .int .i64 0] 47)) = w0 at *
 have HG := Lib.hid (cname_c J0)
 generalize cText 16 S = p1 at *
 obtain ⟨a, S1⟩ := p1
 replace E := Lib.hid (show r = cMov1 a (cNum S1) from E.out)
 go_wp2_with fail
 refine HG.out.mono ?_
 rintro x9 w1 ⟨rfl, J1, hx1⟩
 have LR1 : Loc1 w.heap.size 47 #[.string ⟨#[]⟩, .int .i64 0, .int .i64 0, .int .i64 0, .slice none 0 0, .string ⟨#[]⟩, .int .i64 0, .int .i64 0, .bool false, .string ⟨#[]⟩, .float .f64 0, .slice none 0 0, .int .i64 0] w1 := (hx1.block _ (lt_of_heap LR0) ⟨by omega, by omega⟩).trans LR0
 have hT1 := hT0.trans hx1
 have hz1 := hx1.size
 clear HG LR0 hT0 J0
 have HG := Lib.hid (cnum_c J1)
 generalize cNum S1 = p2 at *
 obtain ⟨f, S2⟩ := p2
 replace E := Lib.hid (show r = cMov2 a f (cNum S2) from E.out)
 go_wp2_with fail
 refine HG.out.mono ?_
 rintro x9 w2 ⟨rfl, J2, hx2⟩
 have LR2 : Loc1 w.heap.size 47 #[.string ⟨#[]⟩, .int .i64 0, .int .i64 0, .int .i64 0, .slice none 0 0, .string ⟨#[]⟩, .int .i64 0, .int .i64 0, .bool false, .string ⟨#[]⟩, .float .f64 0, .slice none 0 0, .int .i64 0] w2 := (hx2.block _ (lt_of_heap LR1) ⟨by omega, by omega⟩).trans LR1
 have hT2 := hT1.trans hx2
 have hz2 := hx2.size
 clear HG LR1 hT1 J1
 have HG := Lib.hid (cnum_c J2)
 generalize cNum S2 = p3 at *
 obtain ⟨t, S3⟩ := p3
 replace E := Lib.hid (show r = cMov3 a f t (cNum S3) from E.out)
 go_wp2_with fail
 refine HG.out.mono ?_
 rintro x9 w3 ⟨rfl, J3, hx3⟩
 have LR3 : Loc1 w.heap.size 47 #[.string ⟨#[]⟩, .int .i64 0, .int .i64 0, .int .i64 0, .slice none 0 0, .string ⟨#[]⟩, .int .i64 0, .int .i64 0, .bool false, .string ⟨#[]⟩, .float .f64 0, .slice none 0 0, .int .i64 0] w3 := (hx3.block _ (lt_of_heap LR2) ⟨by omega, by omega⟩).trans LR2
 have hT3 := hT2.trans hx3
 have hz3 := hx3.size
 clear HG LR2 hT2 J2
 have HG := Lib.hid (cnum_c J3)
 generalize cNum S3 = p4 at *
 obtain ⟨o, S4⟩ := p4
 replace E := Lib.hid (show r = cMov4 a f t o (cExp S4) from E.out)
 go_wp2_with fail
 refine HG.out.mono ?_
 rintro x9 w4 ⟨rfl, J4, hx4⟩
 have LR4 : Loc1 w.heap.size 47 #[.string ⟨#[]⟩, .int .i64 0, .int .i64 0, .int .i64 0, .slice none 0 0, .string ⟨#[]⟩, .int .i64 0, .int .i64 0, .bool false, .string ⟨#[]⟩, .float .f64 0, .slice none 0 0, .int .i64 0] w4 := (hx4.block _ (lt_of_heap LR3) ⟨by omega, by omega⟩).trans LR3
 have hT4 := hT3.trans hx4
 have hz4 := hx4.size
 clear HG LR3 hT3 J3
 have HG := Lib.hid (cexp_c J4)
 generalize cExp S4 = p5 at *
 obtain ⟨e, S5⟩ := p5
 replace E := Lib.hid (show r = cMov5 a f t o e (cMany 4 cEffect S5) from E.out)
 go_wp2_with fail
 refine HG.out.mono ?_
 rintro x9 w5 ⟨⟨cs, rfl, hR⟩, J5, hx5⟩
 have LR5 : Loc1 w.heap.size 47 #[.string ⟨#[]⟩, .int .i64 0, .int .i64 0, .int .i64 0, .slice none 0 0, .string ⟨#[]⟩, .int .i64 0, .int .i64 0, .bool false, .string ⟨#[]⟩, .float .f64 0, .slice none 0 0, .int .i64 0] w5 := (hx5.block _ (lt_of_heap LR4) ⟨by omega, by omega⟩).trans LR4
 have hT5 := hT4.trans hx5
 have hz5 := hx5.size
 obtain ⟨k5, B, c, hk5, rfl, hs⟩ := exp_open hR
 have HE := Lib.hid (hs.weak (ok' := fun k => w.heap.size + 1 ≤ k) fun k hk => by have hk' : w4.heap.size ≤ k := hk; omega)
 obtain rfl : k5 = 5 := by omega
 clear hs hR hk5
 clear HG LR4 hT4 J4
 have HG := Lib.hid (manyE_c 4 (by decide) J5)
 generalize cMany 4 cEffect S5 = p6 at *
 obtain ⟨l, S6⟩ := p6
 replace E := Lib.hid (show r = (⟨a, f, t, e, l, o⟩, S6) from E.out)
 go_wp2_with fail
 refine HG.out.mono ?_
 rintro x9 w6 ⟨v9, rfl, ho6, J6, hx6⟩
 have LR6 : Loc1 w.heap.size 47 #[.string ⟨#[]⟩, .int .i64 0, .int .i64 0, .int .i64 0, .slice none 0 0, .string ⟨#[]⟩, .int .i64 0, .int .i64 0, .bool false, .string ⟨#[]⟩, .float .f64 0, .slice none 0 0, .int .i64 0] w6 := (hx6.block _ (lt_of_heap LR5) ⟨by omega, by omega⟩).trans LR5
 have hT6 := hT5.trans hx6
 have hz6 := hx6.size
 replace HE := Lib.hid (HE.out.ext (hx6.weak fun k _ hk => by have hk' : w.heap.size + 1 ≤ k := hk; exact ⟨by omega, by omega⟩))
 obtain ⟨Al, nl, cl, rfl, -⟩ := ho6.form'
 have HL := Lib.hid ((ho6.sl (ok := fun k => w5.heap.size ≤ k) fun k hk => hk).weak (ok' := fun k => w.heap.size + 1 ≤ k) fun k hk => by have hk' : w5.heap.size ≤ k := hk; omega)
 clear ho6
 clear HG LR5 hT5 J5
 obtain ⟨m0, m1, m2, m3, m4, m5, m6, m7, m8, m9, m10, m11, m12⟩ := cells13 LR6
 have u0 := free_of LR6 0
 have u1 := free_of LR6 1
 have u2 := free_of LR6 2
 have u3 := free_of LR6 3
 have u4 := free_of LR6 4
 have u5 := free_of LR6 5
 have u6 := free_of LR6 6
 have u7 := free_of LR6 7
 have u8 := free_of LR6 8
 have u9 := free_of LR6 9
 have u10 := free_of LR6 10
 have u11 := free_of LR6 11
 have u12 := free_of LR6 12
 have hzr := lt_of_heap LR6
 go_wp21
 have XS : Ext (fun k => k ≠ w.heap.size) w6 (((((((((((((w6.setCell ⟨w.heap.size, 0, none⟩ (.string ⟨a.toArray⟩)).setCell ⟨w.heap.size, 1, none⟩ (.int .i64 f)).setCell ⟨w.heap.size, 2, none⟩ (.int .i64 t)).setCell ⟨w.heap.size, 3, none⟩ (.int .i64 e.op)).setCell ⟨w.heap.size, 4, none⟩ (.slice B e.kids.length c)).setCell ⟨w.heap.size, 5, none⟩ (.string ⟨e.name.toArray⟩)).setCell ⟨w.heap.size, 6, none⟩ (.int .i64 e.val.kind)).setCell ⟨w.heap.size, 7, none⟩ (.int .i64 e.val.int)).setCell ⟨w.heap.size, 8, none⟩ (.bool e.val.bool)).setCell ⟨w.heap.size, 9, none⟩ (.string ⟨e.val.text.toArray⟩)).setCell ⟨w.heap.size, 10, none⟩ (.float .f64 e.val.num)).setCell ⟨w.heap.size, 11, none⟩ (.slice Al nl cl)).setCell ⟨w.heap.size, 12, none⟩ (.int .i64 o)) := (ext_set_ne (ext_set_ne (ext_set_ne (ext_set_ne (ext_set_ne (ext_set_ne (ext_set_ne (ext_set_ne (ext_set_ne (ext_set_ne (ext_set_ne (ext_set_ne (ext_set_ne (Ext.refl _ _) 0 _) 1 _) 2 _) 3 _) 4 _) 5 _) 6 _) 7 _) 8 _) 9 _) 10 _) 11 _) 12 _)
 have LF : Loc1 w.heap.size 47 #[.string ⟨a.toArray⟩, .int .i64 f, .int .i64 t, .int .i64 e.op, .slice B e.kids.length c, .string ⟨e.name.toArray⟩, .int .i64 e.val.kind, .int .i64 e.val.int, .bool e.val.bool, .string ⟨e.val.text.toArray⟩, .float .f64 e.val.num, .slice Al nl cl, .int .i64 o] (((((((((((((w6.setCell ⟨w.heap.size, 0, none⟩ (.string ⟨a.toArray⟩)).setCell ⟨w.heap.size, 1, none⟩ (.int .i64 f)).setCell ⟨w.heap.size, 2, none⟩ (.int .i64 t)).setCell ⟨w.heap.size, 3, none⟩ (.int .i64 e.op)).setCell ⟨w.heap.size, 4, none⟩ (.slice B e.kids.length c)).setCell ⟨w.heap.size, 5, none⟩ (.string ⟨e.name.toArray⟩)).setCell ⟨w.heap.size, 6, none⟩ (.int .i64 e.val.kind)).setCell ⟨w.heap.size, 7, none⟩ (.int .i64 e.val.int)).setCell ⟨w.heap.size, 8, none⟩ (.bool e.val.bool)).setCell ⟨w.heap.size, 9, none⟩ (.string ⟨e.val.text.toArray⟩)).setCell ⟨w.heap.size, 10, none⟩ (.float .f64 e.val.num)).setCell ⟨w.heap.size, 11, none⟩ (.slice Al nl cl)).setCell ⟨w.heap.size, 12, none⟩ (.int .i64 o)) := by
  have := (heap_set (heap_set (heap_set (heap_set (heap_set (heap_set (heap_set (heap_set (heap_set (heap_set (heap_set (heap_set (heap_set LR6 0 (.string ⟨a.toArray⟩)) 1 (.int .i64 f)) 2 (.int .i64 t)) 3 (.int .i64 e.op)) 4 (.slice B e.kids.length c)) 5 (.string ⟨e.name.toArray⟩)) 6 (.int .i64 e.val.kind)) 7 (.int .i64 e.val.int)) 8 (.bool e.val.bool)) 9 (.string ⟨e.val.text.toArray⟩)) 10 (.float .f64 e.val.num)) 11 (.slice Al nl cl)) 12 (.int .i64 o))
  unfold Loc1
  simpa using this
 have JF := J6.off XS (by omega) (fun k hk => by have := hk.2; omega) (by omega)
 have hTF := ext_off2 hT6 XS (by omega)
 have HEF := (HE.out.ext (XS.weak fun k _ hk => by have hk' : w.heap.size + 1 ≤ k := hk; omega)).weak (ok' := fun k => w.heap.size ≤ k) fun k hk => by have hk' : w.heap.size + 1 ≤ k := hk; omega
 have HLF := (HL.out.ext (XS.weak fun k _ hk => by have hk' : w.heap.size + 1 ≤ k := hk; omega)).weak (ok' := fun k => w.heap.size ≤ k) fun k hk => by have hk' : w.heap.size + 1 ≤ k := hk; omega
 obtain ⟨q0, q1, q2, q3, q4, q5, q6, q7, q8, q9, q10, q11, q12⟩ := cells13 LF
 rw [E.out]
 exact bodyPost_ret (v := .agg #[.string ⟨a.toArray⟩, .int .i64 f, .int .i64 t, .int .i64 e.op, .slice B e.kids.length c, .string ⟨e.name.toArray⟩, .int .i64 e.val.kind, .int .i64 e.val.int, .bool e.val.bool, .string ⟨e.val.text.toArray⟩, .float .f64 e.val.num, .slice Al nl cl, .int .i64 o]) (by simp [results, Tryz.results80, go_sem, q0, q1, q2, q3, q4, q5, q6, q7, q8, q9, q10, q11, q12]) rfl ⟨⟨_, rfl, mov_mk (m := ⟨a, f, t, e, l, o⟩) HEF HLF⟩, JF.weak (fun k hk => hk.1) hfar, hTF⟩
theorem infoMovT : (Tryz.prog.info? 47).map (fun i => (i.zero, i.size, i.bytes)) = some (some (.agg #[.string ⟨#[]⟩, .int .i64 0, .int .i64 0, .int .i64 0, .slice none 0 0, .string ⟨#[]⟩, .int .i64 0, .int .i64 0, .bool false, .string ⟨#[]⟩, .float .f64 0, .slice none 0 0, .int .i64 0]), (kMov 6).sz, 160) := by rw [kMov_sz]; kernel_rfl
set_option maxRecDepth 20000 in
set_option maxHeartbeats 8000000 in
theorem manyM_c (m : Int) (hm : m ≤ 8) (J0 : CJ ok b g S w) : Calls Tryz.prog 79 #[.pointer (some ⟨b, 0, none⟩), .int .i64 m, .func (.func 80) #[.pointer (some ⟨b, 0, none⟩)] #[]] w (RetMany (kMov 6) 47 ok b g w (cMany m cMove S)) := by
 have SF := store_f64
 have hbw := J0.blt
 have hgw := J0.glt
 have hfar := J0.far
 have J := J0.bound
 clear J0
 generalize hr : cMany m cMove S = r at *
 have j0 := cell_of J.src 0
 have j1 := cell_of J.src 1
 simp only [List.getElem?_toArray, List.getElem?_cons_zero, List.getElem?_cons_succ] at j0 j1
 go_enter Tryz.func79, Tryz.ntmps79
 go_upto_if 13 with (fail)
 go_cut [7] from 8 (fun s7 W => RelM ok b g w r cMove s7 W)
 case first =>
  by_cases he : S.2 = 0
  rotate_left
  ·have he1 : (S.2 == 0) = false := by simpa using he
   have E1 := Lib.hid (show r = cN cMove S 0 by rw [← hr]; unfold cMany; rw [if_pos he]; rfl)
   clear he hr
   go_wp2_with fail
   first | apply_assumption | (try simp only [Exit.then]; apply_assumption; apply_assumption)
   (repeat apply Exists.intro)
   refine ⟨?_, rfl⟩
   exact ⟨0, S, rfl, by omega, E1.out, J, Ext.refl _ _⟩
  ·have he1 : (S.2 == 0) = true := by simpa using he
   have E1 := Lib.hid (show r = cN cMove ((rCount m S.1).2, (rCount m S.1).2.2) (rCount m S.1).1 by rw [← hr]; unfold cMany; rw [if_neg (by simpa using he)])
   have HC := Lib.hid (count_c g m S.1 (J.rd he))
   have hn8 : (rCount m S.1).1 ≤ 8 := rCount_le8 S.1 hm
   have hlt := rCount_lt m S.1
   generalize rCount m S.1 = p at *
   have hh := Lib.hid he
   clear he hr
   go_wp2_with fail
   refine HC.out.mono ?_
   rintro x9 w1 ⟨rfl, hr1, hx1⟩
   have J1 := J.call hr1 hx1 hh.out
   have k0 := cell_of J1.src 0
   simp only [List.getElem?_toArray, List.getElem?_cons_zero] at k0
   go_wp2_with fail
   refine (err_c g _ hr1).mono ?_
   rintro x9 w9 ⟨rfl, rfl⟩
   go_wp2_with fail
   refine (keep_c p.2.2 J1 rfl p.2 fun _ => hr1).mono ?_
   rintro x9 w2 ⟨rfl, J2, hx2⟩
   have HX := (hx1.weak (ok' := fun k => k ≠ g ∧ k ≠ b) fun k _ hk => hk.1).trans hx2
   clear k0
   go_wp2_with fail
   first | apply_assumption | (try simp only [Exit.then]; apply_assumption; apply_assumption)
   (repeat apply Exists.intro)
   refine ⟨?_, rfl⟩
   exact ⟨p.1, _, rfl, hn8, E1.out, J2, HX⟩
 case rest =>
 obtain ⟨n, S0, rfl, hn8, hE, J1, hx1⟩ := hcut
 obtain ⟨w1, hwx⟩ : ∃ x, x = wc := ⟨_, rfl⟩
 subst hwx
 have E := Lib.hid hE
 clear hE hr J j0 j1
 have hs1 := hx1.size
 go_wp2_with fail
 go_loopw [8, 6] (fun v8 v6 wz => RelL (kMov 6) 47 ok b g w cMove S0 n v8 v6 wz) (fun v8 _ _ => n - (intOf v8).toNat)
 case atStart => exact ⟨0, Nat.zero_le _, rfl, Own.nil _ _ _ _ _, J1, hx1⟩
 case round =>
  obtain ⟨wo, hwx⟩ : ∃ x, x = wr := ⟨_, rfl⟩
  subst hwx
  clear J1 hx1
  obtain ⟨i, hi, rfl, ho, J, hx⟩ := hrel
  have hsz := hx.size
  have EI := Lib.hid (cN_next cMove S0 i).2
  have E0 := Lib.hid (fun (h : i = n) => show r = cN cMove S0 i by rw [E.out, h])
  have EL := Lib.hid (cN_len cMove S0 i)
  have ES := Lib.hid (fun (h : ¬ (cN cMove S0 i).2.2 = 0) => show r = cN cMove S0 i from E.out.trans (cN_stop cMove S0 i h n hi))
  generalize cN cMove S0 i = q at *
  obtain ⟨l, Si⟩ := q
  have HO := Lib.hid (show Own (kMov 6) 47 (fun k => w.heap.size ≤ k) wo w.heap.size _ l from ho)
  obtain ⟨Ak, nk, ck, rfl, hnk⟩ := ho.form'
  clear ho hnk
  have j0 := cell_of J.src 0
  have j1 := cell_of J.src 1
  simp only [List.getElem?_toArray, List.getElem?_cons_zero, List.getElem?_cons_succ] at j0 j1
  by_cases hin : i < n
  rotate_left
  ·have hi2 : i = n := by omega
   have E1 := Lib.hid (show r = (l, Si) from E0.out hi2)
   have hin1 : ¬ (i : Int) < (n : Int) := by omega
   clear hi2 hin
   go_wp2_with fail
   go_ret
   rw [E1.out]
   exact ⟨_, rfl, HO.out, J.weak (fun k hk => hk.1) hfar, hx⟩
  by_cases hes : Si.2 = 0
  rotate_left
  ·have he1 : (Si.2 == 0) = false := by simpa using hes
   have E1 := Lib.hid (show r = (l, Si) from ES.out hes)
   have hin1 : (i : Int) < (n : Int) := by omega
   clear hes hin
   go_wp2_with fail
   go_ret
   rw [E1.out]
   exact ⟨_, rfl, HO.out, J.weak (fun k hk => hk.1) hfar, hx⟩
  have he1 : (Si.2 == 0) = true := by simpa using hes
  have hin1 : (i : Int) < (n : Int) := by omega
  have EN := Lib.hid (EI.out hes)
  have HG := Lib.hid (cmove_c J)
  clear hes
  go_wp2_with fail
  refine HG.out.mono ?_
  rintro x9 w2 ⟨⟨cs, rfl, hR⟩, J2, hx2⟩; have hRK := Lib.hid hR; obtain ⟨k1, B1, c1, D1, d1, -, rfl, -⟩ := mov_open hR; clear hR
  have hs2 := hx2.size
  have AB := Lib.hid (append_fresh (P := Tryz.prog) (d := (kMov 6)) (e := 47) (t := 24) (tx := 24) (ty := 24) (w := w2) (base := w.heap.size) (b0 := wo.heap.size) Tryz.underlying24 Tryz.underlying24 infoMovT (by rw [kMov_sz]; rfl) (HO.out.ext (hx2.weak fun k _ hk => by
   rcases hk with hk | hk
   ·have hk' : w.heap.size ≤ k := hk
    exact ⟨by omega, by omega⟩
   ·have hk' := (HO.out.lt k hk.symm).1
    exact ⟨by omega, by omega⟩)) (by omega) (c := _) hRK.out hsz (fun k hk => (HO.out.lt k hk).2) (by have : l.length ≤ i := EL.out; omega) (by have : l.length ≤ i := EL.out; omega))
  go_wp2_with (at_builtin; refine at_append rfl (.tmp 39) (.tmp 42) 24 24 rfl rfl rfl AB.out ?_; rintro v' w'' ⟨ho2, hg2⟩; have HO2 := Lib.hid ho2; have HG2 := Lib.hid hg2; clear ho2 hg2)
  have XG : Ext (fun k => k < w.heap.size) w2 w'' := ⟨HG2.out.os, HG2.out.tape, HG2.out.output, HG2.out.size, fun k hk hkb => HG2.out.block k hk (fun e => by have := (HO.out.lt k e.symm).1; omega)⟩
  have JF := J2.grown XG hbw hgw (fun k hk => hk.2)
  have HXF : Ext (fun k => k ≠ g ∧ k ≠ b) w w'' := ⟨XG.os.trans (hx.trans hx2).os, XG.tape.trans (hx.trans hx2).tape, XG.output.trans (hx.trans hx2).output, Nat.le_trans (hx.trans hx2).size XG.size, fun k hk ho => (XG.block k (Nat.lt_of_lt_of_le hk (hx.trans hx2).size) hk).trans ((hx.trans hx2).block k hk ho)⟩
  go_roundw
  case rel => exact ⟨i + 1, by omega, by go_num, EN.out ▸ HO2.out, EN.out ▸ JF, HXF⟩
  case measure => simp [intOf]; omega
end
end Go.Proofs.YtjnhgfmjehaalaaGreat
