/- Package contract, walked: Get. -/
import Derived.Test.YtjnhgfmjehaalaaGreatV11
import Derived.Test.YtjnhgfmjehaalaaGreatMF
namespace Go.Proofs.YtjnhgfmjehaalaaGreat
open Go.RowKit
set_option linter.unusedVariables false
set_option linter.unusedSimpArgs false
def cCon3 (n : List UInt8) (f : List Fld) (t : List Stg) (m : List Mov × CS) : Con × CS := (⟨n, f, t, m.1⟩, m.2)
def cCon2 (n : List UInt8) (f : List Fld) (t : List Stg × CS) : Con × CS := cCon3 n f t.1 (cMany 8 cMove t.2)
def cCon1 (n : List UInt8) (f : List Fld × CS) : Con × CS := cCon2 n f.1 (cMany 6 cStage f.2)
def cCon0 (a : List UInt8 × CS) : Con × CS := cCon1 a.1 (cMany 6 cField a.2)
def cCon (S : CS) : Con × CS := cCon0 (cText 16 S)
def gCon (r : Con × CS) : Except Int (Con × RS) := if r.2.2 ≠ 0 then .error r.2.2 else if chkC r.1 6 ≠ 0 then .error 12 else .ok (r.1, r.2.1)
def gC (s : RS) : Except Int (Con × RS) := gCon (cCon (s, 0))
section
variable {ok : Nat → Prop} {w W W' : World} {b g : Nat} {S S' : CS}
theorem ext_src {b : Nat} (h : Ext (fun k => k ≠ g ∧ k ≠ b) w W) (hb : w.heap.size ≤ b) : Ext (fun k => k ≠ g) w W := h.weak fun k hk ho => ⟨ho, by omega⟩
def RetGC (ok : Nat → Prop) (g : Nat) (w : World) (r : Except Int (Con × RS)) (e : Ending) (w' : World) : Prop :=
 (match r with
   | .ok p => ∃ cs : List Value, e = .returned (.tuple #[.agg cs.toArray, .int .i64 0]) ∧ (kCon 6).R (fun k => w.heap.size ≤ k) w' cs p.1 ∧ Rd ok g w' p.2.1 p.2.2
   | .error x => e = .returned (.tuple #[.agg #[.string ⟨#[]⟩, .slice none 0 0, .slice none 0 0, .slice none 0 0], .int .i64 x])) ∧ Ext (fun k => k ≠ g) w w'
set_option maxRecDepth 20000 in
set_option maxHeartbeats 8000000 in
theorem cget_c (g : Nat) (s : RS) (h : Rd ok g w s.1 s.2) : Calls Tryz.prog 18 #[.pointer (some ⟨g, 0, none⟩)] w (RetGC ok g w (gC s)) := by
 have SF := store_f64
 have hmf : ∀ (fn : Fn) (first cap : Array Value) (w : World), (Instr.makeFunc fn first cap).run Tryz.prog w = .ok (.func fn first cap) w := fun _ _ _ _ => rfl
 have hgw := h.lt
 have J0 : CJ (fun k => ok k ∧ k < w.heap.size) (w.heap.size + 1) g (s, 0) ((w.alloc (.cells #[.string ⟨#[]⟩, .slice none 0 0, .slice none 0 0, .slice none 0 0] 26)).alloc (.cells #[.pointer (some ⟨g, 0, none⟩), .int .i64 0] 114)) := ⟨fun _ => h.bound.below (show Below w.heap.size w ((w.alloc (.cells #[.string ⟨#[]⟩, .slice none 0 0, .slice none 0 0, .slice none 0 0] 26)).alloc (.cells #[.pointer (some ⟨g, 0, none⟩), .int .i64 0] 114)) from bW), (by (focus (repeat (first | with_reducible assumption | (refine Loc1.newE _ _ _ ?_; simp; done) | with_reducible refine Loc1.al _ ?_ | with_reducible refine Loc1.dr ?_ | with_reducible refine Loc1.bel (by assumption) ?_)))), by omega, fun k hk => by have := hk.2; omega, by simp; omega⟩
 have LR0 : Loc1 w.heap.size 26 #[.string ⟨#[]⟩, .slice none 0 0, .slice none 0 0, .slice none 0 0] ((w.alloc (.cells #[.string ⟨#[]⟩, .slice none 0 0, .slice none 0 0, .slice none 0 0] 26)).alloc (.cells #[.pointer (some ⟨g, 0, none⟩), .int .i64 0] 114)) := by (focus (repeat (first | with_reducible assumption | (refine Loc1.newE _ _ _ ?_; simp; done) | with_reducible refine Loc1.al _ ?_ | with_reducible refine Loc1.dr ?_ | with_reducible refine Loc1.bel (by assumption) ?_)))
 have hT0 : Ext (fun k => k ≠ g ∧ k ≠ w.heap.size + 1) w ((w.alloc (.cells #[.string ⟨#[]⟩, .slice none 0 0, .slice none 0 0, .slice none 0 0] 26)).alloc (.cells #[.pointer (some ⟨g, 0, none⟩), .int .i64 0] 114)) := Below.ext (show Below w.heap.size w ((w.alloc (.cells #[.string ⟨#[]⟩, .slice none 0 0, .slice none 0 0, .slice none 0 0] 26)).alloc (.cells #[.pointer (some ⟨g, 0, none⟩), .int .i64 0] 114)) from bW) _
 have hz0 : w.heap.size + 2 ≤ ((w.alloc (.cells #[.string ⟨#[]⟩, .slice none 0 0, .slice none 0 0, .slice none 0 0] 26)).alloc (.cells #[.pointer (some ⟨g, 0, none⟩), .int .i64 0] 114)).heap.size := by simp
 have EC := Lib.hid (show gC s = gCon (cCon0 (cText 16 (s, 0))) from rfl)
 generalize gC s = r0 at *
 have E := Lib.hid (show cCon0 (cText 16 (s, 0)) = cCon0 (cText 16 (s, 0)) from rfl)
 generalize hrr : cCon0 (cText 16 (s, 0)) = r at EC
 replace E := Lib.hid (show r = cCon0 (cText 16 (s, 0)) from hrr.symm)
 clear h hrr
 go_enter Tryz.func18, Tryz.ntmps18
 go_upto_region 2 with (fail)
 generalize ((w.alloc (.cells #[.string ⟨#[]⟩, .slice none 0 0, .slice none 0 0, .slice none 0 0] 26)).alloc (.cells #[.pointer (some ⟨g, 0, none⟩), .int .i64 0] 114)) = w0 at *
 have HG := Lib.hid (cname_c J0)
 generalize cText 16 (s, 0) = p1 at *
 obtain ⟨a, S1⟩ := p1
 replace E := Lib.hid (show r = cCon1 a (cMany 6 cField S1) from E.out)
 go_wp2_with fail
 refine HG.out.mono ?_
 rintro x9 w1 ⟨rfl, J1, hx1⟩
 have LR1 : Loc1 w.heap.size 26 #[.string ⟨#[]⟩, .slice none 0 0, .slice none 0 0, .slice none 0 0] w1 := (hx1.block _ (lt_of_heap LR0) ⟨by omega, by omega⟩).trans LR0
 have hT1 := hT0.trans hx1
 have hz1 := hx1.size
 clear HG LR0 hT0 J0
 have HG := Lib.hid (manyF_c 6 (by decide) J1)
 generalize cMany 6 cField S1 = p2 at *
 obtain ⟨f, S2⟩ := p2
 replace E := Lib.hid (show r = cCon2 a f (cMany 6 cStage S2) from E.out)
 go_wp2_with fail
 refine HG.out.mono ?_
 rintro x9 w2 ⟨v9, rfl, ho2, J2, hx2⟩
 have LR2 : Loc1 w.heap.size 26 #[.string ⟨#[]⟩, .slice none 0 0, .slice none 0 0, .slice none 0 0] w2 := (hx2.block _ (lt_of_heap LR1) ⟨by omega, by omega⟩).trans LR1
 have hT2 := hT1.trans hx2
 have hz2 := hx2.size
 obtain ⟨A1, n1, c1, rfl, -⟩ := ho2.form'
 have HF := Lib.hid ((ho2.sl (ok := fun k => w1.heap.size ≤ k) fun k hk => hk).weak (ok' := fun k => w.heap.size + 2 ≤ k) fun k hk => by have hk' : w1.heap.size ≤ k := hk; omega)
 have nHF := Lib.hid HF.out.len.1
 clear ho2
 clear HG LR1 hT1 J1
 have HG := Lib.hid (manyT_c 6 (by decide) J2)
 generalize cMany 6 cStage S2 = p3 at *
 obtain ⟨t, S3⟩ := p3
 replace E := Lib.hid (show r = cCon3 a f t (cMany 8 cMove S3) from E.out)
 go_wp2_with fail
 refine HG.out.mono ?_
 rintro x9 w3 ⟨v9, rfl, ho3, J3, hx3⟩
 have LR3 : Loc1 w.heap.size 26 #[.string ⟨#[]⟩, .slice none 0 0, .slice none 0 0, .slice none 0 0] w3 := (hx3.block _ (lt_of_heap LR2) ⟨by omega, by omega⟩).trans LR2
 have hT3 := hT2.trans hx3
 have hz3 := hx3.size
 replace HF := Lib.hid (HF.out.ext (hx3.weak fun k _ hk => by have hk' : w.heap.size + 2 ≤ k := hk; exact ⟨by omega, by omega⟩))
 obtain ⟨A2, n2, c2, rfl, -⟩ := ho3.form'
 have HS := Lib.hid ((ho3.sl (ok := fun k => w2.heap.size ≤ k) fun k hk => hk).weak (ok' := fun k => w.heap.size + 2 ≤ k) fun k hk => by have hk' : w2.heap.size ≤ k := hk; omega)
 have nHS := Lib.hid HS.out.len.1
 clear ho3
 clear HG LR2 hT2 J2
 have HG := Lib.hid (manyM_c 8 (by decide) J3)
 generalize cMany 8 cMove S3 = p4 at *
 obtain ⟨m, S4⟩ := p4
 replace E := Lib.hid (show r = (⟨a, f, t, m⟩, S4) from E.out)
 go_wp2_with fail
 refine HG.out.mono ?_
 rintro x9 w4 ⟨v9, rfl, ho4, J4, hx4⟩
 have LR4 : Loc1 w.heap.size 26 #[.string ⟨#[]⟩, .slice none 0 0, .slice none 0 0, .slice none 0 0] w4 := (hx4.block _ (lt_of_heap LR3) ⟨by omega, by omega⟩).trans LR3
 have hT4 := hT3.trans hx4
 have hz4 := hx4.size
 replace HF := Lib.hid (HF.out.ext (hx4.weak fun k _ hk => by have hk' : w.heap.size + 2 ≤ k := hk; exact ⟨by omega, by omega⟩))
 replace HS := Lib.hid (HS.out.ext (hx4.weak fun k _ hk => by have hk' : w.heap.size + 2 ≤ k := hk; exact ⟨by omega, by omega⟩))
 obtain ⟨A3, n3, c3, rfl, -⟩ := ho4.form'
 have HM := Lib.hid ((ho4.sl (ok := fun k => w3.heap.size ≤ k) fun k hk => hk).weak (ok' := fun k => w.heap.size + 2 ≤ k) fun k hk => by have hk' : w3.heap.size ≤ k := hk; omega)
 have nHM := Lib.hid HM.out.len.1
 clear ho4
 clear HG LR3 hT3 J3
 have nHF' := nHF.out
 have nHS' := nHS.out
 have nHM' := nHM.out
 subst nHF' nHS' nHM'
 replace EC := Lib.hid (show r0 = gCon (⟨a, f, t, m⟩, S4) by rw [EC.out, E.out])
 clear E nHF nHS nHM
 go_upto_region 3 with (fail)
 have hb5 : Below w4.heap.size w4 (w4.alloc (.cells #[.string ⟨a.toArray⟩, .slice A1 f.length c1, .slice A2 t.length c2, .slice A3 m.length c3] 26)) := bW
 have LC := Loc1.new w4 26 #[.string ⟨a.toArray⟩, .slice A1 f.length c1, .slice A2 t.length c2, .slice A3 m.length c3]
 have J5 := J4.below hb5
 have LR5 := LR4.below hb5
 have hT5 := hT4.trans (Below.ext hb5 (fun k => k ≠ g ∧ k ≠ w.heap.size + 1))
 replace HF := Lib.hid (HF.out.below hb5)
 replace HS := Lib.hid (HS.out.below hb5)
 replace HM := Lib.hid (HM.out.below hb5)
 have hw4 : w.heap.size + 1 < w4.heap.size := by omega
 generalize (w4.alloc (.cells #[.string ⟨a.toArray⟩, .slice A1 f.length c1, .slice A2 t.length c2, .slice A3 m.length c3] 26)) = w5 at *
 generalize w4.heap.size = cb at *
 clear J4 LR4 hT4 hb5
 have j0 := cell_of J5.src 0
 have j1 := cell_of J5.src 1
 have f1 := free_of J5.src 1
 simp only [List.getElem?_toArray, List.getElem?_cons_zero, List.getElem?_cons_succ] at j0 j1
 by_cases he : S4.2 = 0
 rotate_left
 ·have he1 : (S4.2 == 0) = false := by simpa using he
  have he2 : (S4.2 != 0) = true := by simpa using he
  have EE := Lib.hid (show r0 = .error S4.2 by rw [EC.out]; unfold gCon; rw [if_pos he])
  clear he
  obtain ⟨m0, m1, m2, m3⟩ := cells4 LR5
  have u0 := free_of LR5 0
  have u1 := free_of LR5 1
  have u2 := free_of LR5 2
  have u3 := free_of LR5 3
  have hzr := lt_of_heap LR5
  go_upto_region 6 with (fail)
  go_region
  all_goals
   go_wp21
   have XS : Ext (fun k => k ≠ w.heap.size) w5 ((((w5.setCell ⟨w.heap.size, 0, none⟩ (.string ⟨#[]⟩)).setCell ⟨w.heap.size, 1, none⟩ (.slice none 0 0)).setCell ⟨w.heap.size, 2, none⟩ (.slice none 0 0)).setCell ⟨w.heap.size, 3, none⟩ (.slice none 0 0)) := (ext_set_ne (ext_set_ne (ext_set_ne (ext_set_ne (Ext.refl _ _) 0 _) 1 _) 2 _) 3 _)
   have LF : Loc1 w.heap.size 26 #[.string ⟨#[]⟩, .slice none 0 0, .slice none 0 0, .slice none 0 0] ((((w5.setCell ⟨w.heap.size, 0, none⟩ (.string ⟨#[]⟩)).setCell ⟨w.heap.size, 1, none⟩ (.slice none 0 0)).setCell ⟨w.heap.size, 2, none⟩ (.slice none 0 0)).setCell ⟨w.heap.size, 3, none⟩ (.slice none 0 0)) := by
    have := (heap_set (heap_set (heap_set (heap_set LR5 0 (.string ⟨#[]⟩)) 1 (.slice none 0 0)) 2 (.slice none 0 0)) 3 (.slice none 0 0))
    unfold Loc1
    simpa using this
   obtain ⟨q0, q1, q2, q3⟩ := cells4 LF
   have XF := ext_src (ext_off2 hT5 XS (Nat.le_refl _)) (show w.heap.size ≤ w.heap.size + 1 by omega)
   rw [EE.out]
   exact bodyPost_ret (v := .tuple #[.agg #[.string ⟨#[]⟩, .slice none 0 0, .slice none 0 0, .slice none 0 0], .int .i64 S4.2]) (by simp [results, Tryz.results18, go_sem, q0, q1, q2, q3]) rfl ⟨rfl, XF.trans (ext_drew _ _)⟩
 have HC := Lib.hid (checkC_c (c := ⟨a, f, t, m⟩) (n := 6) (HF.out.weak (ok' := fun _ => True) fun _ _ => trivial) (HS.out.weak (ok' := fun _ => True) fun _ _ => trivial) (HM.out.weak (ok' := fun _ => True) fun _ _ => trivial))
 have he1 : (S4.2 == 0) = true := by simpa using he
 have he2 : (S4.2 != 0) = false := by simpa using he
 replace EC := Lib.hid (show r0 = if chkC ⟨a, f, t, m⟩ 6 ≠ 0 then .error 12 else .ok (⟨a, f, t, m⟩, S4.1) by rw [EC.out]; unfold gCon; rw [if_neg (by simpa using he)])
 have hh := Lib.hid he
 clear he
 obtain ⟨q0, q1, q2, q3⟩ := cells4 LC
 have hzc := lt_of_heap LC
 generalize chkC ⟨a, f, t, m⟩ 6 = k at *
 go_wp2_with fail
 refine HC.out.mono ?_
 rintro x9 w6 ⟨rfl, hb6⟩
 have J6 := J5.below hb6
 have LR6 := LR5.below hb6
 have LC6 := LC.below hb6
 have hT6 := hT5.trans (Below.ext hb6 (fun k => k ≠ g ∧ k ≠ w.heap.size + 1))
 replace HF := Lib.hid (HF.out.below hb6)
 replace HS := Lib.hid (HS.out.below hb6)
 replace HM := Lib.hid (HM.out.below hb6)
 clear J5 LR5 LC hT5 HC q0 q1 q2 q3 hzc j0 j1 f1
 have j0 := cell_of J6.src 0
 have j1 := cell_of J6.src 1
 have f1 := free_of J6.src 1
 simp only [List.getElem?_toArray, List.getElem?_cons_zero, List.getElem?_cons_succ] at j0 j1
 by_cases hk : k = 0
 rotate_left
 ·have hk1 : (k != 0) = true := by simpa using hk
  have EE := Lib.hid (show r0 = .error 12 by rw [EC.out, if_pos hk])
  clear hk
  go_upto_region 5 with (fail)
  have XB : Ext (fun k => k ≠ w.heap.size + 1) w6 (w6.setCell ⟨w.heap.size + 1, 1, none⟩ (.int .i64 12)) := ext_set_ne (Ext.refl _ _) 1 _
  have S7 : Loc1 (w.heap.size + 1) 114 #[.pointer (some ⟨g, 0, none⟩), .int .i64 12] (w6.setCell ⟨w.heap.size + 1, 1, none⟩ (.int .i64 12)) := by have := heap_set J6.src 1 (.int .i64 12); unfold Loc1; simpa using this
  have LR7 : Loc1 w.heap.size 26 #[.string ⟨#[]⟩, .slice none 0 0, .slice none 0 0, .slice none 0 0] (w6.setCell ⟨w.heap.size + 1, 1, none⟩ (.int .i64 12)) := LR6.st (by omega)
  have hT7 := ext_off2 hT6 XB (by omega)
  clear j0 j1 f1 XB
  generalize (w6.setCell ⟨w.heap.size + 1, 1, none⟩ (.int .i64 12)) = w7 at *
  have j0 := cell_of S7 0
  have j1 := cell_of S7 1
  simp only [List.getElem?_toArray, List.getElem?_cons_zero, List.getElem?_cons_succ] at j0 j1
  obtain ⟨m0, m1, m2, m3⟩ := cells4 LR7
  have u0 := free_of LR7 0
  have u1 := free_of LR7 1
  have u2 := free_of LR7 2
  have u3 := free_of LR7 3
  have hzr := lt_of_heap LR7
  go_upto_region 6 with (fail)
  go_region
  all_goals
   go_wp21
   have XS : Ext (fun k => k ≠ w.heap.size) w7 ((((w7.setCell ⟨w.heap.size, 0, none⟩ (.string ⟨#[]⟩)).setCell ⟨w.heap.size, 1, none⟩ (.slice none 0 0)).setCell ⟨w.heap.size, 2, none⟩ (.slice none 0 0)).setCell ⟨w.heap.size, 3, none⟩ (.slice none 0 0)) := (ext_set_ne (ext_set_ne (ext_set_ne (ext_set_ne (Ext.refl _ _) 0 _) 1 _) 2 _) 3 _)
   have LF : Loc1 w.heap.size 26 #[.string ⟨#[]⟩, .slice none 0 0, .slice none 0 0, .slice none 0 0] ((((w7.setCell ⟨w.heap.size, 0, none⟩ (.string ⟨#[]⟩)).setCell ⟨w.heap.size, 1, none⟩ (.slice none 0 0)).setCell ⟨w.heap.size, 2, none⟩ (.slice none 0 0)).setCell ⟨w.heap.size, 3, none⟩ (.slice none 0 0)) := by
    have := (heap_set (heap_set (heap_set (heap_set LR7 0 (.string ⟨#[]⟩)) 1 (.slice none 0 0)) 2 (.slice none 0 0)) 3 (.slice none 0 0))
    unfold Loc1
    simpa using this
   obtain ⟨q0, q1, q2, q3⟩ := cells4 LF
   have XF := ext_src (ext_off2 hT7 XS (Nat.le_refl _)) (show w.heap.size ≤ w.heap.size + 1 by omega)
   rw [EE.out]
   exact bodyPost_ret (v := .tuple #[.agg #[.string ⟨#[]⟩, .slice none 0 0, .slice none 0 0, .slice none 0 0], .int .i64 12]) (by simp [results, Tryz.results18, go_sem, q0, q1, q2, q3]) rfl ⟨rfl, XF.trans (ext_drew _ _)⟩
 have hk1 : (k != 0) = false := by simpa using hk
 have EE := Lib.hid (show r0 = .ok (⟨a, f, t, m⟩, S4.1) by rw [EC.out, if_neg (by simpa using hk)])
 clear hk
 obtain ⟨q0, q1, q2, q3⟩ := cells4 LC6
 have hzc := lt_of_heap LC6
 obtain ⟨m0, m1, m2, m3⟩ := cells4 LR6
 have u0 := free_of LR6 0
 have u1 := free_of LR6 1
 have u2 := free_of LR6 2
 have u3 := free_of LR6 3
 have hzr := lt_of_heap LR6
 go_wp21
 have XS : Ext (fun k => k ≠ w.heap.size) w6 ((((w6.setCell ⟨w.heap.size, 0, none⟩ (.string ⟨a.toArray⟩)).setCell ⟨w.heap.size, 1, none⟩ (.slice A1 f.length c1)).setCell ⟨w.heap.size, 2, none⟩ (.slice A2 t.length c2)).setCell ⟨w.heap.size, 3, none⟩ (.slice A3 m.length c3)) := (ext_set_ne (ext_set_ne (ext_set_ne (ext_set_ne (Ext.refl _ _) 0 _) 1 _) 2 _) 3 _)
 have LF : Loc1 w.heap.size 26 #[.string ⟨a.toArray⟩, .slice A1 f.length c1, .slice A2 t.length c2, .slice A3 m.length c3] ((((w6.setCell ⟨w.heap.size, 0, none⟩ (.string ⟨a.toArray⟩)).setCell ⟨w.heap.size, 1, none⟩ (.slice A1 f.length c1)).setCell ⟨w.heap.size, 2, none⟩ (.slice A2 t.length c2)).setCell ⟨w.heap.size, 3, none⟩ (.slice A3 m.length c3)) := by
  have := (heap_set (heap_set (heap_set (heap_set LR6 0 (.string ⟨a.toArray⟩)) 1 (.slice A1 f.length c1)) 2 (.slice A2 t.length c2)) 3 (.slice A3 m.length c3))
  unfold Loc1
  simpa using this
 have R8 := rd_off (J6.rd hh.out) XS ⟨by omega, fun k hk => by have := hk.2; omega⟩
 have XF := ext_src (ext_off2 hT6 XS (Nat.le_refl _)) (show w.heap.size ≤ w.heap.size + 1 by omega)
 have F8 := (HF.out.ext (XS.weak fun k _ hk => by have hk' : w.heap.size + 2 ≤ k := hk; omega)).weak (ok' := fun k => w.heap.size ≤ k) fun k hk => by have hk' : w.heap.size + 2 ≤ k := hk; omega
 have T8 := (HS.out.ext (XS.weak fun k _ hk => by have hk' : w.heap.size + 2 ≤ k := hk; omega)).weak (ok' := fun k => w.heap.size ≤ k) fun k hk => by have hk' : w.heap.size + 2 ≤ k := hk; omega
 have M8 := (HM.out.ext (XS.weak fun k _ hk => by have hk' : w.heap.size + 2 ≤ k := hk; omega)).weak (ok' := fun k => w.heap.size ≤ k) fun k hk => by have hk' : w.heap.size + 2 ≤ k := hk; omega
 clear q0 q1 q2 q3
 obtain ⟨q0, q1, q2, q3⟩ := cells4 LF
 rw [EE.out]
 exact bodyPost_ret (v := .tuple #[.agg #[.string ⟨a.toArray⟩, .slice A1 f.length c1, .slice A2 t.length c2, .slice A3 m.length c3], .int .i64 0]) (by simp [results, Tryz.results18, go_sem, q0, q1, q2, q3]) rfl ⟨⟨_, rfl, con_mk (c := ⟨a, f, t, m⟩) F8 T8 M8, R8.weak fun k hk => hk.1⟩, XF⟩
end
end Go.Proofs.YtjnhgfmjehaalaaGreat
