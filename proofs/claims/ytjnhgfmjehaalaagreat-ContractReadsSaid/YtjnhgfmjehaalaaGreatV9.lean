/- Package contract, walked: its source: fields, stages, effects. -/
import Derived.Test.YtjnhgfmjehaalaaGreatV8
namespace Go.Proofs.YtjnhgfmjehaalaaGreat
open Go.RowKit
set_option linter.unusedVariables false
set_option linter.unusedSimpArgs false
def cFld3 (n : List UInt8) (k : Int) (l : List (List UInt8)) (v : Val × CS) : Fld × CS := (⟨n, k, l, v.1⟩, v.2)
def cFld2 (n : List UInt8) (k : Int) (l : List (List UInt8) × CS) : Fld × CS := cFld3 n k l.1 (cVal l.2)
def cFld1 (n : List UInt8) (k : Int × CS) : Fld × CS := cFld2 n k.1 (cMany 4 (cText 32) k.2)
def cFld0 (a : List UInt8 × CS) : Fld × CS := cFld1 a.1 (cNum a.2)
def cField (S : CS) : Fld × CS := cFld0 (cText 16 S)
def cStg2 (n : List UInt8) (k : Int) (l : List Int × CS) : Stg × CS := (⟨n, k, l.1⟩, l.2)
def cStg1 (n : List UInt8) (k : Int × CS) : Stg × CS := cStg2 n k.1 (cMany 4 cNum k.2)
def cStg0 (a : List UInt8 × CS) : Stg × CS := cStg1 a.1 (cNum a.2)
def cStage (S : CS) : Stg × CS := cStg0 (cText 16 S)
def cEff1 (n : List UInt8) (x : Exp × CS) : Eff × CS := (⟨n, x.1⟩, x.2)
def cEff0 (a : List UInt8 × CS) : Eff × CS := cEff1 a.1 (cExp a.2)
def cEffect (S : CS) : Eff × CS := cEff0 (cText 16 S)
section
variable {ok : Nat → Prop} {w W W' : World} {b g : Nat} {S S' : CS}
def RetEl {α : Type} (d : Kd α) (ok : Nat → Prop) (b g : Nat) (w : World) (r : α × CS) (e : Ending) (w' : World) : Prop :=
 (∃ cs : List Value, e = .returned (.agg cs.toArray) ∧ d.R (fun k => w.heap.size ≤ k) w' cs r.1) ∧ CJ ok b g r.2 w' ∧ Ext (fun k => k ≠ g ∧ k ≠ b) w w'
set_option maxRecDepth 20000 in
set_option maxHeartbeats 8000000 in
theorem cfield_c (J : CJ ok b g S w) : Calls Tryz.prog 76 #[.pointer (some ⟨b, 0, none⟩)] w (RetEl kFld ok b g w (cField S)) := by
 have SF := store_f64
 have hmf : ∀ (fn : Fn) (first cap : Array Value) (w : World), (Instr.makeFunc fn first cap).run Tryz.prog w = .ok (.func fn first cap) w := fun _ _ _ _ => rfl
 have J0 := (J.bound).below (show Below w.heap.size w (w.alloc (.cells #[.string ⟨#[]⟩, .int .i64 0, .slice none 0 0, .int .i64 0, .int .i64 0, .bool false, .string ⟨#[]⟩, .float .f64 0] 41)) from bW)
 have hbw := J.blt
 have hgw := J.glt
 have hfar := J.far
 have LR0 := Loc1.new w 41 #[.string ⟨#[]⟩, .int .i64 0, .slice none 0 0, .int .i64 0, .int .i64 0, .bool false, .string ⟨#[]⟩, .float .f64 0]
 have hT0 : Ext (fun k => k ≠ g ∧ k ≠ b) w (w.alloc (.cells #[.string ⟨#[]⟩, .int .i64 0, .slice none 0 0, .int .i64 0, .int .i64 0, .bool false, .string ⟨#[]⟩, .float .f64 0] 41)) := ext_alloc _ _ _
 have hz0 : w.heap.size + 1 ≤ (w.alloc (.cells #[.string ⟨#[]⟩, .int .i64 0, .slice none 0 0, .int .i64 0, .int .i64 0, .bool false, .string ⟨#[]⟩, .float .f64 0] 41)).heap.size := by simp
 have E := Lib.hid (show cField S = cFld0 (cText 16 S) from rfl)
 generalize cField S = r at *
 clear J
 go_enter Tryz.func76, Tryz.ntmps76
 go_upto_region 1 with (fail)
 generalize (w.alloc (.cells #[.string ⟨#[]⟩, .int .i64 0, .slice none 0 0, .int .i64 0, .int .i64 0, .bool false, .string ⟨#[]⟩, .float .f64 0] 41)) = w0 at *
 have HG := Lib.hid (cname_c J0)
 generalize cText 16 S = p1 at *
 obtain ⟨a, S1⟩ := p1
 replace E := Lib.hid (show r = cFld1 a (cNum S1) from E.out)
 go_wp2_with fail
 refine HG.out.mono ?_
 rintro x9 w1 ⟨rfl, J1, hx1⟩
 have LR1 : Loc1 w.heap.size 41 #[.string ⟨#[]⟩, .int .i64 0, .slice none 0 0, .int .i64 0, .int .i64 0, .bool false, .string ⟨#[]⟩, .float .f64 0] w1 := (hx1.block _ (lt_of_heap LR0) ⟨by omega, by omega⟩).trans LR0
 have hT1 := hT0.trans hx1
 have hz1 := hx1.size
 clear HG LR0 hT0 J0
 have HG := Lib.hid (cnum_c J1)
 generalize cNum S1 = p2 at *
 obtain ⟨k, S2⟩ := p2
 replace E := Lib.hid (show r = cFld2 a k (cMany 4 (cText 32) S2) from E.out)
 go_wp2_with fail
 refine HG.out.mono ?_
 rintro x9 w2 ⟨rfl, J2, hx2⟩
 have LR2 : Loc1 w.heap.size 41 #[.string ⟨#[]⟩, .int .i64 0, .slice none 0 0, .int .i64 0, .int .i64 0, .bool false, .string ⟨#[]⟩, .float .f64 0] w2 := (hx2.block _ (lt_of_heap LR1) ⟨by omega, by omega⟩).trans LR1
 have hT2 := hT1.trans hx2
 have hz2 := hx2.size
 clear HG LR1 hT1 J1
 have HG := Lib.hid (manyS_c 4 (by decide) J2)
 generalize cMany 4 (cText 32) S2 = p3 at *
 obtain ⟨l, S3⟩ := p3
 replace E := Lib.hid (show r = cFld3 a k l (cVal S3) from E.out)
 go_wp2_with fail
 refine HG.out.mono ?_
 rintro x9 w3 ⟨v9, rfl, ho3, J3, hx3⟩
 have LR3 : Loc1 w.heap.size 41 #[.string ⟨#[]⟩, .int .i64 0, .slice none 0 0, .int .i64 0, .int .i64 0, .bool false, .string ⟨#[]⟩, .float .f64 0] w3 := (hx3.block _ (lt_of_heap LR2) ⟨by omega, by omega⟩).trans LR2
 have hT3 := hT2.trans hx3
 have hz3 := hx3.size
 obtain ⟨Al, nl, cl, rfl, -⟩ := ho3.form'
 have HL := Lib.hid ((ho3.sl (ok := fun k => w2.heap.size ≤ k) fun k hk => hk).weak (ok' := fun k => w.heap.size + 1 ≤ k) fun k hk => by have hk' : w2.heap.size ≤ k := hk; omega)
 clear ho3
 clear HG LR2 hT2 J2
 have HG := Lib.hid (cval_c J3)
 generalize cVal S3 = p4 at *
 obtain ⟨v, S4⟩ := p4
 replace E := Lib.hid (show r = (⟨a, k, l, v⟩, S4) from E.out)
 go_wp2_with fail
 refine HG.out.mono ?_
 rintro x9 w4 ⟨rfl, J4, hx4⟩
 have LR4 : Loc1 w.heap.size 41 #[.string ⟨#[]⟩, .int .i64 0, .slice none 0 0, .int .i64 0, .int .i64 0, .bool false, .string ⟨#[]⟩, .float .f64 0] w4 := (hx4.block _ (lt_of_heap LR3) ⟨by omega, by omega⟩).trans LR3
 have hT4 := hT3.trans hx4
 have hz4 := hx4.size
 replace HL := Lib.hid (HL.out.ext (hx4.weak fun k _ hk => by have hk' : w.heap.size + 1 ≤ k := hk; exact ⟨by omega, by omega⟩))
 clear HG LR3 hT3 J3
 obtain ⟨m0, m1, m2, m3, m4, m5, m6, m7⟩ := cells8 LR4
 have u0 := free_of LR4 0
 have u1 := free_of LR4 1
 have u2 := free_of LR4 2
 have u3 := free_of LR4 3
 have u4 := free_of LR4 4
 have u5 := free_of LR4 5
 have u6 := free_of LR4 6
 have u7 := free_of LR4 7
 have hzr := lt_of_heap LR4
 go_wp21
 have XS : Ext (fun k => k ≠ w.heap.size) w4 ((((((((w4.setCell ⟨w.heap.size, 0, none⟩ (.string ⟨a.toArray⟩)).setCell ⟨w.heap.size, 1, none⟩ (.int .i64 k)).setCell ⟨w.heap.size, 2, none⟩ (.slice Al nl cl)).setCell ⟨w.heap.size, 3, none⟩ (.int .i64 v.kind)).setCell ⟨w.heap.size, 4, none⟩ (.int .i64 v.int)).setCell ⟨w.heap.size, 5, none⟩ (.bool v.bool)).setCell ⟨w.heap.size, 6, none⟩ (.string ⟨v.text.toArray⟩)).setCell ⟨w.heap.size, 7, none⟩ (.float .f64 v.num)) := (ext_set_ne (ext_set_ne (ext_set_ne (ext_set_ne (ext_set_ne (ext_set_ne (ext_set_ne (ext_set_ne (Ext.refl _ _) 0 _) 1 _) 2 _) 3 _) 4 _) 5 _) 6 _) 7 _)
 have LF : Loc1 w.heap.size 41 #[.string ⟨a.toArray⟩, .int .i64 k, .slice Al nl cl, .int .i64 v.kind, .int .i64 v.int, .bool v.bool, .string ⟨v.text.toArray⟩, .float .f64 v.num] ((((((((w4.setCell ⟨w.heap.size, 0, none⟩ (.string ⟨a.toArray⟩)).setCell ⟨w.heap.size, 1, none⟩ (.int .i64 k)).setCell ⟨w.heap.size, 2, none⟩ (.slice Al nl cl)).setCell ⟨w.heap.size, 3, none⟩ (.int .i64 v.kind)).setCell ⟨w.heap.size, 4, none⟩ (.int .i64 v.int)).setCell ⟨w.heap.size, 5, none⟩ (.bool v.bool)).setCell ⟨w.heap.size, 6, none⟩ (.string ⟨v.text.toArray⟩)).setCell ⟨w.heap.size, 7, none⟩ (.float .f64 v.num)) := by
  have := (heap_set (heap_set (heap_set (heap_set (heap_set (heap_set (heap_set (heap_set LR4 0 (.string ⟨a.toArray⟩)) 1 (.int .i64 k)) 2 (.slice Al nl cl)) 3 (.int .i64 v.kind)) 4 (.int .i64 v.int)) 5 (.bool v.bool)) 6 (.string ⟨v.text.toArray⟩)) 7 (.float .f64 v.num))
  unfold Loc1
  simpa using this
 have JF := J4.off XS (by omega) (fun k hk => by have := hk.2; omega) (by omega)
 have hTF := ext_off2 hT4 XS (by omega)
 have HLF := (HL.out.ext (XS.weak fun k _ hk => by have hk' : w.heap.size + 1 ≤ k := hk; omega)).weak (ok' := fun k => w.heap.size ≤ k) fun k hk => by have hk' : w.heap.size + 1 ≤ k := hk; omega
 obtain ⟨q0, q1, q2, q3, q4, q5, q6, q7⟩ := cells8 LF
 rw [E.out]
 exact bodyPost_ret (v := .agg #[.string ⟨a.toArray⟩, .int .i64 k, .slice Al nl cl, .int .i64 v.kind, .int .i64 v.int, .bool v.bool, .string ⟨v.text.toArray⟩, .float .f64 v.num]) (by simp [results, Tryz.results76, go_sem, q0, q1, q2, q3, q4, q5, q6, q7]) rfl ⟨⟨_, rfl, fld_mk (f := ⟨a, k, l, v⟩) HLF⟩, JF.weak (fun k hk => hk.1) hfar, hTF⟩
set_option maxRecDepth 20000 in
set_option maxHeartbeats 8000000 in
theorem cstage_c (J : CJ ok b g S w) : Calls Tryz.prog 78 #[.pointer (some ⟨b, 0, none⟩)] w (RetEl kStg ok b g w (cStage S)) := by
 have SF := store_f64
 have hmf : ∀ (fn : Fn) (first cap : Array Value) (w : World), (Instr.makeFunc fn first cap).run Tryz.prog w = .ok (.func fn first cap) w := fun _ _ _ _ => rfl
 have J0 := (J.bound).below (show Below w.heap.size w (w.alloc (.cells #[.string ⟨#[]⟩, .int .i64 0, .slice none 0 0] 68)) from bW)
 have hbw := J.blt
 have hgw := J.glt
 have hfar := J.far
 have LR0 := Loc1.new w 68 #[.string ⟨#[]⟩, .int .i64 0, .slice none 0 0]
 have hT0 : Ext (fun k => k ≠ g ∧ k ≠ b) w (w.alloc (.cells #[.string ⟨#[]⟩, .int .i64 0, .slice none 0 0] 68)) := ext_alloc _ _ _
 have hz0 : w.heap.size + 1 ≤ (w.alloc (.cells #[.string ⟨#[]⟩, .int .i64 0, .slice none 0 0] 68)).heap.size := by simp
 have E := Lib.hid (show cStage S = cStg0 (cText 16 S) from rfl)
 generalize cStage S = r at *
 clear J
 go_enter Tryz.func78, Tryz.ntmps78
 go_upto_region 1 with (fail)
 generalize (w.alloc (.cells #[.string ⟨#[]⟩, .int .i64 0, .slice none 0 0] 68)) = w0 at *
 have HG := Lib.hid (cname_c J0)
 generalize cText 16 S = p1 at *
 obtain ⟨a, S1⟩ := p1
 replace E := Lib.hid (show r = cStg1 a (cNum S1) from E.out)
 go_wp2_with fail
 refine HG.out.mono ?_
 rintro x9 w1 ⟨rfl, J1, hx1⟩
 have LR1 : Loc1 w.heap.size 68 #[.string ⟨#[]⟩, .int .i64 0, .slice none 0 0] w1 := (hx1.block _ (lt_of_heap LR0) ⟨by omega, by omega⟩).trans LR0
 have hT1 := hT0.trans hx1
 have hz1 := hx1.size
 clear HG LR0 hT0 J0
 have HG := Lib.hid (cnum_c J1)
 generalize cNum S1 = p2 at *
 obtain ⟨k, S2⟩ := p2
 replace E := Lib.hid (show r = cStg2 a k (cMany 4 cNum S2) from E.out)
 go_wp2_with fail
 refine HG.out.mono ?_
 rintro x9 w2 ⟨rfl, J2, hx2⟩
 have LR2 : Loc1 w.heap.size 68 #[.string ⟨#[]⟩, .int .i64 0, .slice none 0 0] w2 := (hx2.block _ (lt_of_heap LR1) ⟨by omega, by omega⟩).trans LR1
 have hT2 := hT1.trans hx2
 have hz2 := hx2.size
 clear HG LR1 hT1 J1
 have HG := Lib.hid (manyI_c 4 (by decide) J2)
 generalize cMany 4 cNum S2 = p3 at *
 obtain ⟨l, S3⟩ := p3
 replace E := Lib.hid (show r = (⟨a, k, l⟩, S3) from E.out)
 go_wp2_with fail
 refine HG.out.mono ?_
 rintro x9 w3 ⟨v9, rfl, ho3, J3, hx3⟩
 have LR3 : Loc1 w.heap.size 68 #[.string ⟨#[]⟩, .int .i64 0, .slice none 0 0] w3 := (hx3.block _ (lt_of_heap LR2) ⟨by omega, by omega⟩).trans LR2
 have hT3 := hT2.trans hx3
 have hz3 := hx3.size
 obtain ⟨Al, nl, cl, rfl, -⟩ := ho3.form'
 have HL := Lib.hid ((ho3.sl (ok := fun k => w2.heap.size ≤ k) fun k hk => hk).weak (ok' := fun k => w.heap.size + 1 ≤ k) fun k hk => by have hk' : w2.heap.size ≤ k := hk; omega)
 clear ho3
 clear HG LR2 hT2 J2
 obtain ⟨m0, m1, m2⟩ := cells3 LR3
 have u0 := free_of LR3 0
 have u1 := free_of LR3 1
 have u2 := free_of LR3 2
 have hzr := lt_of_heap LR3
 go_wp21
 have XS : Ext (fun k => k ≠ w.heap.size) w3 (((w3.setCell ⟨w.heap.size, 0, none⟩ (.string ⟨a.toArray⟩)).setCell ⟨w.heap.size, 1, none⟩ (.int .i64 k)).setCell ⟨w.heap.size, 2, none⟩ (.slice Al nl cl)) := (ext_set_ne (ext_set_ne (ext_set_ne (Ext.refl _ _) 0 _) 1 _) 2 _)
 have LF : Loc1 w.heap.size 68 #[.string ⟨a.toArray⟩, .int .i64 k, .slice Al nl cl] (((w3.setCell ⟨w.heap.size, 0, none⟩ (.string ⟨a.toArray⟩)).setCell ⟨w.heap.size, 1, none⟩ (.int .i64 k)).setCell ⟨w.heap.size, 2, none⟩ (.slice Al nl cl)) := by
  have := (heap_set (heap_set (heap_set LR3 0 (.string ⟨a.toArray⟩)) 1 (.int .i64 k)) 2 (.slice Al nl cl))
  unfold Loc1
  simpa using this
 have JF := J3.off XS (by omega) (fun k hk => by have := hk.2; omega) (by omega)
 have hTF := ext_off2 hT3 XS (by omega)
 have HLF := (HL.out.ext (XS.weak fun k _ hk => by have hk' : w.heap.size + 1 ≤ k := hk; omega)).weak (ok' := fun k => w.heap.size ≤ k) fun k hk => by have hk' : w.heap.size + 1 ≤ k := hk; omega
 obtain ⟨q0, q1, q2⟩ := cells3 LF
 rw [E.out]
 exact bodyPost_ret (v := .agg #[.string ⟨a.toArray⟩, .int .i64 k, .slice Al nl cl]) (by simp [results, Tryz.results78, go_sem, q0, q1, q2]) rfl ⟨⟨_, rfl, stg_mk (s := ⟨a, k, l⟩) HLF⟩, JF.weak (fun k hk => hk.1) hfar, hTF⟩
set_option maxRecDepth 20000 in
set_option maxHeartbeats 8000000 in
theorem ceffect_c (J : CJ ok b g S w) : Calls Tryz.prog 137 #[.pointer (some ⟨b, 0, none⟩)] w (RetEl (kEff 6) ok b g w (cEffect S)) := by
 have SF := store_f64
 have hmf : ∀ (fn : Fn) (first cap : Array Value) (w : World), (Instr.makeFunc fn first cap).run Tryz.prog w = .ok (.func fn first cap) w := fun _ _ _ _ => rfl
 have J0 := (J.bound).below (show Below w.heap.size w (w.alloc (.cells #[.string ⟨#[]⟩, .int .i64 0, .slice none 0 0, .string ⟨#[]⟩, .int .i64 0, .int .i64 0, .bool false, .string ⟨#[]⟩, .float .f64 0] 51)) from bW)
 have hbw := J.blt
 have hgw := J.glt
 have hfar := J.far
 have LR0 := Loc1.new w 51 #[.string ⟨#[]⟩, .int .i64 0, .slice none 0 0, .string ⟨#[]⟩, .int .i64 0, .int .i64 0, .bool false, .string ⟨#[]⟩, .float .f64 0]
 have hT0 : Ext (fun k => k ≠ g ∧ k ≠ b) w (w.alloc (.cells #[.string ⟨#[]⟩, .int .i64 0, .slice none 0 0, .string ⟨#[]⟩, .int .i64 0, .int .i64 0, .bool false, .string ⟨#[]⟩, .float .f64 0] 51)) := ext_alloc _ _ _
 have hz0 : w.heap.size + 1 ≤ (w.alloc (.cells #[.string ⟨#[]⟩, .int .i64 0, .slice none 0 0, .string ⟨#[]⟩, .int .i64 0, .int .i64 0, .bool false, .string ⟨#[]⟩, .float .f64 0] 51)).heap.size := by simp
 have E := Lib.hid (show cEffect S = cEff0 (cText 16 S) from rfl)
 generalize cEffect S = r at *
 clear J
 go_enter Tryz.func137, Tryz.ntmps137
 go_upto_region 1 with (fail)
 generalize (w.alloc (.cells #[.string ⟨#[]⟩, .int .i64 0, .slice none 0 0, .string ⟨#[]⟩, .int .i64 0, .int .i64 0, .bool false, .string ⟨#[]⟩, .float .f64 0] 51)) = w0 at *
 have HG := Lib.hid (cname_c J0)
 generalize cText 16 S = p1 at *
 obtain ⟨a, S1⟩ := p1
 replace E := Lib.hid (show r = cEff1 a (cExp S1) from E.out)
 go_wp2_with fail
 refine HG.out.mono ?_
 rintro x9 w1 ⟨rfl, J1, hx1⟩
 have LR1 : Loc1 w.heap.size 51 #[.string ⟨#[]⟩, .int .i64 0, .slice none 0 0, .string ⟨#[]⟩, .int .i64 0, .int .i64 0, .bool false, .string ⟨#[]⟩, .float .f64 0] w1 := (hx1.block _ (lt_of_heap LR0) ⟨by omega, by omega⟩).trans LR0
 have hT1 := hT0.trans hx1
 have hz1 := hx1.size
 clear HG LR0 hT0 J0
 have HG := Lib.hid (cexp_c J1)
 generalize cExp S1 = p2 at *
 obtain ⟨e, S2⟩ := p2
 replace E := Lib.hid (show r = (⟨a, e⟩, S2) from E.out)
 go_wp2_with fail
 refine HG.out.mono ?_
 rintro x9 w2 ⟨⟨cs, rfl, hR⟩, J2, hx2⟩
 have LR2 : Loc1 w.heap.size 51 #[.string ⟨#[]⟩, .int .i64 0, .slice none 0 0, .string ⟨#[]⟩, .int .i64 0, .int .i64 0, .bool false, .string ⟨#[]⟩, .float .f64 0] w2 := (hx2.block _ (lt_of_heap LR1) ⟨by omega, by omega⟩).trans LR1
 have hT2 := hT1.trans hx2
 have hz2 := hx2.size
 obtain ⟨k5, B, c, hk5, rfl, hs⟩ := exp_open hR
 have HE := Lib.hid (hs.weak (ok' := fun k => w.heap.size + 1 ≤ k) fun k hk => by have hk' : w1.heap.size ≤ k := hk; omega)
 obtain rfl : k5 = 5 := by omega
 clear hs hR hk5
 clear HG LR1 hT1 J1
 obtain ⟨m0, m1, m2, m3, m4, m5, m6, m7, m8⟩ := cells9 LR2
 have u0 := free_of LR2 0
 have u1 := free_of LR2 1
 have u2 := free_of LR2 2
 have u3 := free_of LR2 3
 have u4 := free_of LR2 4
 have u5 := free_of LR2 5
 have u6 := free_of LR2 6
 have u7 := free_of LR2 7
 have u8 := free_of LR2 8
 have hzr := lt_of_heap LR2
 go_wp21
 have XS : Ext (fun k => k ≠ w.heap.size) w2 (((((((((w2.setCell ⟨w.heap.size, 0, none⟩ (.string ⟨a.toArray⟩)).setCell ⟨w.heap.size, 1, none⟩ (.int .i64 e.op)).setCell ⟨w.heap.size, 2, none⟩ (.slice B e.kids.length c)).setCell ⟨w.heap.size, 3, none⟩ (.string ⟨e.name.toArray⟩)).setCell ⟨w.heap.size, 4, none⟩ (.int .i64 e.val.kind)).setCell ⟨w.heap.size, 5, none⟩ (.int .i64 e.val.int)).setCell ⟨w.heap.size, 6, none⟩ (.bool e.val.bool)).setCell ⟨w.heap.size, 7, none⟩ (.string ⟨e.val.text.toArray⟩)).setCell ⟨w.heap.size, 8, none⟩ (.float .f64 e.val.num)) := (ext_set_ne (ext_set_ne (ext_set_ne (ext_set_ne (ext_set_ne (ext_set_ne (ext_set_ne (ext_set_ne (ext_set_ne (Ext.refl _ _) 0 _) 1 _) 2 _) 3 _) 4 _) 5 _) 6 _) 7 _) 8 _)
 have LF : Loc1 w.heap.size 51 #[.string ⟨a.toArray⟩, .int .i64 e.op, .slice B e.kids.length c, .string ⟨e.name.toArray⟩, .int .i64 e.val.kind, .int .i64 e.val.int, .bool e.val.bool, .string ⟨e.val.text.toArray⟩, .float .f64 e.val.num] (((((((((w2.setCell ⟨w.heap.size, 0, none⟩ (.string ⟨a.toArray⟩)).setCell ⟨w.heap.size, 1, none⟩ (.int .i64 e.op)).setCell ⟨w.heap.size, 2, none⟩ (.slice B e.kids.length c)).setCell ⟨w.heap.size, 3, none⟩ (.string ⟨e.name.toArray⟩)).setCell ⟨w.heap.size, 4, none⟩ (.int .i64 e.val.kind)).setCell ⟨w.heap.size, 5, none⟩ (.int .i64 e.val.int)).setCell ⟨w.heap.size, 6, none⟩ (.bool e.val.bool)).setCell ⟨w.heap.size, 7, none⟩ (.string ⟨e.val.text.toArray⟩)).setCell ⟨w.heap.size, 8, none⟩ (.float .f64 e.val.num)) := by
  have := (heap_set (heap_set (heap_set (heap_set (heap_set (heap_set (heap_set (heap_set (heap_set LR2 0 (.string ⟨a.toArray⟩)) 1 (.int .i64 e.op)) 2 (.slice B e.kids.length c)) 3 (.string ⟨e.name.toArray⟩)) 4 (.int .i64 e.val.kind)) 5 (.int .i64 e.val.int)) 6 (.bool e.val.bool)) 7 (.string ⟨e.val.text.toArray⟩)) 8 (.float .f64 e.val.num))
  unfold Loc1
  simpa using this
 have JF := J2.off XS (by omega) (fun k hk => by have := hk.2; omega) (by omega)
 have hTF := ext_off2 hT2 XS (by omega)
 have HEF := (HE.out.ext (XS.weak fun k _ hk => by have hk' : w.heap.size + 1 ≤ k := hk; omega)).weak (ok' := fun k => w.heap.size ≤ k) fun k hk => by have hk' : w.heap.size + 1 ≤ k := hk; omega
 obtain ⟨q0, q1, q2, q3, q4, q5, q6, q7, q8⟩ := cells9 LF
 rw [E.out]
 exact bodyPost_ret (v := .agg #[.string ⟨a.toArray⟩, .int .i64 e.op, .slice B e.kids.length c, .string ⟨e.name.toArray⟩, .int .i64 e.val.kind, .int .i64 e.val.int, .bool e.val.bool, .string ⟨e.val.text.toArray⟩, .float .f64 e.val.num]) (by simp [results, Tryz.results137, go_sem, q0, q1, q2, q3, q4, q5, q6, q7, q8]) rfl ⟨⟨_, rfl, eff_mk (e := ⟨a, e⟩) (exp_mk (e := e) HEF)⟩, JF.weak (fun k hk => hk.1) hfar, hTF⟩
end
end Go.Proofs.YtjnhgfmjehaalaaGreat
