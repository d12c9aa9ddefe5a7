/- Package contract, walked: its source: texts, numbers, values, expressions. -/
import Derived.Test.YtjnhgfmjehaalaaGreatV4
namespace Go.Proofs.YtjnhgfmjehaalaaGreat
open Go.RowKit
set_option linter.unusedVariables false
set_option linter.unusedSimpArgs false
abbrev CS := RS × Int
def cText (m : Int) (S : CS) : List UInt8 × CS := if S.2 ≠ 0 then ([], S) else ((rBytes m S.1).1, ((rBytes m S.1).2, (rBytes m S.1).2.2))
def cNum (S : CS) : Int × CS := if S.2 ≠ 0 then (0, S) else ((rInt S.1).1, ((rInt S.1).2, (rInt S.1).2.2))
def cVal (S : CS) : Val × CS := if S.2 ≠ 0 then (zeroV, S) else ((gVal S.1).1.1, ((gVal S.1).2, (gVal S.1).1.2))
def zeroE : Exp := .mk 0 [] [] zeroV
def cExp (S : CS) : Exp × CS := if S.2 ≠ 0 then (zeroE, S) else match gE S.1 with | .ok p => (p.1, (p.2, 0)) | .error x => (zeroE, (S.1, x))
section
/-- a source at block b, its reader at block g: the reader counts while there is no error -/
structure CJ (ok : Nat → Prop) (b g : Nat) (S : CS) (w : World) : Prop where
 rd : S.2 = 0 → Rd ok g w S.1.1 S.1.2
 src : Loc1 b 114 #[.pointer (some ⟨g, 0, none⟩), .int .i64 S.2] w
 ne : b ≠ g
 far : ∀ k, ok k → k ≠ b
 glt : g < w.heap.size
variable {ok : Nat → Prop} {w W W' : World} {b g : Nat} {S S' : CS}
theorem CJ.blt (h : CJ ok b g S W) : b < W.heap.size := lt_of_heap h.src
theorem CJ.below (h : CJ ok b g S W) (hb : Below W.heap.size W W') : CJ ok b g S W' := ⟨fun he => (h.rd he).below hb, h.src.below hb, h.ne, h.far, Nat.lt_of_lt_of_le h.glt hb.size⟩
/-- a method that answers v and leaves the source at S' -/
def Cv (ok : Nat → Prop) (b g : Nat) (w : World) (v : Value) (S' : CS) (e : Ending) (w' : World) : Prop := e = .returned v ∧ CJ ok b g S' w' ∧ Ext (fun k => k ≠ g ∧ k ≠ b) w w'
theorem keep_c (x : Int) (J : CJ ok b g S w) (he : S.2 = 0) (s' : RS) (h : x = 0 → Rd ok g w s'.1 s'.2) : Calls Tryz.prog 128 #[.pointer (some ⟨b, 0, none⟩), .int .i64 x] w (Cv ok b g w (.tuple #[]) (s', x)) := by
 have j0 := cell_of J.src 0
 have j1 := cell_of J.src 1
 have u1 := free_of J.src 1
 simp only [List.getElem?_toArray, List.getElem?_cons_zero, List.getElem?_cons_succ] at j0 j1
 have he1 : (S.2 == 0) = true := by simpa using he
 have HF : CJ ok b g (s', x) (w.setCell ⟨b, 1, none⟩ (.int .i64 x)) := ⟨fun hx => rd_off (h hx) (ext_set_ne (Ext.refl (fun k => k ≠ b) w) 1 _) ⟨fun e => J.ne e.symm, J.far⟩, (by have := heap_set J.src 1 (.int .i64 x); unfold Loc1; simpa using this), J.ne, J.far, (by rw [World.size_setCell]; exact J.glt)⟩
 have HX : Ext (fun k => k ≠ g ∧ k ≠ b) w (w.setCell ⟨b, 1, none⟩ (.int .i64 x)) := ext_set (fun e => e.2 rfl) _
 clear h
 go_enter Tryz.func128, Tryz.ntmps128
 go_wp2_with fail
 go_end0
 exact ⟨rfl, HF, HX⟩
theorem CJ.call (J : CJ ok b g S w) {s' : RS} (hr : Rd ok g W s'.1 s'.2) (hx : Ext (fun k => k ≠ g) w W) (he : S.2 = 0) : CJ ok b g (s', 0) W := ⟨fun _ => hr, (by have h := loc_ext hx J.ne J.src; rwa [he] at h), J.ne, J.far, hr.lt⟩
theorem ctext_c (m : Int) (J : CJ ok b g S w) : Calls Tryz.prog 126 #[.pointer (some ⟨b, 0, none⟩), .int .i64 m] w (Cv ok b g w (.string ⟨(cText m S).1.toArray⟩) (cText m S).2) := by
 have j0 := cell_of J.src 0
 have j1 := cell_of J.src 1
 have u1 := free_of J.src 1
 simp only [List.getElem?_toArray, List.getElem?_cons_zero, List.getElem?_cons_succ] at j0 j1
 by_cases he : S.2 = 0
 rotate_left
 ·have he1 : (S.2 == 0) = false := by simpa using he
  have E : cText m S = ([], S) := by unfold cText; rw [if_pos he]
  rw [E]
  go_enter Tryz.func126, Tryz.ntmps126
  go_wp2_with fail
  go_ret
  exact ⟨rfl, J, Ext.refl _ _⟩
 have he1 : (S.2 == 0) = true := by simpa using he
 have E : cText m S = ((rBytes m S.1).1, ((rBytes m S.1).2, (rBytes m S.1).2.2)) := by unfold cText; rw [if_neg (by simpa using he)]
 rw [E]
 have HB := Lib.hid (bytes_c g m S.1 (J.rd he))
 generalize rBytes m S.1 = p at *
 have hh := Lib.hid he
 clear E he
 go_enter Tryz.func126, Tryz.ntmps126
 go_wp2_with fail
 refine HB.out.mono ?_
 rintro x9 w1 ⟨v1, rfl, ho, hr, hx⟩
 obtain ⟨Av, nv, cv, rfl, -⟩ := ho.form'
 have CV := conv_vs (P := Tryz.prog) ((ho.weak (ok' := fun _ => True) fun _ _ => trivial).sl fun _ _ => trivial) 29 9 5 Tryz.underlying29 Tryz.underlying5 Tryz.underlying9
 have J1 := J.call hr hx hh.out
 have k0 := cell_of J1.src 0
 simp only [List.getElem?_toArray, List.getElem?_cons_zero] at k0
 clear ho
 go_wp2_with fail
 refine (err_c g _ hr).mono ?_
 rintro x9 w9 ⟨rfl, rfl⟩
 go_wp2_with fail
 refine (keep_c p.2.2 J1 rfl p.2 fun _ => hr).mono ?_
 rintro x9 w2 ⟨rfl, J2, hx2⟩
 have HX := (hx.weak (ok' := fun k => k ≠ g ∧ k ≠ b) fun k _ hk => hk.1).trans hx2
 clear k0 CV
 go_wp2_with fail
 go_ret
 exact ⟨rfl, J2, HX⟩
theorem cname_c (J : CJ ok b g S w) : Calls Tryz.prog 74 #[.pointer (some ⟨b, 0, none⟩)] w (Cv ok b g w (.string ⟨(cText 16 S).1.toArray⟩) (cText 16 S).2) := by
 have H := Lib.hid (ctext_c 16 J)
 go_enter Tryz.func74, Tryz.ntmps74
 go_wp2_with fail
 refine H.out.mono ?_
 rintro x9 w1 ⟨rfl, J1, hx1⟩
 go_wp2_with fail
 go_ret
 exact ⟨rfl, J1, hx1⟩
theorem cword_c (J : CJ ok b g S w) : Calls Tryz.prog 132 #[.pointer (some ⟨b, 0, none⟩)] w (Cv ok b g w (.string ⟨(cText 32 S).1.toArray⟩) (cText 32 S).2) := by
 have H := Lib.hid (ctext_c 32 J)
 go_enter Tryz.func132, Tryz.ntmps132
 go_wp2_with fail
 refine H.out.mono ?_
 rintro x9 w1 ⟨rfl, J1, hx1⟩
 go_wp2_with fail
 go_ret
 exact ⟨rfl, J1, hx1⟩
theorem cnum_c (J : CJ ok b g S w) : Calls Tryz.prog 130 #[.pointer (some ⟨b, 0, none⟩)] w (Cv ok b g w (.int .i64 (cNum S).1) (cNum S).2) := by
 have j0 := cell_of J.src 0
 have j1 := cell_of J.src 1
 have u1 := free_of J.src 1
 simp only [List.getElem?_toArray, List.getElem?_cons_zero, List.getElem?_cons_succ] at j0 j1
 by_cases he : S.2 = 0
 rotate_left
 ·have he1 : (S.2 == 0) = false := by simpa using he
  have E : cNum S = (0, S) := by unfold cNum; rw [if_pos he]
  rw [E]
  go_enter Tryz.func130, Tryz.ntmps130
  go_wp2_with fail
  go_ret
  exact ⟨rfl, J, Ext.refl _ _⟩
 have he1 : (S.2 == 0) = true := by simpa using he
 have E : cNum S = ((rInt S.1).1, ((rInt S.1).2, (rInt S.1).2.2)) := by unfold cNum; rw [if_neg (by simpa using he)]
 rw [E]
 have HB := Lib.hid (int_c g S.1 (J.rd he))
 generalize rInt S.1 = p at *
 have hh := Lib.hid he
 clear E he
 go_enter Tryz.func130, Tryz.ntmps130
 go_wp2_with fail
 refine HB.out.mono ?_
 rintro x9 w1 ⟨rfl, hr, hx⟩
 have J1 := J.call hr hx hh.out
 have k0 := cell_of J1.src 0
 simp only [List.getElem?_toArray, List.getElem?_cons_zero] at k0
 go_wp2_with fail
 refine (err_c g _ hr).mono ?_
 rintro x9 w9 ⟨rfl, rfl⟩
 go_wp2_with fail
 refine (keep_c p.2.2 J1 rfl p.2 fun _ => hr).mono ?_
 rintro x9 w2 ⟨rfl, J2, hx2⟩
 have HX := (hx.weak (ok' := fun k => k ≠ g ∧ k ≠ b) fun k _ hk => hk.1).trans hx2
 clear k0
 go_wp2_with fail
 go_ret
 exact ⟨rfl, J2, HX⟩
end
end Go.Proofs.YtjnhgfmjehaalaaGreat
