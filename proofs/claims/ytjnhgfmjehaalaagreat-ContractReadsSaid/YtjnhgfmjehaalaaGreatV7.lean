/- Package contract, walked: its source: expressions. -/
import Derived.Test.YtjnhgfmjehaalaaGreatV6
namespace Go.Proofs.YtjnhgfmjehaalaaGreat
open Go.RowKit
set_option linter.unusedVariables false
set_option linter.unusedSimpArgs false
theorem vX_err {s : RS} {x : Int} (h : vX s = .error x) : x ≠ 0 := by
 unfold vX at h
 split at h
 ·cases h
 ·split at h
  ·cases h
  ·injection h with h; subst h; assumption
theorem gX_err : ∀ (d : Nat) {N : Int} {s : RS} {x : Int}, gX d N s = .error x → x ≠ 0
 | 0, _, _, x, h => by injection h with h; subst h; decide
 | d + 1, N, s, x, h => by
  rw [gX] at h
  by_cases hN : N ≤ 0
  ·rw [if_pos hN] at h; injection h with h; subst h; decide
  rw [if_neg hN] at h
  unfold gTail at h
  split at h
  ·injection h with h; subst h; assumption
  split at h
  ·injection h with h; subst h; rename_i hv; exact vX_err hv
  rename_i p hp
  have key : ∀ (i : Nat) (y : Int), gI (gX d) (N - 1) p.2 i = .error y → y ≠ 0 := by
   intro i
   induction i with
   | zero => intro y h; cases h
   | succ i ih =>
    intro y h
    rw [gI] at h
    split at h
    ·injection h with h; subst h; rename_i hv; exact ih _ hv
    ·split at h
     ·injection h with h; subst h; rename_i hv; exact gX_err d hv
     ·cases h
  split at h
  ·injection h with h; subst h; rename_i hv; exact key _ _ hv
  ·cases h
theorem gE_err {s : RS} {x : Int} (h : gE s = .error x) : x ≠ 0 := by
 unfold gE at h
 split at h
 ·injection h with h; subst h; assumption
 ·split at h
  ·injection h with h; subst h; rename_i hv; exact gX_err 6 hv
  ·cases h
section
variable {ok : Nat → Prop} {w W W' : World} {b g : Nat} {S S' : CS}
theorem keepE_c (x : Int) (s' : RS) (hS : Loc1 b 114 #[.pointer (some ⟨g, 0, none⟩), .int .i64 0] w) (hne : b ≠ g) (hfar : ∀ k, ok k → k ≠ b) (hg : g < w.heap.size) (hx : x ≠ 0) : Calls Tryz.prog 128 #[.pointer (some ⟨b, 0, none⟩), .int .i64 x] w (Cv ok b g w (.tuple #[]) (s', x)) := by
 have j1 := cell_of hS 1
 have u1 := free_of hS 1
 simp only [List.getElem?_toArray, List.getElem?_cons_zero, List.getElem?_cons_succ] at j1
 have HF : CJ ok b g (s', x) (w.setCell ⟨b, 1, none⟩ (.int .i64 x)) := ⟨fun h => absurd h hx, (by have := heap_set hS 1 (.int .i64 x); unfold Loc1; simpa using this), hne, hfar, (by rw [World.size_setCell]; exact hg)⟩
 have HX : Ext (fun k => k ≠ g ∧ k ≠ b) w (w.setCell ⟨b, 1, none⟩ (.int .i64 x)) := ext_set (fun e => e.2 rfl) _
 go_enter Tryz.func128, Tryz.ntmps128
 go_wp2_with fail
 go_end0
 exact ⟨rfl, HF, HX⟩
def RetCX (ok : Nat → Prop) (b g : Nat) (w : World) (x : Exp) (S' : CS) (e : Ending) (w' : World) : Prop := (∃ cs : List Value, e = .returned (.agg cs.toArray) ∧ (kExp 6).R (fun k => w.heap.size ≤ k) w' cs x) ∧ CJ ok b g S' w' ∧ Ext (fun k => k ≠ g ∧ k ≠ b) w w'
theorem zeroE_R (ok : Nat → Prop) (w : World) : (kExp 6).R ok w [.int .i64 0, .slice none 0 0, .string ⟨#[]⟩, .int .i64 0, .int .i64 0, .bool false, .string ⟨#[]⟩, .float .f64 0] zeroE := exp_mk (e := zeroE) (Sl.nil _ _ _)
set_option maxRecDepth 20000 in
set_option maxHeartbeats 8000000 in
theorem cexp_c (J0 : CJ ok b g S w) : Calls Tryz.prog 135 #[.pointer (some ⟨b, 0, none⟩)] w (RetCX ok b g w (cExp S).1 (cExp S).2) := by
 have SF := store_f64
 have J := (J0.bound).below (show Below w.heap.size w (w.alloc (.cells #[.int .i64 0, .slice none 0 0, .string ⟨#[]⟩, .int .i64 0, .int .i64 0, .bool false, .string ⟨#[]⟩, .float .f64 0] 44)) from bW)
 have hbw := J0.blt
 have hgw := J0.glt
 have hfar := J0.far
 have LR := Loc1.new w 44 #[.int .i64 0, .slice none 0 0, .string ⟨#[]⟩, .int .i64 0, .int .i64 0, .bool false, .string ⟨#[]⟩, .float .f64 0]
 have hx0 : Ext (fun k => k ≠ g ∧ k ≠ b) w (w.alloc (.cells #[.int .i64 0, .slice none 0 0, .string ⟨#[]⟩, .int .i64 0, .int .i64 0, .bool false, .string ⟨#[]⟩, .float .f64 0] 44)) := ext_alloc _ _ _
 have hz0 : (w.alloc (.cells #[.int .i64 0, .slice none 0 0, .string ⟨#[]⟩, .int .i64 0, .int .i64 0, .bool false, .string ⟨#[]⟩, .float .f64 0] 44)).heap.size = w.heap.size + 1 := by simp
 clear J0
 by_cases he : S.2 = 0
 rotate_left
 ·have E : cExp S = (zeroE, S) := by unfold cExp; rw [if_pos he]
  rw [E]
  clear E
  go_enter Tryz.func135, Tryz.ntmps135
  go_upto_region 1 with (fail)
  generalize (w.alloc (.cells #[.int .i64 0, .slice none 0 0, .string ⟨#[]⟩, .int .i64 0, .int .i64 0, .bool false, .string ⟨#[]⟩, .float .f64 0] 44)) = w0 at *
  have j0 := cell_of J.src 0
  have j1 := cell_of J.src 1
  have v1 := free_of J.src 1
  simp only [List.getElem?_toArray, List.getElem?_cons_zero, List.getElem?_cons_succ] at j0 j1
  have he1 : (S.2 == 0) = false := by simpa using he
  clear he
  obtain ⟨m0, m1, m2, m3, m4, m5, m6, m7⟩ := cells8 LR
  have u0 := free_of LR 0
  have u1 := free_of LR 1
  have u2 := free_of LR 2
  have u3 := free_of LR 3
  have u4 := free_of LR 4
  have u5 := free_of LR 5
  have u6 := free_of LR 6
  have u7 := free_of LR 7
  have hz := lt_of_heap LR
  go_wp21
  have XS : Ext (fun k => k ≠ w.heap.size) w0 ((((((((w0.setCell ⟨w.heap.size, 0, none⟩ (.int .i64 0)).setCell ⟨w.heap.size, 1, none⟩ (.slice none 0 0)).setCell ⟨w.heap.size, 2, none⟩ (.string ⟨#[]⟩)).setCell ⟨w.heap.size, 3, none⟩ (.int .i64 0)).setCell ⟨w.heap.size, 4, none⟩ (.int .i64 0)).setCell ⟨w.heap.size, 5, none⟩ (.bool false)).setCell ⟨w.heap.size, 6, none⟩ (.string ⟨#[]⟩)).setCell ⟨w.heap.size, 7, none⟩ (.float .f64 0)) := (ext_set_ne (ext_set_ne (ext_set_ne (ext_set_ne (ext_set_ne (ext_set_ne (ext_set_ne (ext_set_ne (Ext.refl _ _) 0 _) 1 _) 2 _) 3 _) 4 _) 5 _) 6 _) 7 _)
  have LF : Loc1 w.heap.size 44 #[.int .i64 0, .slice none 0 0, .string ⟨#[]⟩, .int .i64 0, .int .i64 0, .bool false, .string ⟨#[]⟩, .float .f64 0] ((((((((w0.setCell ⟨w.heap.size, 0, none⟩ (.int .i64 0)).setCell ⟨w.heap.size, 1, none⟩ (.slice none 0 0)).setCell ⟨w.heap.size, 2, none⟩ (.string ⟨#[]⟩)).setCell ⟨w.heap.size, 3, none⟩ (.int .i64 0)).setCell ⟨w.heap.size, 4, none⟩ (.int .i64 0)).setCell ⟨w.heap.size, 5, none⟩ (.bool false)).setCell ⟨w.heap.size, 6, none⟩ (.string ⟨#[]⟩)).setCell ⟨w.heap.size, 7, none⟩ (.float .f64 0)) := by
   have := (heap_set (heap_set (heap_set (heap_set (heap_set (heap_set (heap_set (heap_set LR 0 (.int .i64 0)) 1 (.slice none 0 0)) 2 (.string ⟨#[]⟩)) 3 (.int .i64 0)) 4 (.int .i64 0)) 5 (.bool false)) 6 (.string ⟨#[]⟩)) 7 (.float .f64 0))
   unfold Loc1
   simpa using this
  have JF := J.off XS (by omega) (fun k hk => by have := hk.2; omega) (by omega)
  have hxF := ext_off2 hx0 XS (by omega)
  clear XS LR J hx0
  obtain ⟨q0, q1, q2, q3, q4, q5, q6, q7⟩ := cells8 LF
  exact bodyPost_ret (v := .agg #[.int .i64 0, .slice none 0 0, .string ⟨#[]⟩, .int .i64 0, .int .i64 0, .bool false, .string ⟨#[]⟩, .float .f64 0]) (by simp [results, Tryz.results135, go_sem, q0, q1, q2, q3, q4, q5, q6, q7]) rfl ⟨⟨_, rfl, zeroE_R _ _⟩, JF.weak (fun k hk => hk.1) hfar, hxF⟩
 have HG := Lib.hid (eget_c g S.1 (J.rd he))
 have ER := Lib.hid (show ∀ q, gE S.1 = q → cExp S = match q with | .ok p => (p.1, (p.2, 0)) | .error x => (zeroE, (S.1, x)) from fun q hq => by subst hq; unfold cExp; rw [if_neg (by simpa using he)]; rfl)
 generalize cExp S = r at *
 have hh := Lib.hid he
 go_enter Tryz.func135, Tryz.ntmps135
 go_upto_region 1 with (fail)
 generalize (w.alloc (.cells #[.int .i64 0, .slice none 0 0, .string ⟨#[]⟩, .int .i64 0, .int .i64 0, .bool false, .string ⟨#[]⟩, .float .f64 0] 44)) = w0 at *
 have j0 := cell_of J.src 0
 have j1 := cell_of J.src 1
 have v1 := free_of J.src 1
 simp only [List.getElem?_toArray, List.getElem?_cons_zero, List.getElem?_cons_succ] at j0 j1
 have he1 : (S.2 == 0) = true := by simpa using he
 clear he
 cases hg : gE S.1 with
 | error x =>
  rw [hg] at HG
  have hx := Lib.hid (gE_err hg)
  have E1 := Lib.hid (show r = (zeroE, (S.1, x)) from ER.out _ hg)
  clear hg ER
  go_wp2_with fail
  refine HG.out.mono ?_
  rintro x9 w1 ⟨rfl, hx1⟩
  have hs1 := hx1.size
  have L1 := loc_ext hx1 (by omega) LR
  have S1 : Loc1 b 114 #[.pointer (some ⟨g, 0, none⟩), .int .i64 0] w1 := (by have h := loc_ext hx1 J.ne J.src; rwa [hh.out] at h)
  have hx2 := hx0.trans (hx1.weak (ok' := fun k => k ≠ g ∧ k ≠ b) fun k _ hk => hk.1)
  have hne := J.ne
  have hfa := J.far
  clear j0 j1 v1 J LR hx0
  obtain ⟨m0, m1, m2, m3, m4, m5, m6, m7⟩ := cells8 L1
  have u0 := free_of L1 0
  have u1 := free_of L1 1
  have u2 := free_of L1 2
  have u3 := free_of L1 3
  have u4 := free_of L1 4
  have u5 := free_of L1 5
  have u6 := free_of L1 6
  have u7 := free_of L1 7
  have hz := lt_of_heap L1
  go_upto_region 4 with (fail)
  have XS : Ext (fun k => k ≠ w.heap.size) w1 ((((((((w1.setCell ⟨w.heap.size, 0, none⟩ (.int .i64 0)).setCell ⟨w.heap.size, 1, none⟩ (.slice none 0 0)).setCell ⟨w.heap.size, 2, none⟩ (.string ⟨#[]⟩)).setCell ⟨w.heap.size, 3, none⟩ (.int .i64 0)).setCell ⟨w.heap.size, 4, none⟩ (.int .i64 0)).setCell ⟨w.heap.size, 5, none⟩ (.bool false)).setCell ⟨w.heap.size, 6, none⟩ (.string ⟨#[]⟩)).setCell ⟨w.heap.size, 7, none⟩ (.float .f64 0)) := (ext_set_ne (ext_set_ne (ext_set_ne (ext_set_ne (ext_set_ne (ext_set_ne (ext_set_ne (ext_set_ne (Ext.refl _ _) 0 _) 1 _) 2 _) 3 _) 4 _) 5 _) 6 _) 7 _)
  have L2 : Loc1 w.heap.size 44 #[.int .i64 0, .slice none 0 0, .string ⟨#[]⟩, .int .i64 0, .int .i64 0, .bool false, .string ⟨#[]⟩, .float .f64 0] ((((((((w1.setCell ⟨w.heap.size, 0, none⟩ (.int .i64 0)).setCell ⟨w.heap.size, 1, none⟩ (.slice none 0 0)).setCell ⟨w.heap.size, 2, none⟩ (.string ⟨#[]⟩)).setCell ⟨w.heap.size, 3, none⟩ (.int .i64 0)).setCell ⟨w.heap.size, 4, none⟩ (.int .i64 0)).setCell ⟨w.heap.size, 5, none⟩ (.bool false)).setCell ⟨w.heap.size, 6, none⟩ (.string ⟨#[]⟩)).setCell ⟨w.heap.size, 7, none⟩ (.float .f64 0)) := by
   have := (heap_set (heap_set (heap_set (heap_set (heap_set (heap_set (heap_set (heap_set L1 0 (.int .i64 0)) 1 (.slice none 0 0)) 2 (.string ⟨#[]⟩)) 3 (.int .i64 0)) 4 (.int .i64 0)) 5 (.bool false)) 6 (.string ⟨#[]⟩)) 7 (.float .f64 0))
   unfold Loc1
   simpa using this
  have S2 := loc_ext XS (show b ≠ w.heap.size by omega) S1
  have hx3 := ext_off2 hx2 XS (by omega)
  have hs2 := XS.size
  clear XS L1 S1 hx2 m0 m1 m2 m3 m4 m5 m6 m7 u0 u1 u2 u3 u4 u5 u6 u7 hz
  generalize ((((((((w1.setCell ⟨w.heap.size, 0, none⟩ (.int .i64 0)).setCell ⟨w.heap.size, 1, none⟩ (.slice none 0 0)).setCell ⟨w.heap.size, 2, none⟩ (.string ⟨#[]⟩)).setCell ⟨w.heap.size, 3, none⟩ (.int .i64 0)).setCell ⟨w.heap.size, 4, none⟩ (.int .i64 0)).setCell ⟨w.heap.size, 5, none⟩ (.bool false)).setCell ⟨w.heap.size, 6, none⟩ (.string ⟨#[]⟩)).setCell ⟨w.heap.size, 7, none⟩ (.float .f64 0)) = w2 at *
  go_wp2_with fail
  refine (keepE_c x S.1 S2 hne hfa (by omega) hx.out).mono ?_
  rintro x9 w3 ⟨rfl, J3, hx4⟩
  have L3 : Loc1 w.heap.size 44 #[.int .i64 0, .slice none 0 0, .string ⟨#[]⟩, .int .i64 0, .int .i64 0, .bool false, .string ⟨#[]⟩, .float .f64 0] w3 := (hx4.block _ (lt_of_heap L2) ⟨by omega, by omega⟩).trans L2
  have hx5 := hx3.trans hx4
  clear L2 S2 hx3
  obtain ⟨m0, m1, m2, m3, m4, m5, m6, m7⟩ := cells8 L3
  have u0 := free_of L3 0
  have u1 := free_of L3 1
  have u2 := free_of L3 2
  have u3 := free_of L3 3
  have u4 := free_of L3 4
  have u5 := free_of L3 5
  have u6 := free_of L3 6
  have u7 := free_of L3 7
  have hz := lt_of_heap L3
  go_wp21
  have XS : Ext (fun k => k ≠ w.heap.size) w3 ((((((((w3.setCell ⟨w.heap.size, 0, none⟩ (.int .i64 0)).setCell ⟨w.heap.size, 1, none⟩ (.slice none 0 0)).setCell ⟨w.heap.size, 2, none⟩ (.string ⟨#[]⟩)).setCell ⟨w.heap.size, 3, none⟩ (.int .i64 0)).setCell ⟨w.heap.size, 4, none⟩ (.int .i64 0)).setCell ⟨w.heap.size, 5, none⟩ (.bool false)).setCell ⟨w.heap.size, 6, none⟩ (.string ⟨#[]⟩)).setCell ⟨w.heap.size, 7, none⟩ (.float .f64 0)) := (ext_set_ne (ext_set_ne (ext_set_ne (ext_set_ne (ext_set_ne (ext_set_ne (ext_set_ne (ext_set_ne (Ext.refl _ _) 0 _) 1 _) 2 _) 3 _) 4 _) 5 _) 6 _) 7 _)
  have LF : Loc1 w.heap.size 44 #[.int .i64 0, .slice none 0 0, .string ⟨#[]⟩, .int .i64 0, .int .i64 0, .bool false, .string ⟨#[]⟩, .float .f64 0] ((((((((w3.setCell ⟨w.heap.size, 0, none⟩ (.int .i64 0)).setCell ⟨w.heap.size, 1, none⟩ (.slice none 0 0)).setCell ⟨w.heap.size, 2, none⟩ (.string ⟨#[]⟩)).setCell ⟨w.heap.size, 3, none⟩ (.int .i64 0)).setCell ⟨w.heap.size, 4, none⟩ (.int .i64 0)).setCell ⟨w.heap.size, 5, none⟩ (.bool false)).setCell ⟨w.heap.size, 6, none⟩ (.string ⟨#[]⟩)).setCell ⟨w.heap.size, 7, none⟩ (.float .f64 0)) := by
   have := (heap_set (heap_set (heap_set (heap_set (heap_set (heap_set (heap_set (heap_set L3 0 (.int .i64 0)) 1 (.slice none 0 0)) 2 (.string ⟨#[]⟩)) 3 (.int .i64 0)) 4 (.int .i64 0)) 5 (.bool false)) 6 (.string ⟨#[]⟩)) 7 (.float .f64 0))
   unfold Loc1
   simpa using this
  have JF := J3.off XS (by omega) (fun k hk => by have := hk.2; omega) (by omega)
  have hxF := ext_off2 hx5 XS (by omega)
  clear XS L3 J3 hx5
  obtain ⟨q0, q1, q2, q3, q4, q5, q6, q7⟩ := cells8 LF
  rw [E1.out]
  exact bodyPost_ret (v := .agg #[.int .i64 0, .slice none 0 0, .string ⟨#[]⟩, .int .i64 0, .int .i64 0, .bool false, .string ⟨#[]⟩, .float .f64 0]) (by simp [results, Tryz.results135, go_sem, q0, q1, q2, q3, q4, q5, q6, q7]) rfl ⟨⟨_, rfl, zeroE_R _ _⟩, JF.weak (fun k hk => hk.1) hfar, hxF⟩
 | ok p =>
 rw [hg] at HG
 obtain ⟨e, s9⟩ := p
 have E1 := Lib.hid (show r = (e, (s9, 0)) from ER.out _ hg)
 clear hg ER
 go_wp2_with fail
 refine HG.out.mono ?_
 rintro x9 w1 ⟨⟨cs, rfl, hR, hr1⟩, hx1⟩
 have J1 := J.call hr1 hx1 hh.out
 have L1 := loc_ext hx1 (by omega) LR
 have hx2 := hx0.trans (hx1.weak (ok' := fun k => k ≠ g ∧ k ≠ b) fun k _ hk => hk.1)
 have hs1 := hx1.size
 obtain ⟨k, B, c, hk, rfl, hs⟩ := exp_open hR
 have HS3 := Lib.hid hs
 have HK := Lib.hid (show k = 5 by omega)
 clear j0 j1 v1 J LR hx0 hr1 hR hk hs
 obtain ⟨m0, m1, m2, m3, m4, m5, m6, m7⟩ := cells8 L1
 have u0 := free_of L1 0
 have u1 := free_of L1 1
 have u2 := free_of L1 2
 have u3 := free_of L1 3
 have u4 := free_of L1 4
 have u5 := free_of L1 5
 have u6 := free_of L1 6
 have u7 := free_of L1 7
 have hz := lt_of_heap L1
 go_upto_region 4 with (fail)
 have XS : Ext (fun k => k ≠ w.heap.size) w1 ((((((((w1.setCell ⟨w.heap.size, 0, none⟩ (.int .i64 e.op)).setCell ⟨w.heap.size, 1, none⟩ (.slice B e.kids.length c)).setCell ⟨w.heap.size, 2, none⟩ (.string ⟨e.name.toArray⟩)).setCell ⟨w.heap.size, 3, none⟩ (.int .i64 e.val.kind)).setCell ⟨w.heap.size, 4, none⟩ (.int .i64 e.val.int)).setCell ⟨w.heap.size, 5, none⟩ (.bool e.val.bool)).setCell ⟨w.heap.size, 6, none⟩ (.string ⟨e.val.text.toArray⟩)).setCell ⟨w.heap.size, 7, none⟩ (.float .f64 e.val.num)) := (ext_set_ne (ext_set_ne (ext_set_ne (ext_set_ne (ext_set_ne (ext_set_ne (ext_set_ne (ext_set_ne (Ext.refl _ _) 0 _) 1 _) 2 _) 3 _) 4 _) 5 _) 6 _) 7 _)
 have L2 : Loc1 w.heap.size 44 #[.int .i64 e.op, .slice B e.kids.length c, .string ⟨e.name.toArray⟩, .int .i64 e.val.kind, .int .i64 e.val.int, .bool e.val.bool, .string ⟨e.val.text.toArray⟩, .float .f64 e.val.num] ((((((((w1.setCell ⟨w.heap.size, 0, none⟩ (.int .i64 e.op)).setCell ⟨w.heap.size, 1, none⟩ (.slice B e.kids.length c)).setCell ⟨w.heap.size, 2, none⟩ (.string ⟨e.name.toArray⟩)).setCell ⟨w.heap.size, 3, none⟩ (.int .i64 e.val.kind)).setCell ⟨w.heap.size, 4, none⟩ (.int .i64 e.val.int)).setCell ⟨w.heap.size, 5, none⟩ (.bool e.val.bool)).setCell ⟨w.heap.size, 6, none⟩ (.string ⟨e.val.text.toArray⟩)).setCell ⟨w.heap.size, 7, none⟩ (.float .f64 e.val.num)) := by
  have := (heap_set (heap_set (heap_set (heap_set (heap_set (heap_set (heap_set (heap_set L1 0 (.int .i64 e.op)) 1 (.slice B e.kids.length c)) 2 (.string ⟨e.name.toArray⟩)) 3 (.int .i64 e.val.kind)) 4 (.int .i64 e.val.int)) 5 (.bool e.val.bool)) 6 (.string ⟨e.val.text.toArray⟩)) 7 (.float .f64 e.val.num))
  unfold Loc1
  simpa using this
 have J2 := J1.off XS (by omega) (fun k hk => by have := hk.2; omega) (by omega)
 have hx3 := ext_off2 hx2 XS (by omega)
 have HS4 := Lib.hid (show Sl (kExp k) (fun k => w0.heap.size ≤ k) ((((((((w1.setCell ⟨w.heap.size, 0, none⟩ (.int .i64 e.op)).setCell ⟨w.heap.size, 1, none⟩ (.slice B e.kids.length c)).setCell ⟨w.heap.size, 2, none⟩ (.string ⟨e.name.toArray⟩)).setCell ⟨w.heap.size, 3, none⟩ (.int .i64 e.val.kind)).setCell ⟨w.heap.size, 4, none⟩ (.int .i64 e.val.int)).setCell ⟨w.heap.size, 5, none⟩ (.bool e.val.bool)).setCell ⟨w.heap.size, 6, none⟩ (.string ⟨e.val.text.toArray⟩)).setCell ⟨w.heap.size, 7, none⟩ (.float .f64 e.val.num)) (.slice B e.kids.length c) e.kids from HS3.out.ext (XS.weak fun k _ hk => by have hk' : w0.heap.size ≤ k := hk; omega))
 clear XS L1 J1 hx2
 generalize ((((((((w1.setCell ⟨w.heap.size, 0, none⟩ (.int .i64 e.op)).setCell ⟨w.heap.size, 1, none⟩ (.slice B e.kids.length c)).setCell ⟨w.heap.size, 2, none⟩ (.string ⟨e.name.toArray⟩)).setCell ⟨w.heap.size, 3, none⟩ (.int .i64 e.val.kind)).setCell ⟨w.heap.size, 4, none⟩ (.int .i64 e.val.int)).setCell ⟨w.heap.size, 5, none⟩ (.bool e.val.bool)).setCell ⟨w.heap.size, 6, none⟩ (.string ⟨e.val.text.toArray⟩)).setCell ⟨w.heap.size, 7, none⟩ (.float .f64 e.val.num)) = w2 at *
 clear m0 m1 m2 m3 m4 m5 m6 m7 u0 u1 u2 u3 u4 u5 u6 u7 hz HS3
 go_wp2_with fail
 refine (keep_c 0 J2 rfl s9 fun _ => J2.rd rfl).mono ?_
 rintro x9 w3 ⟨rfl, J3, hx4⟩
 have L3 : Loc1 w.heap.size 44 #[.int .i64 e.op, .slice B e.kids.length c, .string ⟨e.name.toArray⟩, .int .i64 e.val.kind, .int .i64 e.val.int, .bool e.val.bool, .string ⟨e.val.text.toArray⟩, .float .f64 e.val.num] w3 := (hx4.block _ (lt_of_heap L2) ⟨by omega, by omega⟩).trans L2
 have hx5 := hx3.trans hx4
 have HS3 := Lib.hid (show Sl (kExp k) (fun k => w0.heap.size ≤ k) w3 (.slice B e.kids.length c) e.kids from HS4.out.ext (hx4.weak fun k _ hk => by have hk' : w0.heap.size ≤ k := hk; exact ⟨by omega, by omega⟩))
 clear L2 J2 hx3 HS4
 obtain ⟨m0, m1, m2, m3, m4, m5, m6, m7⟩ := cells8 L3
 have u0 := free_of L3 0
 have u1 := free_of L3 1
 have u2 := free_of L3 2
 have u3 := free_of L3 3
 have u4 := free_of L3 4
 have u5 := free_of L3 5
 have u6 := free_of L3 6
 have u7 := free_of L3 7
 have hz := lt_of_heap L3
 go_wp21
 have XS : Ext (fun k => k ≠ w.heap.size) w3 ((((((((w3.setCell ⟨w.heap.size, 0, none⟩ (.int .i64 e.op)).setCell ⟨w.heap.size, 1, none⟩ (.slice B e.kids.length c)).setCell ⟨w.heap.size, 2, none⟩ (.string ⟨e.name.toArray⟩)).setCell ⟨w.heap.size, 3, none⟩ (.int .i64 e.val.kind)).setCell ⟨w.heap.size, 4, none⟩ (.int .i64 e.val.int)).setCell ⟨w.heap.size, 5, none⟩ (.bool e.val.bool)).setCell ⟨w.heap.size, 6, none⟩ (.string ⟨e.val.text.toArray⟩)).setCell ⟨w.heap.size, 7, none⟩ (.float .f64 e.val.num)) := (ext_set_ne (ext_set_ne (ext_set_ne (ext_set_ne (ext_set_ne (ext_set_ne (ext_set_ne (ext_set_ne (Ext.refl _ _) 0 _) 1 _) 2 _) 3 _) 4 _) 5 _) 6 _) 7 _)
 have LF : Loc1 w.heap.size 44 #[.int .i64 e.op, .slice B e.kids.length c, .string ⟨e.name.toArray⟩, .int .i64 e.val.kind, .int .i64 e.val.int, .bool e.val.bool, .string ⟨e.val.text.toArray⟩, .float .f64 e.val.num] ((((((((w3.setCell ⟨w.heap.size, 0, none⟩ (.int .i64 e.op)).setCell ⟨w.heap.size, 1, none⟩ (.slice B e.kids.length c)).setCell ⟨w.heap.size, 2, none⟩ (.string ⟨e.name.toArray⟩)).setCell ⟨w.heap.size, 3, none⟩ (.int .i64 e.val.kind)).setCell ⟨w.heap.size, 4, none⟩ (.int .i64 e.val.int)).setCell ⟨w.heap.size, 5, none⟩ (.bool e.val.bool)).setCell ⟨w.heap.size, 6, none⟩ (.string ⟨e.val.text.toArray⟩)).setCell ⟨w.heap.size, 7, none⟩ (.float .f64 e.val.num)) := by
  have := (heap_set (heap_set (heap_set (heap_set (heap_set (heap_set (heap_set (heap_set L3 0 (.int .i64 e.op)) 1 (.slice B e.kids.length c)) 2 (.string ⟨e.name.toArray⟩)) 3 (.int .i64 e.val.kind)) 4 (.int .i64 e.val.int)) 5 (.bool e.val.bool)) 6 (.string ⟨e.val.text.toArray⟩)) 7 (.float .f64 e.val.num))
  unfold Loc1
  simpa using this
 have JF := J3.off XS (by omega) (fun k hk => by have := hk.2; omega) (by omega)
 have hxF := ext_off2 hx5 XS (by omega)
 have HS4 := Lib.hid (show Sl (kExp k) (fun k => w0.heap.size ≤ k) ((((((((w3.setCell ⟨w.heap.size, 0, none⟩ (.int .i64 e.op)).setCell ⟨w.heap.size, 1, none⟩ (.slice B e.kids.length c)).setCell ⟨w.heap.size, 2, none⟩ (.string ⟨e.name.toArray⟩)).setCell ⟨w.heap.size, 3, none⟩ (.int .i64 e.val.kind)).setCell ⟨w.heap.size, 4, none⟩ (.int .i64 e.val.int)).setCell ⟨w.heap.size, 5, none⟩ (.bool e.val.bool)).setCell ⟨w.heap.size, 6, none⟩ (.string ⟨e.val.text.toArray⟩)).setCell ⟨w.heap.size, 7, none⟩ (.float .f64 e.val.num)) (.slice B e.kids.length c) e.kids from HS3.out.ext (XS.weak fun k _ hk => by have hk' : w0.heap.size ≤ k := hk; omega))
 clear XS L3 J3 hx5
 obtain ⟨q0, q1, q2, q3, q4, q5, q6, q7⟩ := cells8 LF
 have hk5 := HK.out
 subst hk5
 rw [E1.out]
 exact bodyPost_ret (v := .agg #[.int .i64 e.op, .slice B e.kids.length c, .string ⟨e.name.toArray⟩, .int .i64 e.val.kind, .int .i64 e.val.int, .bool e.val.bool, .string ⟨e.val.text.toArray⟩, .float .f64 e.val.num]) (by simp [results, Tryz.results135, go_sem, q0, q1, q2, q3, q4, q5, q6, q7]) rfl ⟨⟨_, rfl, exp_mk (HS4.out.weak fun k hk => by have hk' : w0.heap.size ≤ k := hk; omega)⟩, JF.weak (fun k hk => hk.1) hfar, hxF⟩
end
end Go.Proofs.YtjnhgfmjehaalaaGreat
