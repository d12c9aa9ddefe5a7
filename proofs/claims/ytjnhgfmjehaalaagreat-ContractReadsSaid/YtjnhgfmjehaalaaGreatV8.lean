/- Package contract, walked: its source: lists of texts, of numbers. -/
import Derived.Test.YtjnhgfmjehaalaaGreatV7
import Derived.Test.YtjnhgfmjehaalaaGreatMI
namespace Go.Proofs.YtjnhgfmjehaalaaGreat
open Go.RowKit
set_option linter.unusedVariables false
set_option linter.unusedSimpArgs false
section
variable {α : Type}
def cN (f : CS → α × CS) (S : CS) : Nat → List α × CS
 | 0 => ([], S)
 | i + 1 => if (cN f S i).2.2 ≠ 0 then cN f S i else ((cN f S i).1 ++ [(f (cN f S i).2).1], (f (cN f S i).2).2)
def cMany (m : Int) (f : CS → α × CS) (S : CS) : List α × CS := if S.2 ≠ 0 then ([], S) else cN f ((rCount m S.1).2, (rCount m S.1).2.2) (rCount m S.1).1
theorem cN_next (f : CS → α × CS) (S : CS) (i : Nat) : cN f S i = cN f S i ∧ ((cN f S i).2.2 = 0 → cN f S (i + 1) = ((cN f S i).1 ++ [(f (cN f S i).2).1], (f (cN f S i).2).2)) := ⟨rfl, fun h => by rw [cN, if_neg (by simpa using h)]⟩
theorem cN_len (f : CS → α × CS) (S : CS) : ∀ i, (cN f S i).1.length ≤ i
 | 0 => Nat.le_refl _
 | i + 1 => by
  rw [cN]
  split
  ·exact Nat.le_succ_of_le (cN_len f S i)
  ·rw [List.length_append]; have := cN_len f S i; simp; omega
theorem cN_stop (f : CS → α × CS) (S : CS) (i : Nat) (h : ¬ (cN f S i).2.2 = 0) : ∀ n, i ≤ n → cN f S n = cN f S i := fun n hn => by
 induction hn with
 | refl => rfl
 | step _ ih => rw [cN, ih, if_pos h]
end
theorem rCount_le8 {m : Int} (s : RS) (hm : m ≤ 8) : (rCount m s).1 ≤ 8 := by
 unfold rCount
 split
 ·simp
 ·split
  ·simp
  ·split
   ·simp
   ·rename_i h
    show num (s.1.take 4) ≤ 8
    omega
section
variable {ok : Nat → Prop} {w W W' : World} {b g : Nat} {S S' : CS}
theorem CJ.grown (h : CJ ok b g S W) {B : Nat} (x : Ext (fun k => k < B) W W') (hb : b < B) (hg : g < B) (hk : ∀ k, ok k → k < B) : CJ ok b g S W' :=
 ⟨fun he => by
   obtain ⟨A, c, hh, hs, hl⟩ := h.rd he
   exact ⟨A, c, (x.block g (lt_of_heap hh) hg).trans hh, hs.ext (x.weak fun k _ h => hk k h.1), hl⟩, (x.block b (lt_of_heap h.src) hb).trans h.src, h.ne, h.far, Nat.lt_of_lt_of_le h.glt x.size⟩
def RetMany {α : Type} (d : Kd α) (T : TypeId) (ok : Nat → Prop) (b g : Nat) (w : World) (r : List α × CS) (e : Ending) (w' : World) : Prop :=
 ∃ v, e = .returned v ∧ Own d T (fun k => w.heap.size ≤ k) w' w.heap.size v r.1 ∧ CJ ok b g r.2 w' ∧ Ext (fun k => k ≠ g ∧ k ≠ b) w w'
def RelM {α : Type} (ok : Nat → Prop) (b g : Nat) (w : World) (r : List α × CS) (f : CS → α × CS) (s7 : Value) (W : World) : Prop :=
 ∃ (n : Nat) (S0 : CS), s7 = .int .i64 (n : Int) ∧ n ≤ 8 ∧ r = cN f S0 n ∧ CJ (fun k => ok k ∧ k < w.heap.size) b g S0 W ∧ Ext (fun k => k ≠ g ∧ k ≠ b) w W
def RelL {α : Type} (d : Kd α) (T : TypeId) (ok : Nat → Prop) (b g : Nat) (w : World) (f : CS → α × CS) (S0 : CS) (n : Nat) (v8 v6 : Value) (wz : World) : Prop :=
 ∃ i : Nat, i ≤ n ∧ v8 = .int .i64 (i : Int) ∧ Own d T (fun k => w.heap.size ≤ k) wz w.heap.size v6 (cN f S0 i).1 ∧ CJ (fun k => ok k ∧ k < w.heap.size) b g (cN f S0 i).2 wz ∧ Ext (fun k => k ≠ g ∧ k ≠ b) w wz
set_option maxRecDepth 20000 in
set_option maxHeartbeats 8000000 in
theorem manyS_c (m : Int) (hm : m ≤ 8) (J0 : CJ ok b g S w) : Calls Tryz.prog 131 #[.pointer (some ⟨b, 0, none⟩), .int .i64 m, .func (.func 132) #[.pointer (some ⟨b, 0, none⟩)] #[]] w (RetMany kStr 9 ok b g w (cMany m (cText 32) S)) := by
 have SF := store_f64
 have hbw := J0.blt
 have hgw := J0.glt
 have hfar := J0.far
 have J := J0.bound
 clear J0
 generalize hr : cMany m (cText 32) S = r at *
 have j0 := cell_of J.src 0
 have j1 := cell_of J.src 1
 simp only [List.getElem?_toArray, List.getElem?_cons_zero, List.getElem?_cons_succ] at j0 j1
 go_enter Tryz.func131, Tryz.ntmps131
 go_upto_if 13 with (fail)
 go_cut [7] from 8 (fun s7 W => RelM ok b g w r (cText 32) s7 W)
 case first =>
  by_cases he : S.2 = 0
  rotate_left
  ·have he1 : (S.2 == 0) = false := by simpa using he
   have E1 := Lib.hid (show r = cN (cText 32) S 0 by rw [← hr]; unfold cMany; rw [if_pos he]; rfl)
   clear he hr
   go_wp2_with fail
   first | apply_assumption | (try simp only [Exit.then]; apply_assumption; apply_assumption)
   (repeat apply Exists.intro)
   refine ⟨?_, rfl⟩
   exact ⟨0, S, rfl, by omega, E1.out, J, Ext.refl _ _⟩
  ·have he1 : (S.2 == 0) = true := by simpa using he
   have E1 := Lib.hid (show r = cN (cText 32) ((rCount m S.1).2, (rCount m S.1).2.2) (rCount m S.1).1 by rw [← hr]; unfold cMany; rw [if_neg (by simpa using he)])
   have HC := Lib.hid (count_c g m S.1 (J.rd he))
   have hn8 : (rCount m S.1).1 ≤ 8 := rCount_le8 S.1 hm
   have hlt := rCount_lt m S.1
   generalize rCount m S.1 = p at *
   have hh := Lib.hid he
   clear he hr
   go_wp2_with fail
   refine HC.out.mono ?_
   rintro x9 w1 ⟨rfl, hr1, hx1⟩
   have J1 := J.call hr1 hx1 hh.out
   have k0 := cell_of J1.src 0
   simp only [List.getElem?_toArray, List.getElem?_cons_zero] at k0
   go_wp2_with fail
   refine (err_c g _ hr1).mono ?_
   rintro x9 w9 ⟨rfl, rfl⟩
   go_wp2_with fail
   refine (keep_c p.2.2 J1 rfl p.2 fun _ => hr1).mono ?_
   rintro x9 w2 ⟨rfl, J2, hx2⟩
   have HX := (hx1.weak (ok' := fun k => k ≠ g ∧ k ≠ b) fun k _ hk => hk.1).trans hx2
   clear k0
   go_wp2_with fail
   first | apply_assumption | (try simp only [Exit.then]; apply_assumption; apply_assumption)
   (repeat apply Exists.intro)
   refine ⟨?_, rfl⟩
   exact ⟨p.1, _, rfl, hn8, E1.out, J2, HX⟩
 case rest =>
 obtain ⟨n, S0, rfl, hn8, hE, J1, hx1⟩ := hcut
 obtain ⟨w1, hwx⟩ : ∃ x, x = wc := ⟨_, rfl⟩
 subst hwx
 have E := Lib.hid hE
 clear hE hr J j0 j1
 have hs1 := hx1.size
 go_wp2_with fail
 go_loopw [8, 6] (fun v8 v6 wz => RelL kStr 9 ok b g w (cText 32) S0 n v8 v6 wz) (fun v8 _ _ => n - (intOf v8).toNat)
 case atStart => exact ⟨0, Nat.zero_le _, rfl, Own.nil _ _ _ _ _, J1, hx1⟩
 case round =>
  obtain ⟨wo, hwx⟩ : ∃ x, x = wr := ⟨_, rfl⟩
  subst hwx
  clear J1 hx1
  obtain ⟨i, hi, rfl, ho, J, hx⟩ := hrel
  have hsz := hx.size
  have EI := Lib.hid (cN_next (cText 32) S0 i).2
  have E0 := Lib.hid (fun (h : i = n) => show r = cN (cText 32) S0 i by rw [E.out, h])
  have EL := Lib.hid (cN_len (cText 32) S0 i)
  have ES := Lib.hid (fun (h : ¬ (cN (cText 32) S0 i).2.2 = 0) => show r = cN (cText 32) S0 i from E.out.trans (cN_stop (cText 32) S0 i h n hi))
  generalize cN (cText 32) S0 i = q at *
  obtain ⟨l, Si⟩ := q
  have HO := Lib.hid (show Own kStr 9 (fun k => w.heap.size ≤ k) wo w.heap.size _ l from ho)
  obtain ⟨Ak, nk, ck, rfl, hnk⟩ := ho.form'
  clear ho hnk
  have j0 := cell_of J.src 0
  have j1 := cell_of J.src 1
  simp only [List.getElem?_toArray, List.getElem?_cons_zero, List.getElem?_cons_succ] at j0 j1
  by_cases hin : i < n
  rotate_left
  ·have hi2 : i = n := by omega
   have E1 := Lib.hid (show r = (l, Si) from E0.out hi2)
   have hin1 : ¬ (i : Int) < (n : Int) := by omega
   clear hi2 hin
   go_wp2_with fail
   go_ret
   rw [E1.out]
   exact ⟨_, rfl, HO.out, J.weak (fun k hk => hk.1) hfar, hx⟩
  by_cases hes : Si.2 = 0
  rotate_left
  ·have he1 : (Si.2 == 0) = false := by simpa using hes
   have E1 := Lib.hid (show r = (l, Si) from ES.out hes)
   have hin1 : (i : Int) < (n : Int) := by omega
   clear hes hin
   go_wp2_with fail
   go_ret
   rw [E1.out]
   exact ⟨_, rfl, HO.out, J.weak (fun k hk => hk.1) hfar, hx⟩
  have he1 : (Si.2 == 0) = true := by simpa using hes
  have hin1 : (i : Int) < (n : Int) := by omega
  have EN := Lib.hid (EI.out hes)
  have HG := Lib.hid (cword_c J)
  clear hes
  go_wp2_with fail
  refine HG.out.mono ?_
  rintro x9 w2 ⟨rfl, J2, hx2⟩
  have hs2 := hx2.size
  have AB := Lib.hid (append_fresh (P := Tryz.prog) (d := kStr) (e := 9) (t := 36) (tx := 36) (ty := 36) (w := w2) (base := w.heap.size) (b0 := wo.heap.size) Tryz.underlying36 Tryz.underlying36 infoStr rfl (HO.out.ext (hx2.weak fun k _ hk => by
   rcases hk with hk | hk
   ·have hk' : w.heap.size ≤ k := hk
    exact ⟨by omega, by omega⟩
   ·have hk' := (HO.out.lt k hk.symm).1
    exact ⟨by omega, by omega⟩)) (by omega) (c := [.string ⟨(cText 32 Si).1.toArray⟩]) (show kStr.R _ _ _ (cText 32 Si).1 from rfl) hsz (fun k hk => (HO.out.lt k hk).2) (by have : l.length ≤ i := EL.out; omega) (by have : l.length ≤ i := EL.out; omega))
  go_wp2_with (at_builtin; refine at_append rfl (.tmp 39) (.tmp 42) 36 36 rfl rfl rfl AB.out ?_; rintro v' w'' ⟨ho2, hg2⟩; have HO2 := Lib.hid ho2; have HG2 := Lib.hid hg2; clear ho2 hg2)
  have XG : Ext (fun k => k < w.heap.size) w2 w'' := ⟨HG2.out.os, HG2.out.tape, HG2.out.output, HG2.out.size, fun k hk hkb => HG2.out.block k hk (fun e => by have := (HO.out.lt k e.symm).1; omega)⟩
  have JF := J2.grown XG hbw hgw (fun k hk => hk.2)
  have HXF : Ext (fun k => k ≠ g ∧ k ≠ b) w w'' := ⟨XG.os.trans (hx.trans hx2).os, XG.tape.trans (hx.trans hx2).tape, XG.output.trans (hx.trans hx2).output, Nat.le_trans (hx.trans hx2).size XG.size, fun k hk ho => (XG.block k (Nat.lt_of_lt_of_le hk (hx.trans hx2).size) hk).trans ((hx.trans hx2).block k hk ho)⟩
  go_roundw
  case rel => exact ⟨i + 1, by omega, by go_num, EN.out ▸ HO2.out, EN.out ▸ JF, HXF⟩
  case measure => simp [intOf]; omega
set_option maxRecDepth 20000 in
set_option maxHeartbeats 8000000 in
theorem manyI_c (m : Int) (hm : m ≤ 8) (J0 : CJ ok b g S w) : Calls Tryz.prog 134 #[.pointer (some ⟨b, 0, none⟩), .int .i64 m, .func (.func 130) #[.pointer (some ⟨b, 0, none⟩)] #[]] w (RetMany kI 3 ok b g w (cMany m cNum S)) := by
 have SF := store_f64
 have hbw := J0.blt
 have hgw := J0.glt
 have hfar := J0.far
 have J := J0.bound
 clear J0
 generalize hr : cMany m cNum S = r at *
 have j0 := cell_of J.src 0
 have j1 := cell_of J.src 1
 simp only [List.getElem?_toArray, List.getElem?_cons_zero, List.getElem?_cons_succ] at j0 j1
 go_enter Tryz.func134, Tryz.ntmps134
 go_upto_if 13 with (fail)
 go_cut [7] from 8 (fun s7 W => RelM ok b g w r cNum s7 W)
 case first =>
  by_cases he : S.2 = 0
  rotate_left
  ·have he1 : (S.2 == 0) = false := by simpa using he
   have E1 := Lib.hid (show r = cN cNum S 0 by rw [← hr]; unfold cMany; rw [if_pos he]; rfl)
   clear he hr
   go_wp2_with fail
   first | apply_assumption | (try simp only [Exit.then]; apply_assumption; apply_assumption)
   (repeat apply Exists.intro)
   refine ⟨?_, rfl⟩
   exact ⟨0, S, rfl, by omega, E1.out, J, Ext.refl _ _⟩
  ·have he1 : (S.2 == 0) = true := by simpa using he
   have E1 := Lib.hid (show r = cN cNum ((rCount m S.1).2, (rCount m S.1).2.2) (rCount m S.1).1 by rw [← hr]; unfold cMany; rw [if_neg (by simpa using he)])
   have HC := Lib.hid (count_c g m S.1 (J.rd he))
   have hn8 : (rCount m S.1).1 ≤ 8 := rCount_le8 S.1 hm
   have hlt := rCount_lt m S.1
   generalize rCount m S.1 = p at *
   have hh := Lib.hid he
   clear he hr
   go_wp2_with fail
   refine HC.out.mono ?_
   rintro x9 w1 ⟨rfl, hr1, hx1⟩
   have J1 := J.call hr1 hx1 hh.out
   have k0 := cell_of J1.src 0
   simp only [List.getElem?_toArray, List.getElem?_cons_zero] at k0
   go_wp2_with fail
   refine (err_c g _ hr1).mono ?_
   rintro x9 w9 ⟨rfl, rfl⟩
   go_wp2_with fail
   refine (keep_c p.2.2 J1 rfl p.2 fun _ => hr1).mono ?_
   rintro x9 w2 ⟨rfl, J2, hx2⟩
   have HX := (hx1.weak (ok' := fun k => k ≠ g ∧ k ≠ b) fun k _ hk => hk.1).trans hx2
   clear k0
   go_wp2_with fail
   first | apply_assumption | (try simp only [Exit.then]; apply_assumption; apply_assumption)
   (repeat apply Exists.intro)
   refine ⟨?_, rfl⟩
   exact ⟨p.1, _, rfl, hn8, E1.out, J2, HX⟩
 case rest =>
 obtain ⟨n, S0, rfl, hn8, hE, J1, hx1⟩ := hcut
 obtain ⟨w1, hwx⟩ : ∃ x, x = wc := ⟨_, rfl⟩
 subst hwx
 have E := Lib.hid hE
 clear hE hr J j0 j1
 have hs1 := hx1.size
 go_wp2_with fail
 go_loopw [8, 6] (fun v8 v6 wz => RelL kI 3 ok b g w cNum S0 n v8 v6 wz) (fun v8 _ _ => n - (intOf v8).toNat)
 case atStart => exact ⟨0, Nat.zero_le _, rfl, Own.nil _ _ _ _ _, J1, hx1⟩
 case round =>
  obtain ⟨wo, hwx⟩ : ∃ x, x = wr := ⟨_, rfl⟩
  subst hwx
  clear J1 hx1
  obtain ⟨i, hi, rfl, ho, J, hx⟩ := hrel
  have hsz := hx.size
  have EI := Lib.hid (cN_next cNum S0 i).2
  have E0 := Lib.hid (fun (h : i = n) => show r = cN cNum S0 i by rw [E.out, h])
  have EL := Lib.hid (cN_len cNum S0 i)
  have ES := Lib.hid (fun (h : ¬ (cN cNum S0 i).2.2 = 0) => show r = cN cNum S0 i from E.out.trans (cN_stop cNum S0 i h n hi))
  generalize cN cNum S0 i = q at *
  obtain ⟨l, Si⟩ := q
  have HO := Lib.hid (show Own kI 3 (fun k => w.heap.size ≤ k) wo w.heap.size _ l from ho)
  obtain ⟨Ak, nk, ck, rfl, hnk⟩ := ho.form'
  clear ho hnk
  have j0 := cell_of J.src 0
  have j1 := cell_of J.src 1
  simp only [List.getElem?_toArray, List.getElem?_cons_zero, List.getElem?_cons_succ] at j0 j1
  by_cases hin : i < n
  rotate_left
  ·have hi2 : i = n := by omega
   have E1 := Lib.hid (show r = (l, Si) from E0.out hi2)
   have hin1 : ¬ (i : Int) < (n : Int) := by omega
   clear hi2 hin
   go_wp2_with fail
   go_ret
   rw [E1.out]
   exact ⟨_, rfl, HO.out, J.weak (fun k hk => hk.1) hfar, hx⟩
  by_cases hes : Si.2 = 0
  rotate_left
  ·have he1 : (Si.2 == 0) = false := by simpa using hes
   have E1 := Lib.hid (show r = (l, Si) from ES.out hes)
   have hin1 : (i : Int) < (n : Int) := by omega
   clear hes hin
   go_wp2_with fail
   go_ret
   rw [E1.out]
   exact ⟨_, rfl, HO.out, J.weak (fun k hk => hk.1) hfar, hx⟩
  have he1 : (Si.2 == 0) = true := by simpa using hes
  have hin1 : (i : Int) < (n : Int) := by omega
  have EN := Lib.hid (EI.out hes)
  have HG := Lib.hid (cnum_c J)
  clear hes
  go_wp2_with fail
  refine HG.out.mono ?_
  rintro x9 w2 ⟨rfl, J2, hx2⟩
  have hs2 := hx2.size
  have AB := Lib.hid (append_fresh (P := Tryz.prog) (d := kI) (e := 3) (t := 66) (tx := 66) (ty := 66) (w := w2) (base := w.heap.size) (b0 := wo.heap.size) Tryz.underlying66 Tryz.underlying66 infoInt rfl (HO.out.ext (hx2.weak fun k _ hk => by
   rcases hk with hk | hk
   ·have hk' : w.heap.size ≤ k := hk
    exact ⟨by omega, by omega⟩
   ·have hk' := (HO.out.lt k hk.symm).1
    exact ⟨by omega, by omega⟩)) (by omega) (c := [.int .i64 (cNum Si).1]) (show kI.R _ _ _ (cNum Si).1 from rfl) hsz (fun k hk => (HO.out.lt k hk).2) (by have : l.length ≤ i := EL.out; omega) (by have : l.length ≤ i := EL.out; omega))
  go_wp2_with (at_builtin; refine at_append rfl (.tmp 39) (.tmp 42) 66 66 rfl rfl rfl AB.out ?_; rintro v' w'' ⟨ho2, hg2⟩; have HO2 := Lib.hid ho2; have HG2 := Lib.hid hg2; clear ho2 hg2)
  have XG : Ext (fun k => k < w.heap.size) w2 w'' := ⟨HG2.out.os, HG2.out.tape, HG2.out.output, HG2.out.size, fun k hk hkb => HG2.out.block k hk (fun e => by have := (HO.out.lt k e.symm).1; omega)⟩
  have JF := J2.grown XG hbw hgw (fun k hk => hk.2)
  have HXF : Ext (fun k => k ≠ g ∧ k ≠ b) w w'' := ⟨XG.os.trans (hx.trans hx2).os, XG.tape.trans (hx.trans hx2).tape, XG.output.trans (hx.trans hx2).output, Nat.le_trans (hx.trans hx2).size XG.size, fun k hk ho => (XG.block k (Nat.lt_of_lt_of_le hk (hx.trans hx2).size) hk).trans ((hx.trans hx2).block k hk ho)⟩
  go_roundw
  case rel => exact ⟨i + 1, by omega, by go_num, EN.out ▸ HO2.out, EN.out ▸ JF, HXF⟩
  case measure => simp [intOf]; omega
end
end Go.Proofs.YtjnhgfmjehaalaaGreat
