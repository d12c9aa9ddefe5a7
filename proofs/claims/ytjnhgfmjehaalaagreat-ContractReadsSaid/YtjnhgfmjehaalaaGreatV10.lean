/- Package contract, walked: its source: lists of fields, stages, effects. -/
import Derived.Test.YtjnhgfmjehaalaaGreatV9
namespace Go.Proofs.YtjnhgfmjehaalaaGreat
open Go.RowKit
set_option linter.unusedVariables false
set_option linter.unusedSimpArgs false
theorem infoFldT : (Tryz.prog.info? 41).map (fun i => (i.zero, i.size, i.bytes)) = some (some (.agg #[.string ⟨#[]⟩, .int .i64 0, .slice none 0 0, .int .i64 0, .int .i64 0, .bool false, .string ⟨#[]⟩, .float .f64 0]), kFld.sz, 96) := by kernel_rfl
theorem infoStgT : (Tryz.prog.info? 68).map (fun i => (i.zero, i.size, i.bytes)) = some (some (.agg #[.string ⟨#[]⟩, .int .i64 0, .slice none 0 0]), kStg.sz, 48) := by kernel_rfl
theorem infoEffT : (Tryz.prog.info? 51).map (fun i => (i.zero, i.size, i.bytes)) = some (some (.agg #[.string ⟨#[]⟩, .int .i64 0, .slice none 0 0, .string ⟨#[]⟩, .int .i64 0, .int .i64 0, .bool false, .string ⟨#[]⟩, .float .f64 0]), (kEff 6).sz, 112) := by rw [kEff_sz]; kernel_rfl
section
variable {ok : Nat → Prop} {w W W' : World} {b g : Nat} {S S' : CS}
set_option maxRecDepth 20000 in
set_option maxHeartbeats 8000000 in
theorem manyF_c (m : Int) (hm : m ≤ 8) (J0 : CJ ok b g S w) : Calls Tryz.prog 75 #[.pointer (some ⟨b, 0, none⟩), .int .i64 m, .func (.func 76) #[.pointer (some ⟨b, 0, none⟩)] #[]] w (RetMany kFld 41 ok b g w (cMany m cField S)) := by
 have SF := store_f64
 have hbw := J0.blt
 have hgw := J0.glt
 have hfar := J0.far
 have J := J0.bound
 clear J0
 generalize hr : cMany m cField S = r at *
 have j0 := cell_of J.src 0
 have j1 := cell_of J.src 1
 simp only [List.getElem?_toArray, List.getElem?_cons_zero, List.getElem?_cons_succ] at j0 j1
 go_enter Tryz.func75, Tryz.ntmps75
 go_upto_if 13 with (fail)
 go_cut [7] from 8 (fun s7 W => RelM ok b g w r cField s7 W)
 case first =>
  by_cases he : S.2 = 0
  rotate_left
  ·have he1 : (S.2 == 0) = false := by simpa using he
   have E1 := Lib.hid (show r = cN cField S 0 by rw [← hr]; unfold cMany; rw [if_pos he]; rfl)
   clear he hr
   go_wp2_with fail
   first | apply_assumption | (try simp only [Exit.then]; apply_assumption; apply_assumption)
   (repeat apply Exists.intro)
   refine ⟨?_, rfl⟩
   exact ⟨0, S, rfl, by omega, E1.out, J, Ext.refl _ _⟩
  ·have he1 : (S.2 == 0) = true := by simpa using he
   have E1 := Lib.hid (show r = cN cField ((rCount m S.1).2, (rCount m S.1).2.2) (rCount m S.1).1 by rw [← hr]; unfold cMany; rw [if_neg (by simpa using he)])
   have HC := Lib.hid (count_c g m S.1 (J.rd he))
   have hn8 : (rCount m S.1).1 ≤ 8 := rCount_le8 S.1 hm
   have hlt := rCount_lt m S.1
   generalize rCount m S.1 = p at *
   have hh := Lib.hid he
   clear he hr
   go_wp2_with fail
   refine HC.out.mono ?_
   rintro x9 w1 ⟨rfl, hr1, hx1⟩
   have J1 := J.call hr1 hx1 hh.out
   have k0 := cell_of J1.src 0
   simp only [List.getElem?_toArray, List.getElem?_cons_zero] at k0
   go_wp2_with fail
   refine (err_c g _ hr1).mono ?_
   rintro x9 w9 ⟨rfl, rfl⟩
   go_wp2_with fail
   refine (keep_c p.2.2 J1 rfl p.2 fun _ => hr1).mono ?_
   rintro x9 w2 ⟨rfl, J2, hx2⟩
   have HX := (hx1.weak (ok' := fun k => k ≠ g ∧ k ≠ b) fun k _ hk => hk.1).trans hx2
   clear k0
   go_wp2_with fail
   first | apply_assumption | (try simp only [Exit.then]; apply_assumption; apply_assumption)
   (repeat apply Exists.intro)
   refine ⟨?_, rfl⟩
   exact ⟨p.1, _, rfl, hn8, E1.out, J2, HX⟩
 case rest =>
 obtain ⟨n, S0, rfl, hn8, hE, J1, hx1⟩ := hcut
 obtain ⟨w1, hwx⟩ : ∃ x, x = wc := ⟨_, rfl⟩
 subst hwx
 have E := Lib.hid hE
 clear hE hr J j0 j1
 have hs1 := hx1.size
 go_wp2_with fail
 go_loopw [8, 6] (fun v8 v6 wz => RelL kFld 41 ok b g w cField S0 n v8 v6 wz) (fun v8 _ _ => n - (intOf v8).toNat)
 case atStart => exact ⟨0, Nat.zero_le _, rfl, Own.nil _ _ _ _ _, J1, hx1⟩
 case round =>
  obtain ⟨wo, hwx⟩ : ∃ x, x = wr := ⟨_, rfl⟩
  subst hwx
  clear J1 hx1
  obtain ⟨i, hi, rfl, ho, J, hx⟩ := hrel
  have hsz := hx.size
  have EI := Lib.hid (cN_next cField S0 i).2
  have E0 := Lib.hid (fun (h : i = n) => show r = cN cField S0 i by rw [E.out, h])
  have EL := Lib.hid (cN_len cField S0 i)
  have ES := Lib.hid (fun (h : ¬ (cN cField S0 i).2.2 = 0) => show r = cN cField S0 i from E.out.trans (cN_stop cField S0 i h n hi))
  generalize cN cField S0 i = q at *
  obtain ⟨l, Si⟩ := q
  have HO := Lib.hid (show Own kFld 41 (fun k => w.heap.size ≤ k) wo w.heap.size _ l from ho)
  obtain ⟨Ak, nk, ck, rfl, hnk⟩ := ho.form'
  clear ho hnk
  have j0 := cell_of J.src 0
  have j1 := cell_of J.src 1
  simp only [List.getElem?_toArray, List.getElem?_cons_zero, List.getElem?_cons_succ] at j0 j1
  by_cases hin : i < n
  rotate_left
  ·have hi2 : i = n := by omega
   have E1 := Lib.hid (show r = (l, Si) from E0.out hi2)
   have hin1 : ¬ (i : Int) < (n : Int) := by omega
   clear hi2 hin
   go_wp2_with fail
   go_ret
   rw [E1.out]
   exact ⟨_, rfl, HO.out, J.weak (fun k hk => hk.1) hfar, hx⟩
  by_cases hes : Si.2 = 0
  rotate_left
  ·have he1 : (Si.2 == 0) = false := by simpa using hes
   have E1 := Lib.hid (show r = (l, Si) from ES.out hes)
   have hin1 : (i : Int) < (n : Int) := by omega
   clear hes hin
   go_wp2_with fail
   go_ret
   rw [E1.out]
   exact ⟨_, rfl, HO.out, J.weak (fun k hk => hk.1) hfar, hx⟩
  have he1 : (Si.2 == 0) = true := by simpa using hes
  have hin1 : (i : Int) < (n : Int) := by omega
  have EN := Lib.hid (EI.out hes)
  have HG := Lib.hid (cfield_c J)
  clear hes
  go_wp2_with fail
  refine HG.out.mono ?_
  rintro x9 w2 ⟨⟨cs, rfl, hR⟩, J2, hx2⟩; have hRK := Lib.hid hR; obtain ⟨B1, c1, rfl, -⟩ := fld_open hR; clear hR
  have hs2 := hx2.size
  have AB := Lib.hid (append_fresh (P := Tryz.prog) (d := kFld) (e := 41) (t := 22) (tx := 22) (ty := 22) (w := w2) (base := w.heap.size) (b0 := wo.heap.size) Tryz.underlying22 Tryz.underlying22 infoFldT rfl (HO.out.ext (hx2.weak fun k _ hk => by
   rcases hk with hk | hk
   ·have hk' : w.heap.size ≤ k := hk
    exact ⟨by omega, by omega⟩
   ·have hk' := (HO.out.lt k hk.symm).1
    exact ⟨by omega, by omega⟩)) (by omega) (c := _) hRK.out hsz (fun k hk => (HO.out.lt k hk).2) (by have : l.length ≤ i := EL.out; omega) (by have : l.length ≤ i := EL.out; omega))
  go_wp2_with (at_builtin; refine at_append rfl (.tmp 39) (.tmp 42) 22 22 rfl rfl rfl AB.out ?_; rintro v' w'' ⟨ho2, hg2⟩; have HO2 := Lib.hid ho2; have HG2 := Lib.hid hg2; clear ho2 hg2)
  have XG : Ext (fun k => k < w.heap.size) w2 w'' := ⟨HG2.out.os, HG2.out.tape, HG2.out.output, HG2.out.size, fun k hk hkb => HG2.out.block k hk (fun e => by have := (HO.out.lt k e.symm).1; omega)⟩
  have JF := J2.grown XG hbw hgw (fun k hk => hk.2)
  have HXF : Ext (fun k => k ≠ g ∧ k ≠ b) w w'' := ⟨XG.os.trans (hx.trans hx2).os, XG.tape.trans (hx.trans hx2).tape, XG.output.trans (hx.trans hx2).output, Nat.le_trans (hx.trans hx2).size XG.size, fun k hk ho => (XG.block k (Nat.lt_of_lt_of_le hk (hx.trans hx2).size) hk).trans ((hx.trans hx2).block k hk ho)⟩
  go_roundw
  case rel => exact ⟨i + 1, by omega, by go_num, EN.out ▸ HO2.out, EN.out ▸ JF, HXF⟩
  case measure => simp [intOf]; omega
set_option maxRecDepth 20000 in
set_option maxHeartbeats 8000000 in
theorem manyT_c (m : Int) (hm : m ≤ 8) (J0 : CJ ok b g S w) : Calls Tryz.prog 77 #[.pointer (some ⟨b, 0, none⟩), .int .i64 m, .func (.func 78) #[.pointer (some ⟨b, 0, none⟩)] #[]] w (RetMany kStg 68 ok b g w (cMany m cStage S)) := by
 have SF := store_f64
 have hbw := J0.blt
 have hgw := J0.glt
 have hfar := J0.far
 have J := J0.bound
 clear J0
 generalize hr : cMany m cStage S = r at *
 have j0 := cell_of J.src 0
 have j1 := cell_of J.src 1
 simp only [List.getElem?_toArray, List.getElem?_cons_zero, List.getElem?_cons_succ] at j0 j1
 go_enter Tryz.func77, Tryz.ntmps77
 go_upto_if 13 with (fail)
 go_cut [7] from 8 (fun s7 W => RelM ok b g w r cStage s7 W)
 case first =>
  by_cases he : S.2 = 0
  rotate_left
  ·have he1 : (S.2 == 0) = false := by simpa using he
   have E1 := Lib.hid (show r = cN cStage S 0 by rw [← hr]; unfold cMany; rw [if_pos he]; rfl)
   clear he hr
   go_wp2_with fail
   first | apply_assumption | (try simp only [Exit.then]; apply_assumption; apply_assumption)
   (repeat apply Exists.intro)
   refine ⟨?_, rfl⟩
   exact ⟨0, S, rfl, by omega, E1.out, J, Ext.refl _ _⟩
  ·have he1 : (S.2 == 0) = true := by simpa using he
   have E1 := Lib.hid (show r = cN cStage ((rCount m S.1).2, (rCount m S.1).2.2) (rCount m S.1).1 by rw [← hr]; unfold cMany; rw [if_neg (by simpa using he)])
   have HC := Lib.hid (count_c g m S.1 (J.rd he))
   have hn8 : (rCount m S.1).1 ≤ 8 := rCount_le8 S.1 hm
   have hlt := rCount_lt m S.1
   generalize rCount m S.1 = p at *
   have hh := Lib.hid he
   clear he hr
   go_wp2_with fail
   refine HC.out.mono ?_
   rintro x9 w1 ⟨rfl, hr1, hx1⟩
   have J1 := J.call hr1 hx1 hh.out
   have k0 := cell_of J1.src 0
   simp only [List.getElem?_toArray, List.getElem?_cons_zero] at k0
   go_wp2_with fail
   refine (err_c g _ hr1).mono ?_
   rintro x9 w9 ⟨rfl, rfl⟩
   go_wp2_with fail
   refine (keep_c p.2.2 J1 rfl p.2 fun _ => hr1).mono ?_
   rintro x9 w2 ⟨rfl, J2, hx2⟩
   have HX := (hx1.weak (ok' := fun k => k ≠ g ∧ k ≠ b) fun k _ hk => hk.1).trans hx2
   clear k0
   go_wp2_with fail
   first | apply_assumption | (try simp only [Exit.then]; apply_assumption; apply_assumption)
   (repeat apply Exists.intro)
   refine ⟨?_, rfl⟩
   exact ⟨p.1, _, rfl, hn8, E1.out, J2, HX⟩
 case rest =>
 obtain ⟨n, S0, rfl, hn8, hE, J1, hx1⟩ := hcut
 obtain ⟨w1, hwx⟩ : ∃ x, x = wc := ⟨_, rfl⟩
 subst hwx
 have E := Lib.hid hE
 clear hE hr J j0 j1
 have hs1 := hx1.size
 go_wp2_with fail
 go_loopw [8, 6] (fun v8 v6 wz => RelL kStg 68 ok b g w cStage S0 n v8 v6 wz) (fun v8 _ _ => n - (intOf v8).toNat)
 case atStart => exact ⟨0, Nat.zero_le _, rfl, Own.nil _ _ _ _ _, J1, hx1⟩
 case round =>
  obtain ⟨wo, hwx⟩ : ∃ x, x = wr := ⟨_, rfl⟩
  subst hwx
  clear J1 hx1
  obtain ⟨i, hi, rfl, ho, J, hx⟩ := hrel
  have hsz := hx.size
  have EI := Lib.hid (cN_next cStage S0 i).2
  have E0 := Lib.hid (fun (h : i = n) => show r = cN cStage S0 i by rw [E.out, h])
  have EL := Lib.hid (cN_len cStage S0 i)
  have ES := Lib.hid (fun (h : ¬ (cN cStage S0 i).2.2 = 0) => show r = cN cStage S0 i from E.out.trans (cN_stop cStage S0 i h n hi))
  generalize cN cStage S0 i = q at *
  obtain ⟨l, Si⟩ := q
  have HO := Lib.hid (show Own kStg 68 (fun k => w.heap.size ≤ k) wo w.heap.size _ l from ho)
  obtain ⟨Ak, nk, ck, rfl, hnk⟩ := ho.form'
  clear ho hnk
  have j0 := cell_of J.src 0
  have j1 := cell_of J.src 1
  simp only [List.getElem?_toArray, List.getElem?_cons_zero, List.getElem?_cons_succ] at j0 j1
  by_cases hin : i < n
  rotate_left
  ·have hi2 : i = n := by omega
   have E1 := Lib.hid (show r = (l, Si) from E0.out hi2)
   have hin1 : ¬ (i : Int) < (n : Int) := by omega
   clear hi2 hin
   go_wp2_with fail
   go_ret
   rw [E1.out]
   exact ⟨_, rfl, HO.out, J.weak (fun k hk => hk.1) hfar, hx⟩
  by_cases hes : Si.2 = 0
  rotate_left
  ·have he1 : (Si.2 == 0) = false := by simpa using hes
   have E1 := Lib.hid (show r = (l, Si) from ES.out hes)
   have hin1 : (i : Int) < (n : Int) := by omega
   clear hes hin
   go_wp2_with fail
   go_ret
   rw [E1.out]
   exact ⟨_, rfl, HO.out, J.weak (fun k hk => hk.1) hfar, hx⟩
  have he1 : (Si.2 == 0) = true := by simpa using hes
  have hin1 : (i : Int) < (n : Int) := by omega
  have EN := Lib.hid (EI.out hes)
  have HG := Lib.hid (cstage_c J)
  clear hes
  go_wp2_with fail
  refine HG.out.mono ?_
  rintro x9 w2 ⟨⟨cs, rfl, hR⟩, J2, hx2⟩; have hRK := Lib.hid hR; obtain ⟨B1, c1, rfl, -⟩ := stg_open hR; clear hR
  have hs2 := hx2.size
  have AB := Lib.hid (append_fresh (P := Tryz.prog) (d := kStg) (e := 68) (t := 23) (tx := 23) (ty := 23) (w := w2) (base := w.heap.size) (b0 := wo.heap.size) Tryz.underlying23 Tryz.underlying23 infoStgT rfl (HO.out.ext (hx2.weak fun k _ hk => by
   rcases hk with hk | hk
   ·have hk' : w.heap.size ≤ k := hk
    exact ⟨by omega, by omega⟩
   ·have hk' := (HO.out.lt k hk.symm).1
    exact ⟨by omega, by omega⟩)) (by omega) (c := _) hRK.out hsz (fun k hk => (HO.out.lt k hk).2) (by have : l.length ≤ i := EL.out; omega) (by have : l.length ≤ i := EL.out; omega))
  go_wp2_with (at_builtin; refine at_append rfl (.tmp 39) (.tmp 42) 23 23 rfl rfl rfl AB.out ?_; rintro v' w'' ⟨ho2, hg2⟩; have HO2 := Lib.hid ho2; have HG2 := Lib.hid hg2; clear ho2 hg2)
  have XG : Ext (fun k => k < w.heap.size) w2 w'' := ⟨HG2.out.os, HG2.out.tape, HG2.out.output, HG2.out.size, fun k hk hkb => HG2.out.block k hk (fun e => by have := (HO.out.lt k e.symm).1; omega)⟩
  have JF := J2.grown XG hbw hgw (fun k hk => hk.2)
  have HXF : Ext (fun k => k ≠ g ∧ k ≠ b) w w'' := ⟨XG.os.trans (hx.trans hx2).os, XG.tape.trans (hx.trans hx2).tape, XG.output.trans (hx.trans hx2).output, Nat.le_trans (hx.trans hx2).size XG.size, fun k hk ho => (XG.block k (Nat.lt_of_lt_of_le hk (hx.trans hx2).size) hk).trans ((hx.trans hx2).block k hk ho)⟩
  go_roundw
  case rel => exact ⟨i + 1, by omega, by go_num, EN.out ▸ HO2.out, EN.out ▸ JF, HXF⟩
  case measure => simp [intOf]; omega
set_option maxRecDepth 20000 in
set_option maxHeartbeats 8000000 in
theorem manyE_c (m : Int) (hm : m ≤ 8) (J0 : CJ ok b g S w) : Calls Tryz.prog 136 #[.pointer (some ⟨b, 0, none⟩), .int .i64 m, .func (.func 137) #[.pointer (some ⟨b, 0, none⟩)] #[]] w (RetMany (kEff 6) 51 ok b g w (cMany m cEffect S)) := by
 have SF := store_f64
 have hbw := J0.blt
 have hgw := J0.glt
 have hfar := J0.far
 have J := J0.bound
 clear J0
 generalize hr : cMany m cEffect S = r at *
 have j0 := cell_of J.src 0
 have j1 := cell_of J.src 1
 simp only [List.getElem?_toArray, List.getElem?_cons_zero, List.getElem?_cons_succ] at j0 j1
 go_enter Tryz.func136, Tryz.ntmps136
 go_upto_if 13 with (fail)
 go_cut [7] from 8 (fun s7 W => RelM ok b g w r cEffect s7 W)
 case first =>
  by_cases he : S.2 = 0
  rotate_left
  ·have he1 : (S.2 == 0) = false := by simpa using he
   have E1 := Lib.hid (show r = cN cEffect S 0 by rw [← hr]; unfold cMany; rw [if_pos he]; rfl)
   clear he hr
   go_wp2_with fail
   first | apply_assumption | (try simp only [Exit.then]; apply_assumption; apply_assumption)
   (repeat apply Exists.intro)
   refine ⟨?_, rfl⟩
   exact ⟨0, S, rfl, by omega, E1.out, J, Ext.refl _ _⟩
  ·have he1 : (S.2 == 0) = true := by simpa using he
   have E1 := Lib.hid (show r = cN cEffect ((rCount m S.1).2, (rCount m S.1).2.2) (rCount m S.1).1 by rw [← hr]; unfold cMany; rw [if_neg (by simpa using he)])
   have HC := Lib.hid (count_c g m S.1 (J.rd he))
   have hn8 : (rCount m S.1).1 ≤ 8 := rCount_le8 S.1 hm
   have hlt := rCount_lt m S.1
   generalize rCount m S.1 = p at *
   have hh := Lib.hid he
   clear he hr
   go_wp2_with fail
   refine HC.out.mono ?_
   rintro x9 w1 ⟨rfl, hr1, hx1⟩
   have J1 := J.call hr1 hx1 hh.out
   have k0 := cell_of J1.src 0
   simp only [List.getElem?_toArray, List.getElem?_cons_zero] at k0
   go_wp2_with fail
   refine (err_c g _ hr1).mono ?_
   rintro x9 w9 ⟨rfl, rfl⟩
   go_wp2_with fail
   refine (keep_c p.2.2 J1 rfl p.2 fun _ => hr1).mono ?_
   rintro x9 w2 ⟨rfl, J2, hx2⟩
   have HX := (hx1.weak (ok' := fun k => k ≠ g ∧ k ≠ b) fun k _ hk => hk.1).trans hx2
   clear k0
   go_wp2_with fail
   first | apply_assumption | (try simp only [Exit.then]; apply_assumption; apply_assumption)
   (repeat apply Exists.intro)
   refine ⟨?_, rfl⟩
   exact ⟨p.1, _, rfl, hn8, E1.out, J2, HX⟩
 case rest =>
 obtain ⟨n, S0, rfl, hn8, hE, J1, hx1⟩ := hcut
 obtain ⟨w1, hwx⟩ : ∃ x, x = wc := ⟨_, rfl⟩
 subst hwx
 have E := Lib.hid hE
 clear hE hr J j0 j1
 have hs1 := hx1.size
 go_wp2_with fail
 go_loopw [8, 6] (fun v8 v6 wz => RelL (kEff 6) 51 ok b g w cEffect S0 n v8 v6 wz) (fun v8 _ _ => n - (intOf v8).toNat)
 case atStart => exact ⟨0, Nat.zero_le _, rfl, Own.nil _ _ _ _ _, J1, hx1⟩
 case round =>
  obtain ⟨wo, hwx⟩ : ∃ x, x = wr := ⟨_, rfl⟩
  subst hwx
  clear J1 hx1
  obtain ⟨i, hi, rfl, ho, J, hx⟩ := hrel
  have hsz := hx.size
  have EI := Lib.hid (cN_next cEffect S0 i).2
  have E0 := Lib.hid (fun (h : i = n) => show r = cN cEffect S0 i by rw [E.out, h])
  have EL := Lib.hid (cN_len cEffect S0 i)
  have ES := Lib.hid (fun (h : ¬ (cN cEffect S0 i).2.2 = 0) => show r = cN cEffect S0 i from E.out.trans (cN_stop cEffect S0 i h n hi))
  generalize cN cEffect S0 i = q at *
  obtain ⟨l, Si⟩ := q
  have HO := Lib.hid (show Own (kEff 6) 51 (fun k => w.heap.size ≤ k) wo w.heap.size _ l from ho)
  obtain ⟨Ak, nk, ck, rfl, hnk⟩ := ho.form'
  clear ho hnk
  have j0 := cell_of J.src 0
  have j1 := cell_of J.src 1
  simp only [List.getElem?_toArray, List.getElem?_cons_zero, List.getElem?_cons_succ] at j0 j1
  by_cases hin : i < n
  rotate_left
  ·have hi2 : i = n := by omega
   have E1 := Lib.hid (show r = (l, Si) from E0.out hi2)
   have hin1 : ¬ (i : Int) < (n : Int) := by omega
   clear hi2 hin
   go_wp2_with fail
   go_ret
   rw [E1.out]
   exact ⟨_, rfl, HO.out, J.weak (fun k hk => hk.1) hfar, hx⟩
  by_cases hes : Si.2 = 0
  rotate_left
  ·have he1 : (Si.2 == 0) = false := by simpa using hes
   have E1 := Lib.hid (show r = (l, Si) from ES.out hes)
   have hin1 : (i : Int) < (n : Int) := by omega
   clear hes hin
   go_wp2_with fail
   go_ret
   rw [E1.out]
   exact ⟨_, rfl, HO.out, J.weak (fun k hk => hk.1) hfar, hx⟩
  have he1 : (Si.2 == 0) = true := by simpa using hes
  have hin1 : (i : Int) < (n : Int) := by omega
  have EN := Lib.hid (EI.out hes)
  have HG := Lib.hid (ceffect_c J)
  clear hes
  go_wp2_with fail
  refine HG.out.mono ?_
  rintro x9 w2 ⟨⟨cs, rfl, hR⟩, J2, hx2⟩; have hRK := Lib.hid hR; obtain ⟨k1, B1, c1, -, rfl, -⟩ := eff_open hR; clear hR
  have hs2 := hx2.size
  have AB := Lib.hid (append_fresh (P := Tryz.prog) (d := (kEff 6)) (e := 51) (t := 45) (tx := 45) (ty := 45) (w := w2) (base := w.heap.size) (b0 := wo.heap.size) Tryz.underlying45 Tryz.underlying45 infoEffT (by rw [kEff_sz]; rfl) (HO.out.ext (hx2.weak fun k _ hk => by
   rcases hk with hk | hk
   ·have hk' : w.heap.size ≤ k := hk
    exact ⟨by omega, by omega⟩
   ·have hk' := (HO.out.lt k hk.symm).1
    exact ⟨by omega, by omega⟩)) (by omega) (c := _) hRK.out hsz (fun k hk => (HO.out.lt k hk).2) (by have : l.length ≤ i := EL.out; omega) (by have : l.length ≤ i := EL.out; omega))
  go_wp2_with (at_builtin; refine at_append rfl (.tmp 39) (.tmp 42) 45 45 rfl rfl rfl AB.out ?_; rintro v' w'' ⟨ho2, hg2⟩; have HO2 := Lib.hid ho2; have HG2 := Lib.hid hg2; clear ho2 hg2)
  have XG : Ext (fun k => k < w.heap.size) w2 w'' := ⟨HG2.out.os, HG2.out.tape, HG2.out.output, HG2.out.size, fun k hk hkb => HG2.out.block k hk (fun e => by have := (HO.out.lt k e.symm).1; omega)⟩
  have JF := J2.grown XG hbw hgw (fun k hk => hk.2)
  have HXF : Ext (fun k => k ≠ g ∧ k ≠ b) w w'' := ⟨XG.os.trans (hx.trans hx2).os, XG.tape.trans (hx.trans hx2).tape, XG.output.trans (hx.trans hx2).output, Nat.le_trans (hx.trans hx2).size XG.size, fun k hk ho => (XG.block k (Nat.lt_of_lt_of_le hk (hx.trans hx2).size) hk).trans ((hx.trans hx2).block k hk ho)⟩
  go_roundw
  case rel => exact ⟨i + 1, by omega, by go_num, EN.out ▸ HO2.out, EN.out ▸ JF, HXF⟩
  case measure => simp [intOf]; omega
end
end Go.Proofs.YtjnhgfmjehaalaaGreat
