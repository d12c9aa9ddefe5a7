/- Chapter 5: the law ExprBack, walked. -/
import Derived.Test.YtijlamajcdekkaaH2
import Derived.Test.YtijlamajcdekkaaMV
import Derived.Test.YtijlamajcdekkaaV4
import Derived.Test.YtijlamajcdekkaaT5
namespace Go.Proofs.Ytijlamajcdekkaa
open Go.RowKit
set_option linter.unusedVariables false
set_option linter.unusedSimpArgs false
section
variable {w : World}
set_option maxRecDepth 20000 in
set_option maxHeartbeats 8000000 in
theorem back_c {n : Nat} {cs : List Value} {e : Exp} {AF AV : Option Addr} {NF NV cF cV : Nat} {fl : List Fld} {vs : List Val} {Y : Option Addr} {m z : Nat} {bh : List UInt8} (h : (kExp n).R (fun _ => True) w cs e) (hi : ExpI e)
    (hf : Sl kFld (fun _ => True) w (.slice AF NF cF) fl) (hv : Sl kVal (fun _ => True) w (.slice AV NV cV) vs) (hbh : Sl kU8 (fun _ => True) w (.slice Y m z) bh) :
    Calls Try.prog 7 #[.agg cs.toArray, .agg #[.slice AF NF cF, .slice AV NV cV], .slice Y m z] w (Ret w (.bool true)) := by
  have SF := store_f64
  have hd := kR_dp h
  obtain ⟨k, A, c, rfl, rfl, hs⟩ := exp_open h
  have HE := Lib.hid (show ∀ W : World, Below w.heap.size w W → (kExp (k + 1)).R (fun _ => True) W #[.int .i64 e.op, .slice A e.kids.length c, .string ⟨e.name.toArray⟩, .int .i64 e.val.kind, .int .i64 e.val.int, .bool e.val.bool, .string ⟨e.val.text.toArray⟩, .float .f64 e.val.num].toList e from fun W hW => Kd.below h hW)
  have HF := hidS hf
  have HFW := Lib.hid (show ∀ W : World, Below w.heap.size w W → Calls Try.prog 8 #[.agg #[.slice AF NF cF, .slice AV NV cV]] W (Ret W (.bool (fewS fl vs))) from fun W hW => few_c (hf.below hW) (hv.below hW))
  have HBH := hidS hbh
  have hlF := hf.len
  have hlm := hbh.len.1
  have L0 : Loc1 w.heap.size 27 #[.int .i64 e.op, .slice A e.kids.length c, .string ⟨e.name.toArray⟩, .int .i64 e.val.kind, .int .i64 e.val.int, .bool e.val.bool, .string ⟨e.val.text.toArray⟩, .float .f64 e.val.num] ((w.alloc (.cells #[.int .i64 e.op, .slice A e.kids.length c, .string ⟨e.name.toArray⟩, .int .i64 e.val.kind, .int .i64 e.val.int, .bool e.val.bool, .string ⟨e.val.text.toArray⟩, .float .f64 e.val.num] 27)).alloc (.cells #[.slice AF NF cF, .slice AV NV cV] 31)) := (Loc1.new _ _ _).al _
  have L1 : Loc1 (w.heap.size + 1) 31 #[.slice AF NF cF, .slice AV NV cV] ((w.alloc (.cells #[.int .i64 e.op, .slice A e.kids.length c, .string ⟨e.name.toArray⟩, .int .i64 e.val.kind, .int .i64 e.val.int, .bool e.val.bool, .string ⟨e.val.text.toArray⟩, .float .f64 e.val.num] 27)).alloc (.cells #[.slice AF NF cF, .slice AV NV cV] 31)) := Loc1.newE _ _ _ (by simp)
  have B0 : Below w.heap.size w ((w.alloc (.cells #[.int .i64 e.op, .slice A e.kids.length c, .string ⟨e.name.toArray⟩, .int .i64 e.val.kind, .int .i64 e.val.int, .bool e.val.bool, .string ⟨e.val.text.toArray⟩, .float .f64 e.val.num] 27)).alloc (.cells #[.slice AF NF cF, .slice AV NV cV] 31)) := bW
  have KE := kk8 L0
  have KS := kk2 L1
  clear L0 L1 hf hv hbh h
  cases hfw : fewS fl vs
  · rw [hfw] at HFW
    clear hs HE HF HBH KE
    go_enter Try.func7, Try.ntmps7
    go_upto_region 1 with (fail)
    generalize ((w.alloc (.cells #[.int .i64 e.op, .slice A e.kids.length c, .string ⟨e.name.toArray⟩, .int .i64 e.val.kind, .int .i64 e.val.int, .bool e.val.bool, .string ⟨e.val.text.toArray⟩, .float .f64 e.val.num] 27)).alloc (.cells #[.slice AF NF cF, .slice AV NV cV] 31)) = w0 at *
    obtain ⟨⟨s0, s1⟩, hzs⟩ := KS.out w0 bW
    go_wp2_with fail
    refine (HFW.out _ bW).mono ?_
    rintro x9 w1 ⟨rfl, hb1⟩
    go_wp2_with fail
    go_ret
    exact ⟨rfl, bW⟩
  rw [hfw] at HFW
  by_cases hm : (m : Int) ≤ 1000
  rotate_left
  · clear hs HE HF HBH KE
    go_enter Try.func7, Try.ntmps7
    go_upto_region 1 with (fail)
    generalize ((w.alloc (.cells #[.int .i64 e.op, .slice A e.kids.length c, .string ⟨e.name.toArray⟩, .int .i64 e.val.kind, .int .i64 e.val.int, .bool e.val.bool, .string ⟨e.val.text.toArray⟩, .float .f64 e.val.num] 27)).alloc (.cells #[.slice AF NF cF, .slice AV NV cV] 31)) = w0 at *
    obtain ⟨⟨s0, s1⟩, hzs⟩ := KS.out w0 bW
    go_wp2_with fail
    refine (HFW.out _ bW).mono ?_
    rintro x9 w1 ⟨rfl, hb1⟩
    go_wp2_with fail
    go_ret
    exact ⟨rfl, bW⟩
  have hCK := Lib.hid (show ∀ W : World, Below w.heap.size w W → Calls Try.prog 9 #[.agg #[.int .i64 e.op, .slice A e.kids.length c, .string ⟨e.name.toArray⟩, .int .i64 e.val.kind, .int .i64 e.val.int, .bool e.val.bool, .string ⟨e.val.text.toArray⟩, .float .f64 e.val.num], .slice AF NF cF] W (Ret W (.tuple #[.int .i64 (chkE fl (k + 1) e).1, .int .i64 (chkE fl (k + 1) e).2])) from fun W hW => check_c (HE.out W hW) (HF.out W hW))
  have HPL := Lib.hid (fun (hn : ∀ f ∈ fl, f.name.length ≤ 16) (h : (chkE fl (k + 1) e).2 = 0) => back_plain hn hi hd h)
  have HKS := hidS hs
  clear hs HE hfw
  go_enter Try.func7, Try.ntmps7
  go_upto_region 1 with (fail)
  generalize ((w.alloc (.cells #[.int .i64 e.op, .slice A e.kids.length c, .string ⟨e.name.toArray⟩, .int .i64 e.val.kind, .int .i64 e.val.int, .bool e.val.bool, .string ⟨e.val.text.toArray⟩, .float .f64 e.val.num] 27)).alloc (.cells #[.slice AF NF cF, .slice AV NV cV] 31)) = w0 at *
  obtain ⟨⟨s0, s1⟩, hzs⟩ := KS.out w0 bW
  go_wp2_with fail
  refine (HFW.out _ bW).mono ?_
  rintro x9 w1 ⟨rfl, hb1⟩
  clear s0 s1 hzs
  have HB := Lib.hid (show Below w0.heap.size w0 w1 from hb1)
  clear HFW hb1
  go_wp2_with fail
  go_loopw [7] (fun v5 wr => ∃ i : Nat, i ≤ NF ∧ v5 = .int .i64 i ∧ (∀ (j : Nat) (x : Fld), j < i → fl[j]? = some x → decide (16 < x.name.length) = false) ∧ Below w0.heap.size w0 wr) (fun v5 _ => NF - (intOf v5).toNat)
  case atStart => exact ⟨0, Nat.zero_le _, rfl, fun j x hj => absurd hj (Nat.not_lt_zero _), HB.out⟩
  case round =>
    obtain ⟨i, hi', rfl, hp, hb⟩ := hrel
    have HP := Lib.hid hp
    clear hp HB
    obtain ⟨⟨s0, s1⟩, hzs⟩ := KS.out wr bW
    by_cases hlt : i < NF
    · obtain ⟨ad, f, B, d, rfl, he, hs', c0, c1, c2, c3, c4, c5, c6, c7⟩ := fld_at (HF.out wr bW) hlt
      have HX := Lib.hid he
      clear he hs'
      by_cases hnm : (16 : Int) < (f.name.length : Int)
      · go_wp2_with fail
        refine awake_c.mono ?_
        rintro x9 w2 ⟨rfl, hb2⟩
        go_wp2_with fail
        go_ret
        exact ⟨rfl, bW⟩
      · have HM := Lib.hid (show decide (16 < f.name.length) = false by rw [decide_eq_false]; omega)
        go_wp2_with fail
        go_roundw
        case rel =>
          refine ⟨i + 1, by omega, by go_num, fun j y hj hy => ?_, hb⟩
          rcases Nat.lt_or_ge j i with h | h
          · exact HP.out j y h hy
          · obtain rfl : j = i := by omega
            rw [HX.out] at hy
            injection hy with hy
            rw [← hy]
            exact HM.out
        case measure => simp [intOf]; omega
    · have hnm : ∀ f ∈ fl, f.name.length ≤ 16 := fun f hf => by
        obtain ⟨j, hj, rfl⟩ := List.getElem_of_mem hf
        have := HP.out j _ (by omega) (List.getElem?_eq_getElem hj)
        simpa using this
      have HN2 := Lib.hid hnm
      clear hnm HP
      go_upto_region 8 with (fail)
      generalize chkE fl (k + 1) e = ck at *
      obtain ⟨ck1, ck2⟩ := ck
      obtain ⟨⟨c0, c1, c2, c3, c4, c5, c6, c7⟩, hz⟩ := KE.out wr bW
      go_wp2_with fail
      refine (hCK.out _ bW).mono ?_
      rintro x9 w2 ⟨rfl, hb2⟩
      clear c0 c1 c2 c3 c4 c5 c6 c7 hz
      clear s0 s1 hzs
      by_cases hck : ck2 = 0
      rotate_left
      · have hc1 : (ck2 != 0) = true := by simpa using hck
        clear hck
        go_wp2_with fail
        refine awake_c.mono ?_
        rintro x9 w3 ⟨rfl, hb3⟩
        go_wp2_with fail
        go_ret
        exact ⟨rfl, bW⟩
      subst hck
      obtain ⟨p1, p2, p3, p4, p5⟩ := HPL.out HN2.out rfl
      have HPT := Lib.hid (show ∀ W : World, Below w.heap.size w W → Calls Try.prog 25 #[.slice none 0 0, .agg #[.int .i64 e.op, .slice A e.kids.length c, .string ⟨e.name.toArray⟩, .int .i64 e.val.kind, .int .i64 e.val.int, .bool e.val.bool, .string ⟨e.val.text.toArray⟩, .float .f64 e.val.num]] W (RetOwn kU8 5 (fun _ => True) W (bE k e)) from fun W hW => putE_c (xs := []) e (Sl.nil _ _ _) (HKS.out W hW) p1 (by simp; omega))
      have H5 := Lib.hid p5
      have HX4 := Lib.hid p4
      have HEE := Lib.hid (show ∀ W : World, Below w.heap.size w W → (kExp (k + 1)).R (fun _ => True) W #[.int .i64 e.op, .slice A e.kids.length c, .string ⟨e.name.toArray⟩, .int .i64 e.val.kind, .int .i64 e.val.int, .bool e.val.bool, .string ⟨e.val.text.toArray⟩, .float .f64 e.val.num].toList e from fun W hW => exp_mk (HKS.out W hW))
      generalize bE k e = bb at *
      generalize nE (k + 1) e = f at *
      clear p1 p4 p5 HPL hCK HN2 HKS HF
      obtain ⟨⟨c0, c1, c2, c3, c4, c5, c6, c7⟩, hz⟩ := KE.out w2 bW
      go_wp2_with fail
      refine (HPT.out _ bW).mono ?_
      rintro x9 w3 ⟨v3, rfl, ho3, hb3⟩
      obtain ⟨A3, n3, e3, rfl, hn3⟩ := ho3.form'
      have HO3 := Lib.hid ho3
      subst hn3
      clear c0 c1 c2 c3 c4 c5 c6 c7 hz
      clear ho3 HPT
      go_wp2_with (first
        | (at_builtin; refine at_append rfl (.tmp 48) (.tmp 49) 52 52 rfl rfl rfl (run_append_own_sl (base := w2.heap.size) (ok := fun _ => True) (xs := bb) (ys := bh) Try.underlying52 Try.underlying52 infoU8 rfl HO3.out hb3.size (HBH.out _ bW) (by omega) (by omega)) ?_
           rintro v' w5 ⟨ho5, hb5⟩; obtain ⟨A5, n5, e5, rfl, hn5⟩ := ho5.form'; have HO5 := Lib.hid ho5.read; have HN5 := Lib.hid (show n5 ≤ 1099511627776 from by simp at hn5; omega); clear hn5; have hb5' : Below w2.heap.size w2 w5 := Below.trans hb3 hb5; clear ho5 hb5))
      refine (new_c (xs := bb ++ bh) (ok := fun _ => True) HO5.out (fun _ _ => trivial) HN5.out).mono ?_
      rintro x9 w6 ⟨g, rfl, hg, hrd, hb6⟩
      have HRD := Lib.hid hrd
      have B02 : Below w0.heap.size w0 w2 := bW
      have B2 : Below w.heap.size w w2 := Below.trans B0 (B02.mono B0.size)
      have hgw : w2.heap.size ≤ g := Nat.le_trans hb5'.size hg
      have B06 : Below w0.heap.size w0 w6 := Below.trans B02 ((show Below w2.heap.size w2 w6 from bW).mono B02.size)
      have B6 : Below w.heap.size w w6 := Below.trans B0 (B06.mono B0.size)
      clear hrd
      go_upto_region 12 with (fail)
      have HG := Lib.hid (eget_c g (bb ++ bh, 0) HRD.out)
      rw [H5.out bh] at HG
      go_wp2_with fail
      refine HG.out.mono ?_
      rintro x9 w7 ⟨⟨ds, rfl, hk7, hrd7⟩, hx7⟩
      obtain ⟨k8, A8, c8, hk8, rfl, hs8⟩ := exp_open hk7
      have B07 : Below w0.heap.size w0 w7 := below_ext_ne B06 hx7 (Nat.le_trans B02.size hgw) (Nat.le_refl _)
      have B7 : Below w.heap.size w w7 := Below.trans B0 (B07.mono B0.size)
      obtain rfl : k8 = 5 := by omega
      have LY : Loc1 w7.heap.size 27 #[.int .i64 f.op, .slice A8 f.kids.length c8, .string ⟨f.name.toArray⟩, .int .i64 f.val.kind, .int .i64 f.val.int, .bool f.val.bool, .string ⟨f.val.text.toArray⟩, .float .f64 f.val.num] (w7.alloc (.cells #[.int .i64 f.op, .slice A8 f.kids.length c8, .string ⟨f.name.toArray⟩, .int .i64 f.val.kind, .int .i64 f.val.int, .bool f.val.bool, .string ⟨f.val.text.toArray⟩, .float .f64 f.val.num] 27)) := Loc1.new _ _ _
      have HF7 := Lib.hid (show ∀ W : World, Below w7.heap.size w7 W → (kExp 6).R (fun _ => True) W #[.int .i64 f.op, .slice A8 f.kids.length c8, .string ⟨f.name.toArray⟩, .int .i64 f.val.kind, .int .i64 f.val.int, .bool f.val.bool, .string ⟨f.val.text.toArray⟩, .float .f64 f.val.num].toList f from fun W hW => exp_mk ((hs8.below hW).weak fun _ _ => trivial))
      have HFE := Lib.hid (show ∀ W : World, Below w7.heap.size w7 W → (kExp (k + 1)).R (fun _ => True) W #[.int .i64 e.op, .slice A e.kids.length c, .string ⟨e.name.toArray⟩, .int .i64 e.val.kind, .int .i64 e.val.int, .bool e.val.bool, .string ⟨e.val.text.toArray⟩, .float .f64 e.val.num].toList e from fun W hW => HEE.out W (Below.trans B7 (hW.mono B7.size)))
      have KL := Lib.hid (show ∀ W : World, Below w7.heap.size w7 W → Calls Try.prog 28 #[.pointer (some ⟨g, 0, none⟩)] W (fun e w' => e = .returned (.int .i64 (m : Int)) ∧ W = w') from fun W hW => by
        have := left_c' g (bh, 0) ((hrd7 : Rd _ g w7 bh 0).below hW)
        rw [show (((bh, (0 : Int)) : RS).1.length : Int) = (m : Int) from by simp [hlm]] at this
        exact this)
      have KY := kk8 LY
      have b8 : Below w7.heap.size w7 (w7.alloc (.cells #[.int .i64 f.op, .slice A8 f.kids.length c8, .string ⟨f.name.toArray⟩, .int .i64 f.val.kind, .int .i64 f.val.int, .bool f.val.bool, .string ⟨f.val.text.toArray⟩, .float .f64 f.val.num] 27)) := bW
      clear LY hx7 hk7 hrd7 hs8 HG HO3 HO5 HN5 HRD HBH HEE
      go_upto_region 13 with (fail)
      generalize (w7.alloc (.cells #[.int .i64 f.op, .slice A8 f.kids.length c8, .string ⟨f.name.toArray⟩, .int .i64 f.val.kind, .int .i64 f.val.int, .bool f.val.bool, .string ⟨f.val.text.toArray⟩, .float .f64 f.val.num] 27)) = w8 at *
      obtain ⟨⟨d0, d1, d2, d3, d4, d5, d6, d7⟩, hz8⟩ := KY.out w8 (Below.refl _ _)
      go_wp2_with fail
      have KSm := small4_c (HF7.out w8 bW)
      rw [p3] at KSm
      refine KSm.mono ?_
      rintro x9 w9 ⟨rfl, hb9⟩
      clear d0 d1 d2 d3 d4 d5 d6 d7 hz8 KSm
      obtain ⟨⟨c0, c1, c2, c3, c4, c5, c6, c7⟩, hz⟩ := KE.out w9 bW
      obtain ⟨⟨d0, d1, d2, d3, d4, d5, d6, d7⟩, hz8⟩ := KY.out w9 bW
      go_wp2_with fail
      refine (rsameX_c _ _ _ _ _ _ _ (HFE.out w9 bW) (HF7.out w9 bW) HX4.out).mono ?_
      rintro x9 wa ⟨rfl, hba⟩
      clear d0 d1 d2 d3 d4 d5 d6 d7 hz8
      clear c0 c1 c2 c3 c4 c5 c6 c7 hz
      go_wp2_with fail
      refine (KL.out wa bW).mono ?_
      rintro x9 wl ⟨rfl, rfl⟩
      go_wp2_with fail
      refine awake_c.mono ?_
      rintro x9 wb ⟨rfl, hbb⟩
      go_wp2_with fail
      go_ret
      exact ⟨rfl, bW⟩
end
end Go.Proofs.Ytijlamajcdekkaa
