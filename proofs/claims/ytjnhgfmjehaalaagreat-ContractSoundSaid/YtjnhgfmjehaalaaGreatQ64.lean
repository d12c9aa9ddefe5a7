/- Chapter 6: the law ContractSound, walked. -/
import Derived.Test.YtjnhgfmjehaalaaGreatMM
import Derived.Test.YtjnhgfmjehaalaaGreatMN
import Derived.Test.YtjnhgfmjehaalaaGreatMQ
namespace Go.Proofs.YtjnhgfmjehaalaaGreat
open Go.RowKit
set_option linter.unusedVariables false
set_option linter.unusedSimpArgs false
theorem infoVal : (Tryz.prog.info? 39).map (fun i => (i.zero, i.size, i.bytes)) = some (some (.agg #[.int .i64 0, .int .i64 0, .bool false, .string ⟨#[]⟩, .float .f64 0]), 5, 48) := by kernel_rfl
/-- what is told of a part that is checked, where values fit -/
def ToldK (k : Int) (r : Val × Int) : Prop := (r.2 = 0 ∧ r.1.kind = k) ∨ r.2 = 41 ∨ r.2 = 42
theorem toldS {fl : List Fld} {vs : List Val} {n : Nat} {e : Exp} {k : Int} (hd : Dp n e) (hfit : fitB fl vs = true) (h : isE fl n e k = true) : ToldK k (evalR fl vs n e) := by
  unfold isE chkE at h
  unfold evalR
  cases hs : small e with
  | false => rw [hs] at h; simp at h
  | true =>
    rw [hs] at h
    cases hk : kE fl n e with
    | error x =>
      exfalso
      rw [hk] at h
      simp at h
      exact kE_err n e hd (by rw [hk, h.1])
    | ok k' =>
      rw [hk] at h
      simp at h
      subst h
      have hF := sound fl vs hfit n e k' hk
      simp only [if_true, hfit]
      cases hv : evE fl vs n e with
      | error x => rw [hv] at hF; exact .inr hF
      | ok v => rw [hv] at hF; exact .inl ⟨rfl, hF.1⟩
theorem initFit {fl : List Fld} (h : ∀ f ∈ fl, gField f = true) : fitB fl (fl.map Fld.init) = true := by
  refine fitB_of (by rw [List.length_map]) fun i f v hf hv => ?_
  rw [List.getElem?_map, hf] at hv
  have hv' : f.init = v := by simpa using hv
  obtain ⟨_, _, a, b⟩ := gField_ok (h f (List.mem_of_getElem? hf))
  rw [← hv']
  exact ⟨a, b⟩
section
variable {w : World}
set_option maxRecDepth 100000 in
set_option maxHeartbeats 20000000 in
theorem csound_c {A B D : Option Addr} {a b d : Nat} {c : Con} {n : Nat} {V : Option Addr} {m0 z : Nat} {vs : List Val} (h1 : Sl kFld (fun _ => True) w (.slice A c.fields.length a) c.fields) (h2 : Sl kStg (fun _ => True) w (.slice B c.stages.length b) c.stages) (h3 : Sl (kMov n) (fun _ => True) w (.slice D c.moves.length d) c.moves) (hv : Sl kVal (fun _ => True) w (.slice V m0 z) vs) :
    Calls Tryz.prog 4 #[.agg #[.string ⟨c.name.toArray⟩, .slice A c.fields.length a, .slice B c.stages.length b, .slice D c.moves.length d], .slice V m0 z] w (Ret w (.bool true)) := by
  have SF := store_f64
  have HF := Lib.hid (show ∀ W : World, Below w.heap.size w W → Sl kFld (fun _ => True) W (.slice A c.fields.length a) c.fields from fun W hW => h1.below hW)
  have HS := Lib.hid (show ∀ W : World, Below w.heap.size w W → Sl kStg (fun _ => True) W (.slice B c.stages.length b) c.stages from fun W hW => h2.below hW)
  have HM := Lib.hid (show ∀ W : World, Below w.heap.size w W → Sl (kMov n) (fun _ => True) W (.slice D c.moves.length d) c.moves from fun W hW => h3.below hW)
  have HV := Lib.hid (show ∀ W : World, Below w.heap.size w W → Sl kVal (fun _ => True) W (.slice V m0 z) vs from fun W hW => hv.below hW)
  have HR := Lib.hid (show ∀ W : World, Below w.heap.size w W → Calls Tryz.prog 13 #[.agg #[.string ⟨c.name.toArray⟩, .slice A c.fields.length a, .slice B c.stages.length b, .slice D c.moves.length d]] W (Ret W (.int .i64 (chkC c n))) from fun W hW => chk_eq c n ▸ checkR_c (HF.out W hW) (HS.out W hW) (HM.out W hW))
  have HG := Lib.hid (show ∀ W : World, Below w.heap.size w W → Calls Tryz.prog 12 #[.agg #[.string ⟨c.name.toArray⟩, .slice A c.fields.length a, .slice B c.stages.length b, .slice D c.moves.length d]] W (Ret W (.int .i64 (chkC c n))) from fun W hW => checkC_c (HF.out W hW) (HS.out W hW) (HM.out W hW))
  have HW := Lib.hid (show ∀ W : World, Below w.heap.size w W → Calls Tryz.prog 7 #[.agg #[.string ⟨c.name.toArray⟩, .slice A c.fields.length a, .slice B c.stages.length b, .slice D c.moves.length d]] W (Ret W (.bool (fewC c))) from fun W hW => few6_c (HF.out W hW) (HS.out W hW) (HM.out W hW))
  have HDP := Lib.hid (con_dp h3)
  have l1 := h1.len.2.1
  have l3 := h3.len.2.1
  have m1 := h1.len.2.2.1
  have m3 := h3.len.2.2.1
  clear h1 h2 h3 hv
  have hL : Loc1 w.heap.size 26 #[.string ⟨c.name.toArray⟩, .slice A c.fields.length a, .slice B c.stages.length b, .slice D c.moves.length d] (w.alloc (.cells #[.string ⟨c.name.toArray⟩, .slice A c.fields.length a, .slice B c.stages.length b, .slice D c.moves.length d] 26)) := Loc1.new _ _ _
  have B0 : Below w.heap.size w (w.alloc (.cells #[.string ⟨c.name.toArray⟩, .slice A c.fields.length a, .slice B c.stages.length b, .slice D c.moves.length d] 26)) := bW
  have KK := Lib.hid (show ∀ W : World, Below (w.alloc (.cells #[.string ⟨c.name.toArray⟩, .slice A c.fields.length a, .slice B c.stages.length b, .slice D c.moves.length d] 26)).heap.size (w.alloc (.cells #[.string ⟨c.name.toArray⟩, .slice A c.fields.length a, .slice B c.stages.length b, .slice D c.moves.length d] 26)) W → (W.cell? ⟨w.heap.size, 0, none⟩ = some (.string ⟨c.name.toArray⟩) ∧ W.cell? ⟨w.heap.size, 1, none⟩ = some (.slice A c.fields.length a) ∧ W.cell? ⟨w.heap.size, 2, none⟩ = some (.slice B c.stages.length b) ∧ W.cell? ⟨w.heap.size, 3, none⟩ = some (.slice D c.moves.length d)) ∧ w.heap.size < W.heap.size from fun W hW => ⟨⟨cell_of (hL.bel hW) 0, cell_of (hL.bel hW) 1, cell_of (hL.bel hW) 2, cell_of (hL.bel hW) 3⟩, lt_of_heap (hL.bel hW)⟩)
  clear hL
  cases hf : fewC c
  · go_enter Tryz.func4, Tryz.ntmps4
    go_wp2_with fail
    generalize (w.alloc (.cells #[.string ⟨c.name.toArray⟩, .slice A c.fields.length a, .slice B c.stages.length b, .slice D c.moves.length d] 26)) = w0 at *
    obtain ⟨⟨c0, c1, c2, c3⟩, hz⟩ := KK.out w0 bW
    go_wp2_with fail
    refine (HW.out _ bW).mono ?_
    rintro x9 w1 ⟨rfl, hb1⟩
    go_wp2_with fail
    go_ret
    exact ⟨rfl, bW⟩
  by_cases hl : 30 < (m0 : Int)
  · go_enter Tryz.func4, Tryz.ntmps4
    go_wp2_with fail
    generalize (w.alloc (.cells #[.string ⟨c.name.toArray⟩, .slice A c.fields.length a, .slice B c.stages.length b, .slice D c.moves.length d] 26)) = w0 at *
    obtain ⟨⟨c0, c1, c2, c3⟩, hz⟩ := KK.out w0 bW
    go_wp2_with fail
    refine (HW.out _ bW).mono ?_
    rintro x9 w1 ⟨rfl, hb1⟩
    go_wp2_with fail
    go_ret
    exact ⟨rfl, bW⟩
  by_cases hk : chkC c n = 0
  rotate_left
  · have hk1 : (chkC c n != 0) = true := by simpa using hk
    generalize chkC c n = r at *
    clear hk
    go_enter Tryz.func4, Tryz.ntmps4
    go_wp2_with fail
    generalize (w.alloc (.cells #[.string ⟨c.name.toArray⟩, .slice A c.fields.length a, .slice B c.stages.length b, .slice D c.moves.length d] 26)) = w0 at *
    obtain ⟨⟨c0, c1, c2, c3⟩, hz⟩ := KK.out w0 bW
    go_wp2_with fail
    refine (HW.out _ bW).mono ?_
    rintro x9 w1 ⟨rfl, hb1⟩
    clear c0 c1 c2 c3 hz
    obtain ⟨⟨c0, c1, c2, c3⟩, hz⟩ := KK.out w1 bW
    go_wp2_with fail
    refine (HG.out _ bW).mono ?_
    rintro x9 w2 ⟨rfl, hb2⟩
    clear c0 c1 c2 c3 hz
    obtain ⟨⟨c0, c1, c2, c3⟩, hz⟩ := KK.out w2 bW
    go_wp2_with fail
    refine (HR.out _ bW).mono ?_
    rintro x9 w3 ⟨rfl, hb3⟩
    go_wp2_with fail
    refine awake_c.mono ?_
    rintro x9 w4 ⟨rfl, hb4⟩
    go_wp2_with fail
    go_ret
    exact ⟨rfl, bW⟩
  have CR := Lib.hid (chkC_ok hk)
  rw [hk] at HG
  clear HR hk
  go_enter Tryz.func4, Tryz.ntmps4
  go_wp2_with fail
  generalize (w.alloc (.cells #[.string ⟨c.name.toArray⟩, .slice A c.fields.length a, .slice B c.stages.length b, .slice D c.moves.length d] 26)) = w0 at *
  obtain ⟨⟨c0, c1, c2, c3⟩, hz⟩ := KK.out w0 bW
  go_wp2_with fail
  refine (HW.out _ bW).mono ?_
  rintro x9 w1 ⟨rfl, hb1⟩
  clear c0 c1 c2 c3 hz
  obtain ⟨⟨c0, c1, c2, c3⟩, hz⟩ := KK.out w1 bW
  go_wp2_with fail
  refine (HG.out _ bW).mono ?_
  rintro x9 w2 ⟨rfl, hb2⟩
  clear c0 c1 c2 c3 hz HG HW
  obtain ⟨⟨c0, c1, c2, c3⟩, hz⟩ := KK.out w2 bW
  go_upto_if 35 with (go_at_call 14; refine (fit_c (HF.out _ bW) (HV.out _ bW)).mono ?_; rintro x9 w3 ⟨rfl, hb3⟩)
  clear c0 c1 c2 c3 hz
  have hb4 : Below w0.heap.size w0 w3 := bW
  clear hb1 hb2 hb3
  go_cut [1] from 5 (fun s W => ∃ A' N' c' us, s = .slice A' N' c' ∧ Sl kVal (fun _ => True) W (.slice A' N' c') us ∧ fitB c.fields us = true ∧ Below w0.heap.size w0 W)
  case first =>
    cases hfit : fitB c.fields vs
    · go_wp2_with fail
      go_loopw [5, 1] (fun vi vo wz => ∃ i : Nat, i ≤ c.fields.length ∧ vi = .int .i64 i ∧ Own kVal 39 (fun _ => True) wz w0.heap.size vo ((c.fields.take i).map Fld.init) ∧ Below w0.heap.size w0 wz) (fun vi _ _ => c.fields.length - (intOf vi).toNat)
      case atStart => exact ⟨0, Nat.zero_le _, rfl, Own.nil _ _ _ _ _, bW⟩
      case round =>
        obtain ⟨wo, hwx⟩ : ∃ x, x = wr := ⟨_, rfl⟩
        subst hwx
        clear hb4
        obtain ⟨i, hi, rfl, ho, hb⟩ := hrel
        have HO := Lib.hid ho
        clear ho
        obtain ⟨⟨c0, c1, c2, c3⟩, hz⟩ := KK.out wo bW
        by_cases hlt : i < c.fields.length
        · obtain ⟨ad, f, E, e', rfl, hx, he, q0, q1, q2, q3, q4, q5, q6, q7⟩ := fld_at (HF.out wo bW) hlt
          have HX := Lib.hid (show (c.fields.take (i + 1)).map Fld.init = (c.fields.take i).map Fld.init ++ [f.init] by rw [List.take_add_one, hx, List.map_append]; rfl)
          have hi6 : i ≤ 100 := by have := CR.out.nf; omega
          have AB := Lib.hid (app_box (P := Tryz.prog) (ty := 32) Tryz.underlying32 Tryz.underlying32 infoVal rfl (HO.out.below (show Below wo.heap.size wo (wo.alloc (.cells #[.int .i64 f.init.kind, .int .i64 f.init.int, .bool f.init.bool, .string ⟨f.init.text.toArray⟩, .float .f64 f.init.num] 39)) from bW)) (cs := [.int .i64 f.init.kind, .int .i64 f.init.int, .bool f.init.bool, .string ⟨f.init.text.toArray⟩, .float .f64 f.init.num]) (x := f.init) (Loc1.new _ _ _) (fun _ => val_mk _ _ f.init) (fun k hk => by have := (HO.out.lt k hk).2; omega) ⟨by have := hb.size; simp; omega, by rw [List.length_map, List.length_take]; omega, by decide⟩)
          clear hx he
          go_wp2_with (at_builtin; refine at_append rfl (.tmp 43) (.tmp 50) 32 32 rfl rfl rfl AB.out ?_; rintro v' w'' ⟨ho2, hb2⟩; have HO2 := Lib.hid ho2; have HB2 := Lib.hid ((show Below w0.heap.size w0 (wo.alloc (.cells #[.int .i64 f.init.kind, .int .i64 f.init.int, .bool f.init.bool, .string ⟨f.init.text.toArray⟩, .float .f64 f.init.num] 39)) from bW).trans hb2); clear ho2 hb2)
          go_roundw
          case rel =>
            (repeat apply Exists.intro)
            refine ⟨?_, rfl⟩
            exact ⟨i + 1, by omega, by go_num, HX.out ▸ HO2.out, HB2.out⟩
          case measure => simp [intOf]; omega
        · have HE := Lib.hid (show (c.fields.take i).map Fld.init = c.fields.map Fld.init by rw [List.take_of_length_le (by omega)])
          rw [HE.out] at HO
          obtain ⟨A6, n6, c6, rfl, -⟩ := HO.out.form'
          go_wp2_with fail
          first | go_meet | (try simp only [Exit.then]; apply_assumption; go_meet)
          case rel => exact ⟨_, _, _, _, rfl, HO.out.sl fun _ _ => trivial, initFit CR.out.fields, hb⟩
    · go_wp2_with fail
      first | go_meet | (try simp only [Exit.then]; apply_assumption; go_meet)
      case rel => exact ⟨_, _, _, _, rfl, HV.out _ bW, hfit, hb4⟩
  case rest =>
  obtain ⟨A', N', c', us, rfl, hu, hfit, hb5⟩ := hcut
  obtain ⟨w5, hwx⟩ : ∃ x, x = wc := ⟨_, rfl⟩
  subst hwx
  have HU := Lib.hid (show ∀ W : World, Below w5.heap.size w5 W → Sl kVal (fun _ => True) W (.slice A' N' c') us from fun W hW => hu.below hW)
  have HFIT := Lib.hid hfit
  clear hu hfit HV hb4
  go_wp2_with fail
  go_loopw [6] (fun vi wz => ∃ i : Nat, i ≤ c.moves.length ∧ vi = .int .i64 i ∧ Below w5.heap.size w5 wz) (fun vi _ => c.moves.length - (intOf vi).toNat)
  case atStart => exact ⟨0, Nat.zero_le _, rfl, bW⟩
  case round =>
    obtain ⟨wo, hwx⟩ : ∃ x, x = wr := ⟨_, rfl⟩
    subst hwx
    obtain ⟨i, hi, rfl, hb⟩ := hrel
    obtain ⟨⟨c0, c1, c2, c3⟩, hz⟩ := KK.out wo bW
    by_cases hlt : i < c.moves.length
    rotate_left
    · go_wp2_with fail
      refine awake_c.mono ?_
      rintro x9 w9 ⟨rfl, hb9⟩
      go_wp2_with fail
      go_ret
      exact ⟨rfl, bW⟩
    obtain ⟨ad, m, k', E, e', F, f', rfl, hx, hk', hg, he, q0, q1, q2, q3, q4, q5, q6, q7, q8, q9, q10, q11, q12⟩ := mov_at (HM.out wo bW) hlt
    have MR := Lib.hid (gMove_ok (CR.out.moves m (List.mem_of_getElem? hx)))
    obtain ⟨dg, de, hn0⟩ := HDP.out m (List.mem_of_getElem? hx)
    have T1 := Lib.hid (toldS dg HFIT.out MR.out.guard)
    have DE := Lib.hid de
    have me1 := he.len.2.1
    have me2 := he.len.2.2.1
    have HGD := Lib.hid hg
    have HE := Lib.hid he
    subst hk'
    clear hx hg he dg de hn0
    go_upto_region 15 with (fail)
    have hLm : Loc1 wo.heap.size 47 #[.string ⟨m.name.toArray⟩, .int .i64 m.frm, .int .i64 m.tgt, .int .i64 m.guard.op, .slice E m.guard.kids.length e', .string ⟨m.guard.name.toArray⟩, .int .i64 m.guard.val.kind, .int .i64 m.guard.val.int, .bool m.guard.val.bool, .string ⟨m.guard.val.text.toArray⟩, .float .f64 m.guard.val.num, .slice F m.effects.length f', .int .i64 m.org] (wo.alloc (.cells #[.string ⟨m.name.toArray⟩, .int .i64 m.frm, .int .i64 m.tgt, .int .i64 m.guard.op, .slice E m.guard.kids.length e', .string ⟨m.guard.name.toArray⟩, .int .i64 m.guard.val.kind, .int .i64 m.guard.val.int, .bool m.guard.val.bool, .string ⟨m.guard.val.text.toArray⟩, .float .f64 m.guard.val.num, .slice F m.effects.length f', .int .i64 m.org] 47)) := Loc1.new _ _ _
    have hbk : Below wo.heap.size wo (wo.alloc (.cells #[.string ⟨m.name.toArray⟩, .int .i64 m.frm, .int .i64 m.tgt, .int .i64 m.guard.op, .slice E m.guard.kids.length e', .string ⟨m.guard.name.toArray⟩, .int .i64 m.guard.val.kind, .int .i64 m.guard.val.int, .bool m.guard.val.bool, .string ⟨m.guard.val.text.toArray⟩, .float .f64 m.guard.val.num, .slice F m.effects.length f', .int .i64 m.org] 47)) := bW
    generalize (wo.alloc (.cells #[.string ⟨m.name.toArray⟩, .int .i64 m.frm, .int .i64 m.tgt, .int .i64 m.guard.op, .slice E m.guard.kids.length e', .string ⟨m.guard.name.toArray⟩, .int .i64 m.guard.val.kind, .int .i64 m.guard.val.int, .bool m.guard.val.bool, .string ⟨m.guard.val.text.toArray⟩, .float .f64 m.guard.val.num, .slice F m.effects.length f', .int .i64 m.org] 47)) = w6 at *
    have KM := Lib.hid (show ∀ W : World, Below w6.heap.size w6 W → W.cell? ⟨wo.heap.size, 0, none⟩ = some (.string ⟨m.name.toArray⟩) ∧ W.cell? ⟨wo.heap.size, 1, none⟩ = some (.int .i64 m.frm) ∧ W.cell? ⟨wo.heap.size, 2, none⟩ = some (.int .i64 m.tgt) ∧ W.cell? ⟨wo.heap.size, 3, none⟩ = some (.int .i64 m.guard.op) ∧ W.cell? ⟨wo.heap.size, 4, none⟩ = some (.slice E m.guard.kids.length e') ∧ W.cell? ⟨wo.heap.size, 5, none⟩ = some (.string ⟨m.guard.name.toArray⟩) ∧ W.cell? ⟨wo.heap.size, 6, none⟩ = some (.int .i64 m.guard.val.kind) ∧ W.cell? ⟨wo.heap.size, 7, none⟩ = some (.int .i64 m.guard.val.int) ∧ W.cell? ⟨wo.heap.size, 8, none⟩ = some (.bool m.guard.val.bool) ∧ W.cell? ⟨wo.heap.size, 9, none⟩ = some (.string ⟨m.guard.val.text.toArray⟩) ∧ W.cell? ⟨wo.heap.size, 10, none⟩ = some (.float .f64 m.guard.val.num) ∧ W.cell? ⟨wo.heap.size, 11, none⟩ = some (.slice F m.effects.length f') ∧ W.cell? ⟨wo.heap.size, 12, none⟩ = some (.int .i64 m.org) from fun W hW => ⟨cell_of (hLm.bel hW) 0, cell_of (hLm.bel hW) 1, cell_of (hLm.bel hW) 2, cell_of (hLm.bel hW) 3, cell_of (hLm.bel hW) 4, cell_of (hLm.bel hW) 5, cell_of (hLm.bel hW) 6, cell_of (hLm.bel hW) 7, cell_of (hLm.bel hW) 8, cell_of (hLm.bel hW) 9, cell_of (hLm.bel hW) 10, cell_of (hLm.bel hW) 11, cell_of (hLm.bel hW) 12⟩)
    clear hLm q0 q1 q2 q3 q4 q5 q6 q7 q8 q9 q10 q11 q12 c0 c1 c2 c3 hz
    obtain ⟨⟨c0, c1, c2, c3⟩, hz⟩ := KK.out w6 bW
    obtain ⟨q0, q1, q2, q3, q4, q5, q6, q7, q8, q9, q10, q11, q12⟩ := KM.out w6 bW
    have EV := Lib.hid (ev_c (exp_mk (e := m.guard) (HGD.out.below hbk)) (HF.out w6 bW) (HU.out w6 bW))
    generalize evalR c.fields us (k' + 1) m.guard = r1 at *
    go_wp2_with fail
    refine EV.out.mono ?_
    rintro x9 w7 ⟨rfl, hb7⟩
    clear EV HGD q0 q1 q2 q3 q4 q5 q6 q7 q8 q9 q10 q11 q12 c0 c1 c2 c3 hz
    go_upto_region 16 with (fail)
    have hLv : Loc1 w7.heap.size 39 #[.int .i64 r1.1.kind, .int .i64 r1.1.int, .bool r1.1.bool, .string ⟨r1.1.text.toArray⟩, .float .f64 r1.1.num] (w7.alloc (.cells #[.int .i64 r1.1.kind, .int .i64 r1.1.int, .bool r1.1.bool, .string ⟨r1.1.text.toArray⟩, .float .f64 r1.1.num] 39)) := Loc1.new _ _ _
    have hb8 : Below w6.heap.size w6 (w7.alloc (.cells #[.int .i64 r1.1.kind, .int .i64 r1.1.int, .bool r1.1.bool, .string ⟨r1.1.text.toArray⟩, .float .f64 r1.1.num] 39)) := bW
    generalize (w7.alloc (.cells #[.int .i64 r1.1.kind, .int .i64 r1.1.int, .bool r1.1.bool, .string ⟨r1.1.text.toArray⟩, .float .f64 r1.1.num] 39)) = w8 at *
    obtain ⟨v0, v1, v2, v3, v4⟩ := cells5 hLv
    clear hLv
    go_cut [9, 91] from 64 to 90 (fun s9 s W => s9 = .int .i64 r1.2 ∧ s = .bool false ∧ Below w6.heap.size w6 W)
    case first =>
      rcases T1.out with ⟨t1, t2⟩ | t1 | t1
      · have ht := Lib.hid t1
        rw [t1]
        rw [t2] at v0
        clear t1 t2
        go_wp2_with fail
        apply_assumption
        (repeat apply Exists.intro)
        refine ⟨?_, rfl⟩
        exact ⟨by rw [ht.out], rfl, bW⟩
      · have ht := Lib.hid t1
        rw [t1]
        clear t1
        go_wp2_with fail
        apply_assumption
        (repeat apply Exists.intro)
        refine ⟨?_, rfl⟩
        exact ⟨by rw [ht.out], rfl, bW⟩
      · have ht := Lib.hid t1
        rw [t1]
        clear t1
        go_wp2_with fail
        apply_assumption
        (repeat apply Exists.intro)
        refine ⟨?_, rfl⟩
        exact ⟨by rw [ht.out], rfl, bW⟩
    case rest =>
    obtain ⟨rfl, rfl, hb9⟩ := hcut
    obtain ⟨w9, hwx⟩ : ∃ x, x = wc := ⟨_, rfl⟩
    subst hwx
    clear v0 v1 v2 v3 v4 hb8 hb7 T1
    go_wp2_with fail
    go_loopw [10] (fun vi wz => ∃ k : Nat, k ≤ m.effects.length ∧ vi = .int .i64 k ∧ Below w6.heap.size w6 wz) (fun vi _ => m.effects.length - (intOf vi).toNat)
    case atStart => exact ⟨0, Nat.zero_le _, rfl, hb9⟩
    case round =>
      clear hb9
      obtain ⟨wk, hwx⟩ : ∃ x, x = wr := ⟨_, rfl⟩
      subst hwx
      obtain ⟨k, hk, rfl, hb10⟩ := hrel
      obtain ⟨q0, q1, q2, q3, q4, q5, q6, q7, q8, q9, q10, q11, q12⟩ := KM.out wk bW
      by_cases hlk : k < m.effects.length
      rotate_left
      · go_wp2_with fail
        go_roundw
        case rel => exact ⟨i + 1, by omega, by go_num, bW⟩
        case measure => simp [intOf]; omega
      obtain ⟨ax, s, k2, S', s', rfl, hs, hk2, hse, y0, y1, y2, y3, y4, y5, y6, y7, y8⟩ := eff_at (HE.out.below (show Below wo.heap.size wo wk from bW)) hlk
      obtain rfl : k2 = k' := by omega
      obtain ⟨hx0, hx1⟩ := MR.out.effects s (List.mem_of_getElem? hs)
      obtain ⟨j, f, hj, hfj, -⟩ := idx_lt hx0
      rw [hj, show kindAt c.fields (j : Int) = f.kind by unfold kindAt; simp [hfj]] at hx1
      have T2 := Lib.hid (toldS (DE.out s (List.mem_of_getElem? hs)) HFIT.out hx1)
      have hjl : j < c.fields.length := (List.getElem?_eq_some_iff.1 hfj).1
      obtain ⟨adF, f0, Z, z', rfl, hf0, -, x0, x1, x2, x3, x4, x5, x6, x7⟩ := fld_at (HF.out wk bW) hjl
      obtain rfl : f = f0 := by rw [hfj] at hf0; injection hf0
      have HFD := Lib.hid (show ∀ W : World, Below w.heap.size w W → Calls Tryz.prog 16 #[.agg #[.string ⟨c.name.toArray⟩, .slice (some adF) c.fields.length a, .slice B c.stages.length b, .slice (some ad) c.moves.length d], .string ⟨s.field.toArray⟩] W (Ret W (.int .i64 (j : Int))) from fun W hW => hj ▸ field_c (n := k2 + 1) s.field (HF.out W hW))
      have EV := Lib.hid (show ∀ W : World, Below wk.heap.size wk W → Calls Tryz.prog 15 #[.agg #[.int .i64 s.expr.op, .slice S' s.expr.kids.length s', .string ⟨s.expr.name.toArray⟩, .int .i64 s.expr.val.kind, .int .i64 s.expr.val.int, .bool s.expr.val.bool, .string ⟨s.expr.val.text.toArray⟩, .float .f64 s.expr.val.num], .slice (some adF) c.fields.length a, .slice A' N' c'] W (Ret W (.tuple #[.agg #[.int .i64 (evalR c.fields us (k2 + 1) s.expr).1.kind, .int .i64 (evalR c.fields us (k2 + 1) s.expr).1.int, .bool (evalR c.fields us (k2 + 1) s.expr).1.bool, .string ⟨(evalR c.fields us (k2 + 1) s.expr).1.text.toArray⟩, .float .f64 (evalR c.fields us (k2 + 1) s.expr).1.num], .int .i64 (evalR c.fields us (k2 + 1) s.expr).2])) from fun W hW => ev_c (exp_mk (e := s.expr) (hse.below hW)) (HF.out W bW) (HU.out W bW))
      have KE := Lib.hid (show ∀ W : World, Below wk.heap.size wk W → W.cell? ⟨w.heap.size, 1, none⟩ = some (.slice (some adF) c.fields.length a) ∧ W.cell? ⟨wo.heap.size, 11, none⟩ = some (.slice (some ax) m.effects.length f') ∧ W.cell? (ax.add (k * 9)) = some (.string ⟨s.field.toArray⟩) ∧ W.cell? ⟨(ax.add (k * 9)).block, (ax.add (k * 9)).off + 1, none⟩ = some (.int .i64 s.expr.op) ∧ W.cell? ⟨(ax.add (k * 9)).block, (ax.add (k * 9)).off + 2, none⟩ = some (.slice S' s.expr.kids.length s') ∧ W.cell? ⟨(ax.add (k * 9)).block, (ax.add (k * 9)).off + 3, none⟩ = some (.string ⟨s.expr.name.toArray⟩) ∧ W.cell? ⟨(ax.add (k * 9)).block, (ax.add (k * 9)).off + 4, none⟩ = some (.int .i64 s.expr.val.kind) ∧ W.cell? ⟨(ax.add (k * 9)).block, (ax.add (k * 9)).off + 5, none⟩ = some (.int .i64 s.expr.val.int) ∧ W.cell? ⟨(ax.add (k * 9)).block, (ax.add (k * 9)).off + 6, none⟩ = some (.bool s.expr.val.bool) ∧ W.cell? ⟨(ax.add (k * 9)).block, (ax.add (k * 9)).off + 7, none⟩ = some (.string ⟨s.expr.val.text.toArray⟩) ∧ W.cell? ⟨(ax.add (k * 9)).block, (ax.add (k * 9)).off + 8, none⟩ = some (.float .f64 s.expr.val.num) from fun W hW => ⟨(KK.out W bW).1.2.1, keepC q11 hW, keepC y0 hW, keepC y1 hW, keepC y2 hW, keepC y3 hW, keepC y4 hW, keepC y5 hW, keepC y6 hW, keepC y7 hW, keepC y8 hW⟩)
      have KG := Lib.hid (show ∀ W : World, Below wk.heap.size wk W → (W.cell? ⟨w.heap.size, 0, none⟩ = some (.string ⟨c.name.toArray⟩) ∧ W.cell? ⟨w.heap.size, 1, none⟩ = some (.slice (some adF) c.fields.length a) ∧ W.cell? ⟨w.heap.size, 2, none⟩ = some (.slice B c.stages.length b) ∧ W.cell? ⟨w.heap.size, 3, none⟩ = some (.slice (some ad) c.moves.length d)) ∧ W.cell? ⟨wo.heap.size, 11, none⟩ = some (.slice (some ax) m.effects.length f') ∧ W.cell? (ax.add (k * 9)) = some (.string ⟨s.field.toArray⟩) from fun W hW => ⟨(KK.out W bW).1, keepC q11 hW, keepC y0 hW⟩)
      have KF := Lib.hid (show ∀ W : World, Below wk.heap.size wk W → W.cell? ⟨w.heap.size, 1, none⟩ = some (.slice (some adF) c.fields.length a) ∧ W.cell? ⟨(adF.add (j * 8)).block, (adF.add (j * 8)).off + 1, none⟩ = some (.int .i64 f.kind) from fun W hW => ⟨(KK.out W bW).1.2.1, keepC x1 hW⟩)
      generalize evalR c.fields us (k2 + 1) s.expr = r2 at *
      have hj0 : (0 : Int) ≤ (j : Int) := by omega
      have hj1 : (j : Int) < (c.fields.length : Int) := by omega
      have hlk0 : (0 : Int) ≤ (k : Int) := by omega
      have hlk1 : (k : Int) < (m.effects.length : Int) := by omega
      go_upto_region 21 with (fail)
      clear hx0 hx1 hj hfj hs hse hf0 x0 x1 x2 x3 x4 x5 x6 x7 y0 y1 y2 y3 y4 y5 y6 y7 y8 q0 q1 q2 q3 q4 q5 q6 q7 q8 q9 q10 q11 q12 hk2
      go_cut [11, 12] from 99 to 111 (fun s11 s12 W => ∃ g, s11 = .pointer (some ⟨g, 0, none⟩) ∧ s12 = .int .i64 r2.2 ∧ Loc1 g 39 #[.int .i64 r2.1.kind, .int .i64 r2.1.int, .bool r2.1.bool, .string ⟨r2.1.text.toArray⟩, .float .f64 r2.1.num] W ∧ Below wk.heap.size wk W)
      case first =>
        go_region_held3 (fun W => W.cell? ⟨w.heap.size, 1, none⟩ = some (.slice (some adF) c.fields.length a) ∧ W.cell? ⟨wo.heap.size, 11, none⟩ = some (.slice (some ax) m.effects.length f') ∧ W.cell? (ax.add (k * 9)) = some (.string ⟨s.field.toArray⟩) ∧ W.cell? ⟨(ax.add (k * 9)).block, (ax.add (k * 9)).off + 1, none⟩ = some (.int .i64 s.expr.op) ∧ W.cell? ⟨(ax.add (k * 9)).block, (ax.add (k * 9)).off + 2, none⟩ = some (.slice S' s.expr.kids.length s') ∧ W.cell? ⟨(ax.add (k * 9)).block, (ax.add (k * 9)).off + 3, none⟩ = some (.string ⟨s.expr.name.toArray⟩) ∧ W.cell? ⟨(ax.add (k * 9)).block, (ax.add (k * 9)).off + 4, none⟩ = some (.int .i64 s.expr.val.kind) ∧ W.cell? ⟨(ax.add (k * 9)).block, (ax.add (k * 9)).off + 5, none⟩ = some (.int .i64 s.expr.val.int) ∧ W.cell? ⟨(ax.add (k * 9)).block, (ax.add (k * 9)).off + 6, none⟩ = some (.bool s.expr.val.bool) ∧ W.cell? ⟨(ax.add (k * 9)).block, (ax.add (k * 9)).off + 7, none⟩ = some (.string ⟨s.expr.val.text.toArray⟩) ∧ W.cell? ⟨(ax.add (k * 9)).block, (ax.add (k * 9)).off + 8, none⟩ = some (.float .f64 s.expr.val.num)) (exact KE.out _ (by (focus (repeat (first | with_reducible exact Below.refl _ _ | with_reducible assumption | with_reducible refine bel_al _ ?_ | with_reducible refine bel_dr ?_ | with_reducible refine bel_dn _ ?_ | with_reducible refine bel_tr (by assumption) ?_ | with_reducible refine bel_st (by omega) ?_)))))
          (first
          | (go_at_call 15; refine (EV.out _ bW).mono ?_; rintro x9 wz ⟨rfl, hbz⟩; try (have LV : Loc1 _ 39 #[.int .i64 0, .int .i64 0, .bool false, .string ⟨#[]⟩, .float .f64 0] wz := Loc1.bel hbz (Loc1.new _ _ _); (try simp only [World.size_alloc, World.size_drew] at LV); obtain ⟨m0, m1, m2, m3, m4⟩ := cells5 LV; obtain ⟨u0, u1, u2, u3, u4⟩ := frees5 LV; have hzn := lt_of_heap LV)))
        all_goals (try simp only [Exit.then])
        all_goals apply_assumption
        all_goals go_meet
        all_goals first
          | (have h5 := set5_heap (.int .i64 r2.1.kind) (.int .i64 r2.1.int) (.bool r2.1.bool) (.string ⟨r2.1.text.toArray⟩) (.float .f64 r2.1.num) LV; unfold set5 at h5; exact ⟨_, rfl, rfl, h5, (by (focus (repeat (first | with_reducible exact Below.refl _ _ | with_reducible assumption | with_reducible refine bel_al _ ?_ | with_reducible refine bel_dr ?_ | with_reducible refine bel_dn _ ?_ | with_reducible refine bel_tr (by assumption) ?_ | with_reducible refine bel_st (by omega) ?_))))⟩)
          | exact ⟨_, rfl, rfl, Loc1.new _ _ _, bW⟩
      case rest =>
      obtain ⟨g, rfl, rfl, LG, hb11⟩ := hcut
      obtain ⟨w11, hwx⟩ : ∃ x, x = wc := ⟨_, rfl⟩
      subst hwx
      have KS := Lib.hid (show ∀ W : World, Below w11.heap.size w11 W → W.cell? ⟨w.heap.size, 1, none⟩ = some (.slice (some adF) c.fields.length a) ∧ W.cell? ⟨g, 0, none⟩ = some (.int .i64 r2.1.kind) ∧ W.cell? ⟨(adF.add (j * 8)).block, (adF.add (j * 8)).off + 1, none⟩ = some (.int .i64 f.kind) from fun W hW => ⟨(KF.out W bW).1, cell_of (LG.bel hW) 0, (KF.out W bW).2⟩)
      clear LG
      go_upto_region 22 with (fail)
      go_region_held3 (fun W => (W.cell? ⟨w.heap.size, 0, none⟩ = some (.string ⟨c.name.toArray⟩) ∧ W.cell? ⟨w.heap.size, 1, none⟩ = some (.slice (some adF) c.fields.length a) ∧ W.cell? ⟨w.heap.size, 2, none⟩ = some (.slice B c.stages.length b) ∧ W.cell? ⟨w.heap.size, 3, none⟩ = some (.slice (some ad) c.moves.length d)) ∧ W.cell? ⟨wo.heap.size, 11, none⟩ = some (.slice (some ax) m.effects.length f') ∧ W.cell? (ax.add (k * 9)) = some (.string ⟨s.field.toArray⟩)) (exact KG.out _ bW) (first | (go_at_call 16; refine (HFD.out _ bW).mono ?_; rintro x9 w12 ⟨rfl, hb12⟩))
      go_upto_region 23 with (fail)
      go_cut [12, 155] from 120 to 154 (fun s12 s W => s12 = .int .i64 r2.2 ∧ s = .bool false ∧ Below w12.heap.size w12 W)
      case first =>
        rcases T2.out with ⟨t1, t2⟩ | t1 | t1
        · have ht := Lib.hid t1
          rw [t1]
          rw [t2] at KS
          clear t1 t2
          refine wp_region_held_drew (S := fun W => W.cell? ⟨w.heap.size, 1, none⟩ = some (.slice (some adF) c.fields.length a) ∧ W.cell? ⟨g, 0, none⟩ = some (.int .i64 f.kind) ∧ W.cell? ⟨(adF.add (j * 8)).block, (adF.add (j * 8)).off + 1, none⟩ = some (.int .i64 f.kind)) (by kernel_rfl) (KS.out _ bW) (fun hHeld => ?_)
          refine wpAnyH_take (i := 0) (oi := { dst := some 120, op := Op.move (Operand.tmp 13), type := 3, pos := "law.go:131", after := #[], guard := none }) (v := .int .i64 j) rfl (by kernel_rfl) (by kernel_rfl) (by kernel_rfl) (fun _ _ _ h => h) (Or.inl ⟨by rfl, by (intro wz hSw; (try dsimp only at hSw); go_simp)⟩) (by assumption) ?_
          try simp only [Act.put, List.setIfInBounds_toArray, List.set_cons_zero, List.set_cons_succ]
          refine wpAnyH_take (i := 1) (oi := { dst := some 121, op := Op.binOp BinOp.lss 3 (Operand.tmp 120) (Operand.const (Value.int IntKind.i64 0)) 3, type := 4, pos := "law.go:131", after := #[{ on := 0, ground := Ground.data }], guard := none }) (v := .bool false) rfl (by kernel_rfl) (by kernel_rfl) (by kernel_rfl) (fun _ _ _ h => h) (Or.inl ⟨by rfl, by (intro wz hSw; (try dsimp only at hSw); go_simp)⟩) (by assumption) ?_
          try simp only [Act.put, List.setIfInBounds_toArray, List.set_cons_zero, List.set_cons_succ]
          refine wpAnyH_take (i := 2) (oi := { dst := some 122, op := Op.move (Operand.tmp 121), type := 4, pos := "law.go:131", after := #[{ on := 1, ground := Ground.data }], guard := none }) (v := .bool false) rfl (by kernel_rfl) (by kernel_rfl) (by kernel_rfl) (fun _ _ _ h => h) (Or.inl ⟨by rfl, by (intro wz hSw; (try dsimp only at hSw); go_simp)⟩) (by assumption) ?_
          try simp only [Act.put, List.setIfInBounds_toArray, List.set_cons_zero, List.set_cons_succ]
          refine wpAnyH_take (i := 3) (oi := { dst := some 123, op := Op.move (Operand.tmp 13), type := 3, pos := "law.go:131", after := #[{ on := 2, ground := Ground.guard }], guard := some (2, false) }) (v := .int .i64 j) rfl (by kernel_rfl) (by kernel_rfl) (by kernel_rfl) (fun _ _ _ h => h) (Or.inl ⟨by rfl, by (intro wz hSw; (try dsimp only at hSw); go_simp)⟩) (by assumption) ?_
          try simp only [Act.put, List.setIfInBounds_toArray, List.set_cons_zero, List.set_cons_succ]
          refine wpAnyH_take (i := 4) (oi := { dst := some 124, op := Op.fieldAddr 26 (Operand.tmp 2) 1, type := 0, pos := "law.go:131", after := #[{ on := 2, ground := Ground.guard }], guard := some (2, false) }) (v := .pointer (some ⟨w.heap.size, 1, none⟩)) rfl (by kernel_rfl) (by kernel_rfl) (by kernel_rfl) (fun _ _ _ h => h) (Or.inl ⟨by rfl, by (intro wz hSw; (try dsimp only at hSw); go_simp)⟩) (by assumption) ?_
          try simp only [Act.put, List.setIfInBounds_toArray, List.set_cons_zero, List.set_cons_succ]
          refine wpAnyH_take (i := 5) (oi := { dst := some 125, op := Op.load 22 (Operand.tmp 124), type := 22, pos := "law.go:131", after := #[{ on := 4, ground := Ground.data }, { on := 2, ground := Ground.guard }], guard := some (2, false) }) (v := .slice (some adF) c.fields.length a) rfl (by kernel_rfl) (by kernel_rfl) (by kernel_rfl) (fun _ _ _ h => h) (Or.inl ⟨by rfl, by (intro wz hSw; (try dsimp only at hSw); go_simp)⟩) (by assumption) ?_
          try simp only [Act.put, List.setIfInBounds_toArray, List.set_cons_zero, List.set_cons_succ]
          refine wpAnyH_take (i := 6) (oi := { dst := some 126, op := Op.call { callee := Callee.builtin Builtin.len, args := #[Operand.tmp 125], argTypes := #[22] }, type := 3, pos := "law.go:131", after := #[{ on := 5, ground := Ground.data }, { on := 2, ground := Ground.guard }], guard := some (2, false) }) (v := .int .i64 c.fields.length) rfl (by kernel_rfl) (by kernel_rfl) (by kernel_rfl) (fun _ _ _ h => h) (Or.inl ⟨by rfl, by (intro wz hSw; (try dsimp only at hSw); go_simp)⟩) (by assumption) ?_
          try simp only [Act.put, List.setIfInBounds_toArray, List.set_cons_zero, List.set_cons_succ]
          refine wpAnyH_take (i := 7) (oi := { dst := some 127, op := Op.binOp BinOp.geq 3 (Operand.tmp 123) (Operand.tmp 126) 3, type := 4, pos := "law.go:131", after := #[{ on := 3, ground := Ground.data }, { on := 6, ground := Ground.data }, { on := 2, ground := Ground.guard }], guard := some (2, false) }) (v := .bool false) rfl (by kernel_rfl) (by kernel_rfl) (by kernel_rfl) (fun _ _ _ h => h) (Or.inl ⟨by rfl, by (intro wz hSw; (try dsimp only at hSw); go_simp)⟩) (by assumption) ?_
          try simp only [Act.put, List.setIfInBounds_toArray, List.set_cons_zero, List.set_cons_succ]
          refine wpAnyH_take (i := 8) (oi := { dst := some 128, op := Op.pick (Operand.tmp 122) (Operand.const (Value.bool true)) (Operand.tmp 127), type := 4, pos := "law.go:131", after := #[{ on := 2, ground := Ground.data }, { on := 7, ground := Ground.data }], guard := none }) (v := .bool false) rfl (by kernel_rfl) (by kernel_rfl) (by kernel_rfl) (fun _ _ _ h => h) (Or.inl ⟨by rfl, by (intro wz hSw; (try dsimp only at hSw); go_simp)⟩) (by assumption) ?_
          try simp only [Act.put, List.setIfInBounds_toArray, List.set_cons_zero, List.set_cons_succ]
          refine wpAnyH_take (i := 9) (oi := { dst := some 129, op := Op.move (Operand.tmp 128), type := 4, pos := "law.go:131", after := #[{ on := 8, ground := Ground.data }, { on := 2, ground := Ground.chain }], guard := none }) (v := .bool false) rfl (by kernel_rfl) (by kernel_rfl) (by kernel_rfl) (fun _ _ _ h => h) (Or.inl ⟨by rfl, by (intro wz hSw; (try dsimp only at hSw); go_simp)⟩) (by assumption) ?_
          try simp only [Act.put, List.setIfInBounds_toArray, List.set_cons_zero, List.set_cons_succ]
          refine wpAnyH_take (i := 10) (oi := { dst := some 130, op := Op.move (Operand.tmp 12), type := 33, pos := "law.go:131", after := #[{ on := 9, ground := Ground.guard }], guard := some (9, false) }) (v := .int .i64 0) rfl (by kernel_rfl) (by kernel_rfl) (by kernel_rfl) (fun _ _ _ h => h) (Or.inl ⟨by rfl, by (intro wz hSw; (try dsimp only at hSw); go_simp)⟩) (by assumption) ?_
          try simp only [Act.put, List.setIfInBounds_toArray, List.set_cons_zero, List.set_cons_succ]
          refine wpAnyH_take (i := 11) (oi := { dst := some 131, op := Op.binOp BinOp.neq 33 (Operand.tmp 130) (Operand.const (Value.int IntKind.i64 0)) 33, type := 4, pos := "law.go:131", after := #[{ on := 10, ground := Ground.data }, { on := 9, ground := Ground.guard }], guard := some (9, false) }) (v := .bool false) rfl (by kernel_rfl) (by kernel_rfl) (by kernel_rfl) (fun _ _ _ h => h) (Or.inl ⟨by rfl, by (intro wz hSw; (try dsimp only at hSw); go_simp)⟩) (by assumption) ?_
          try simp only [Act.put, List.setIfInBounds_toArray, List.set_cons_zero, List.set_cons_succ]
          refine wpAnyH_take (i := 12) (oi := { dst := some 132, op := Op.move (Operand.tmp 131), type := 4, pos := "law.go:131", after := #[{ on := 11, ground := Ground.data }, { on := 9, ground := Ground.chain }, { on := 9, ground := Ground.guard }], guard := some (9, false) }) (v := .bool false) rfl (by kernel_rfl) (by kernel_rfl) (by kernel_rfl) (fun _ _ _ h => h) (Or.inl ⟨by rfl, by (intro wz hSw; (try dsimp only at hSw); go_simp)⟩) (by assumption) ?_
          try simp only [Act.put, List.setIfInBounds_toArray, List.set_cons_zero, List.set_cons_succ]
          refine wpAnyH_take (i := 13) (oi := { dst := some 133, op := Op.move (Operand.tmp 12), type := 33, pos := "law.go:131", after := #[{ on := 12, ground := Ground.guard }], guard := some (12, true) }) (v := undef) rfl (by kernel_rfl) (by kernel_rfl) (by kernel_rfl) (fun _ _ _ h => h) (Or.inr ⟨by rfl, rfl⟩) (by assumption) ?_
          try simp only [Act.put, List.setIfInBounds_toArray, List.set_cons_zero, List.set_cons_succ]
          refine wpAnyH_take (i := 14) (oi := { dst := some 134, op := Op.binOp BinOp.neq 33 (Operand.tmp 133) (Operand.const (Value.int IntKind.i64 41)) 33, type := 4, pos := "law.go:131", after := #[{ on := 13, ground := Ground.data }, { on := 12, ground := Ground.guard }], guard := some (12, true) }) (v := undef) rfl (by kernel_rfl) (by kernel_rfl) (by kernel_rfl) (fun _ _ _ h => h) (Or.inr ⟨by rfl, rfl⟩) (by assumption) ?_
          try simp only [Act.put, List.setIfInBounds_toArray, List.set_cons_zero, List.set_cons_succ]
          refine wpAnyH_take (i := 15) (oi := { dst := some 135, op := Op.pick (Operand.tmp 132) (Operand.tmp 134) (Operand.const (Value.bool false)), type := 4, pos := "law.go:131", after := #[{ on := 12, ground := Ground.data }, { on := 14, ground := Ground.data }, { on := 9, ground := Ground.guard }], guard := some (9, false) }) (v := .bool false) rfl (by kernel_rfl) (by kernel_rfl) (by kernel_rfl) (fun _ _ _ h => h) (Or.inl ⟨by rfl, by (intro wz hSw; (try dsimp only at hSw); go_simp)⟩) (by assumption) ?_
          try simp only [Act.put, List.setIfInBounds_toArray, List.set_cons_zero, List.set_cons_succ]
          refine wpAnyH_take (i := 16) (oi := { dst := some 136, op := Op.move (Operand.tmp 135), type := 4, pos := "law.go:131", after := #[{ on := 15, ground := Ground.data }, { on := 12, ground := Ground.chain }, { on := 9, ground := Ground.guard }], guard := some (9, false) }) (v := .bool false) rfl (by kernel_rfl) (by kernel_rfl) (by kernel_rfl) (fun _ _ _ h => h) (Or.inl ⟨by rfl, by (intro wz hSw; (try dsimp only at hSw); go_simp)⟩) (by assumption) ?_
          try simp only [Act.put, List.setIfInBounds_toArray, List.set_cons_zero, List.set_cons_succ]
          refine wpAnyH_take (i := 17) (oi := { dst := some 137, op := Op.move (Operand.tmp 12), type := 33, pos := "law.go:131", after := #[{ on := 16, ground := Ground.guard }], guard := some (16, true) }) (v := undef) rfl (by kernel_rfl) (by kernel_rfl) (by kernel_rfl) (fun _ _ _ h => h) (Or.inr ⟨by rfl, rfl⟩) (by assumption) ?_
          try simp only [Act.put, List.setIfInBounds_toArray, List.set_cons_zero, List.set_cons_succ]
          refine wpAnyH_take (i := 18) (oi := { dst := some 138, op := Op.binOp BinOp.neq 33 (Operand.tmp 137) (Operand.const (Value.int IntKind.i64 42)) 33, type := 4, pos := "law.go:131", after := #[{ on := 17, ground := Ground.data }, { on := 16, ground := Ground.guard }], guard := some (16, true) }) (v := undef) rfl (by kernel_rfl) (by kernel_rfl) (by kernel_rfl) (fun _ _ _ h => h) (Or.inr ⟨by rfl, rfl⟩) (by assumption) ?_
          try simp only [Act.put, List.setIfInBounds_toArray, List.set_cons_zero, List.set_cons_succ]
          refine wpAnyH_take (i := 19) (oi := { dst := some 139, op := Op.pick (Operand.tmp 136) (Operand.tmp 138) (Operand.const (Value.bool false)), type := 4, pos := "law.go:131", after := #[{ on := 16, ground := Ground.data }, { on := 18, ground := Ground.data }, { on := 9, ground := Ground.guard }], guard := some (9, false) }) (v := .bool false) rfl (by kernel_rfl) (by kernel_rfl) (by kernel_rfl) (fun _ _ _ h => h) (Or.inl ⟨by rfl, by (intro wz hSw; (try dsimp only at hSw); go_simp)⟩) (by assumption) ?_
          try simp only [Act.put, List.setIfInBounds_toArray, List.set_cons_zero, List.set_cons_succ]
          refine wpAnyH_take (i := 20) (oi := { dst := some 140, op := Op.pick (Operand.tmp 129) (Operand.const (Value.bool true)) (Operand.tmp 139), type := 4, pos := "law.go:131", after := #[{ on := 9, ground := Ground.data }, { on := 19, ground := Ground.data }], guard := none }) (v := .bool false) rfl (by kernel_rfl) (by kernel_rfl) (by kernel_rfl) (fun _ _ _ h => h) (Or.inl ⟨by rfl, by (intro wz hSw; (try dsimp only at hSw); go_simp)⟩) (by assumption) ?_
          try simp only [Act.put, List.setIfInBounds_toArray, List.set_cons_zero, List.set_cons_succ]
          refine wpAnyH_take (i := 21) (oi := { dst := some 141, op := Op.move (Operand.tmp 140), type := 4, pos := "law.go:131", after := #[{ on := 20, ground := Ground.data }, { on := 16, ground := Ground.chain }], guard := none }) (v := .bool false) rfl (by kernel_rfl) (by kernel_rfl) (by kernel_rfl) (fun _ _ _ h => h) (Or.inl ⟨by rfl, by (intro wz hSw; (try dsimp only at hSw); go_simp)⟩) (by assumption) ?_
          try simp only [Act.put, List.setIfInBounds_toArray, List.set_cons_zero, List.set_cons_succ]
          refine wpAnyH_take (i := 22) (oi := { dst := some 142, op := Op.move (Operand.tmp 12), type := 33, pos := "law.go:131", after := #[{ on := 21, ground := Ground.guard }], guard := some (21, false) }) (v := .int .i64 0) rfl (by kernel_rfl) (by kernel_rfl) (by kernel_rfl) (fun _ _ _ h => h) (Or.inl ⟨by rfl, by (intro wz hSw; (try dsimp only at hSw); go_simp)⟩) (by assumption) ?_
          try simp only [Act.put, List.setIfInBounds_toArray, List.set_cons_zero, List.set_cons_succ]
          refine wpAnyH_take (i := 23) (oi := { dst := some 143, op := Op.binOp BinOp.eql 33 (Operand.tmp 142) (Operand.const (Value.int IntKind.i64 0)) 33, type := 4, pos := "law.go:131", after := #[{ on := 22, ground := Ground.data }, { on := 21, ground := Ground.guard }], guard := some (21, false) }) (v := .bool true) rfl (by kernel_rfl) (by kernel_rfl) (by kernel_rfl) (fun _ _ _ h => h) (Or.inl ⟨by rfl, by (intro wz hSw; (try dsimp only at hSw); go_simp)⟩) (by assumption) ?_
          try simp only [Act.put, List.setIfInBounds_toArray, List.set_cons_zero, List.set_cons_succ]
          refine wpAnyH_take (i := 24) (oi := { dst := some 144, op := Op.move (Operand.tmp 143), type := 4, pos := "law.go:131", after := #[{ on := 23, ground := Ground.data }, { on := 21, ground := Ground.chain }, { on := 21, ground := Ground.guard }], guard := some (21, false) }) (v := .bool true) rfl (by kernel_rfl) (by kernel_rfl) (by kernel_rfl) (fun _ _ _ h => h) (Or.inl ⟨by rfl, by (intro wz hSw; (try dsimp only at hSw); go_simp)⟩) (by assumption) ?_
          try simp only [Act.put, List.setIfInBounds_toArray, List.set_cons_zero, List.set_cons_succ]
          refine wpAnyH_take (i := 25) (oi := { dst := some 145, op := Op.fieldAddr 39 (Operand.tmp 11) 0, type := 0, pos := "law.go:131", after := #[{ on := 24, ground := Ground.guard }], guard := some (24, true) }) (v := .pointer (some ⟨g, 0, none⟩)) rfl (by kernel_rfl) (by kernel_rfl) (by kernel_rfl) (fun _ _ _ h => h) (Or.inl ⟨by rfl, by (intro wz hSw; (try dsimp only at hSw); go_simp)⟩) (by assumption) ?_
          try simp only [Act.put, List.setIfInBounds_toArray, List.set_cons_zero, List.set_cons_succ]
          refine wpAnyH_take (i := 26) (oi := { dst := some 146, op := Op.load 3 (Operand.tmp 145), type := 3, pos := "law.go:131", after := #[{ on := 25, ground := Ground.data }, { on := 24, ground := Ground.guard }], guard := some (24, true) }) (v := .int .i64 f.kind) rfl (by kernel_rfl) (by kernel_rfl) (by kernel_rfl) (fun _ _ _ h => h) (Or.inl ⟨by rfl, by (intro wz hSw; (try dsimp only at hSw); go_simp)⟩) (by assumption) ?_
          try simp only [Act.put, List.setIfInBounds_toArray, List.set_cons_zero, List.set_cons_succ]
          refine wpAnyH_take (i := 27) (oi := { dst := some 147, op := Op.fieldAddr 26 (Operand.tmp 2) 1, type := 0, pos := "law.go:131", after := #[{ on := 24, ground := Ground.guard }], guard := some (24, true) }) (v := .pointer (some ⟨w.heap.size, 1, none⟩)) rfl (by kernel_rfl) (by kernel_rfl) (by kernel_rfl) (fun _ _ _ h => h) (Or.inl ⟨by rfl, by (intro wz hSw; (try dsimp only at hSw); go_simp)⟩) (by assumption) ?_
          try simp only [Act.put, List.setIfInBounds_toArray, List.set_cons_zero, List.set_cons_succ]
          refine wpAnyH_take (i := 28) (oi := { dst := some 148, op := Op.load 22 (Operand.tmp 147), type := 22, pos := "law.go:131", after := #[{ on := 27, ground := Ground.data }, { on := 24, ground := Ground.guard }], guard := some (24, true) }) (v := .slice (some adF) c.fields.length a) rfl (by kernel_rfl) (by kernel_rfl) (by kernel_rfl) (fun _ _ _ h => h) (Or.inl ⟨by rfl, by (intro wz hSw; (try dsimp only at hSw); go_simp)⟩) (by assumption) ?_
          try simp only [Act.put, List.setIfInBounds_toArray, List.set_cons_zero, List.set_cons_succ]
          refine wpAnyH_take (i := 29) (oi := { dst := some 149, op := Op.move (Operand.tmp 13), type := 3, pos := "law.go:131", after := #[{ on := 24, ground := Ground.guard }], guard := some (24, true) }) (v := .int .i64 j) rfl (by kernel_rfl) (by kernel_rfl) (by kernel_rfl) (fun _ _ _ h => h) (Or.inl ⟨by rfl, by (intro wz hSw; (try dsimp only at hSw); go_simp)⟩) (by assumption) ?_
          try simp only [Act.put, List.setIfInBounds_toArray, List.set_cons_zero, List.set_cons_succ]
          refine wpAnyH_take (i := 30) (oi := { dst := some 150, op := Op.indexAddr 22 (Operand.tmp 148) (Operand.tmp 149), type := 0, pos := "law.go:131", after := #[{ on := 28, ground := Ground.data }, { on := 29, ground := Ground.data }, { on := 24, ground := Ground.guard }], guard := some (24, true) }) (v := .pointer (some (adF.add (j * 8)))) rfl (by kernel_rfl) (by kernel_rfl) (by kernel_rfl) (fun _ _ _ h => h) (Or.inl ⟨by rfl, by (intro wz hSw; (try dsimp only at hSw); go_simp)⟩) (by assumption) ?_
          try simp only [Act.put, List.setIfInBounds_toArray, List.set_cons_zero, List.set_cons_succ]
          refine wpAnyH_take (i := 31) (oi := { dst := some 151, op := Op.fieldAddr 41 (Operand.tmp 150) 1, type := 0, pos := "law.go:131", after := #[{ on := 30, ground := Ground.data }, { on := 24, ground := Ground.guard }], guard := some (24, true) }) (v := .pointer (some ⟨(adF.add (j * 8)).block, (adF.add (j * 8)).off + 1, none⟩)) rfl (by kernel_rfl) (by kernel_rfl) (by kernel_rfl) (fun _ _ _ h => h) (Or.inl ⟨by rfl, by (intro wz hSw; (try dsimp only at hSw); go_simp)⟩) (by assumption) ?_
          try simp only [Act.put, List.setIfInBounds_toArray, List.set_cons_zero, List.set_cons_succ]
          refine wpAnyH_take (i := 32) (oi := { dst := some 152, op := Op.load 3 (Operand.tmp 151), type := 3, pos := "law.go:131", after := #[{ on := 31, ground := Ground.data }, { on := 24, ground := Ground.guard }], guard := some (24, true) }) (v := .int .i64 f.kind) rfl (by kernel_rfl) (by kernel_rfl) (by kernel_rfl) (fun _ _ _ h => h) (Or.inl ⟨by rfl, by (intro wz hSw; (try dsimp only at hSw); go_simp)⟩) (by assumption) ?_
          try simp only [Act.put, List.setIfInBounds_toArray, List.set_cons_zero, List.set_cons_succ]
          refine wpAnyH_take (i := 33) (oi := { dst := some 153, op := Op.binOp BinOp.neq 3 (Operand.tmp 146) (Operand.tmp 152) 3, type := 4, pos := "law.go:131", after := #[{ on := 26, ground := Ground.data }, { on := 32, ground := Ground.data }, { on := 24, ground := Ground.guard }], guard := some (24, true) }) (v := .bool false) rfl (by kernel_rfl) (by kernel_rfl) (by kernel_rfl) (fun _ _ _ h => h) (Or.inl ⟨by rfl, by (intro wz hSw; (try dsimp only at hSw); go_simp)⟩) (by assumption) ?_
          try simp only [Act.put, List.setIfInBounds_toArray, List.set_cons_zero, List.set_cons_succ]
          refine wpAnyH_take (i := 34) (oi := { dst := some 154, op := Op.pick (Operand.tmp 144) (Operand.tmp 153) (Operand.const (Value.bool false)), type := 4, pos := "law.go:131", after := #[{ on := 24, ground := Ground.data }, { on := 33, ground := Ground.data }, { on := 21, ground := Ground.guard }], guard := some (21, false) }) (v := .bool false) rfl (by kernel_rfl) (by kernel_rfl) (by kernel_rfl) (fun _ _ _ h => h) (Or.inl ⟨by rfl, by (intro wz hSw; (try dsimp only at hSw); go_simp)⟩) (by assumption) ?_
          try simp only [Act.put, List.setIfInBounds_toArray, List.set_cons_zero, List.set_cons_succ]
          refine wpAnyH_take (i := 35) (oi := { dst := some 155, op := Op.pick (Operand.tmp 141) (Operand.const (Value.bool true)) (Operand.tmp 154), type := 4, pos := "law.go:131", after := #[{ on := 21, ground := Ground.data }, { on := 34, ground := Ground.data }], guard := none }) (v := .bool false) rfl (by kernel_rfl) (by kernel_rfl) (by kernel_rfl) (fun _ _ _ h => h) (Or.inl ⟨by rfl, by (intro wz hSw; (try dsimp only at hSw); go_simp)⟩) (by assumption) ?_
          try simp only [Act.put, List.setIfInBounds_toArray, List.set_cons_zero, List.set_cons_succ]
          refine wpAnyH_done (by kernel_rfl) ?_ _
          try simp only [Exit.then]
          apply_assumption
          apply_assumption
          (repeat apply Exists.intro)
          refine ⟨?_, rfl⟩
          exact ⟨by rw [ht.out], rfl, bW⟩
        · have ht := Lib.hid t1
          rw [t1]
          clear t1
          refine wp_region_held_drew (S := fun W => W.cell? ⟨w.heap.size, 1, none⟩ = some (.slice (some adF) c.fields.length a) ∧ W.cell? ⟨g, 0, none⟩ = some (.int .i64 r2.1.kind) ∧ W.cell? ⟨(adF.add (j * 8)).block, (adF.add (j * 8)).off + 1, none⟩ = some (.int .i64 f.kind)) (by kernel_rfl) (KS.out _ bW) (fun hHeld => ?_)
          refine wpAnyH_take (i := 0) (oi := { dst := some 120, op := Op.move (Operand.tmp 13), type := 3, pos := "law.go:131", after := #[], guard := none }) (v := .int .i64 j) rfl (by kernel_rfl) (by kernel_rfl) (by kernel_rfl) (fun _ _ _ h => h) (Or.inl ⟨by rfl, by (intro wz hSw; (try dsimp only at hSw); go_simp)⟩) (by assumption) ?_
          try simp only [Act.put, List.setIfInBounds_toArray, List.set_cons_zero, List.set_cons_succ]
          refine wpAnyH_take (i := 1) (oi := { dst := some 121, op := Op.binOp BinOp.lss 3 (Operand.tmp 120) (Operand.const (Value.int IntKind.i64 0)) 3, type := 4, pos := "law.go:131", after := #[{ on := 0, ground := Ground.data }], guard := none }) (v := .bool false) rfl (by kernel_rfl) (by kernel_rfl) (by kernel_rfl) (fun _ _ _ h => h) (Or.inl ⟨by rfl, by (intro wz hSw; (try dsimp only at hSw); go_simp)⟩) (by assumption) ?_
          try simp only [Act.put, List.setIfInBounds_toArray, List.set_cons_zero, List.set_cons_succ]
          refine wpAnyH_take (i := 2) (oi := { dst := some 122, op := Op.move (Operand.tmp 121), type := 4, pos := "law.go:131", after := #[{ on := 1, ground := Ground.data }], guard := none }) (v := .bool false) rfl (by kernel_rfl) (by kernel_rfl) (by kernel_rfl) (fun _ _ _ h => h) (Or.inl ⟨by rfl, by (intro wz hSw; (try dsimp only at hSw); go_simp)⟩) (by assumption) ?_
          try simp only [Act.put, List.setIfInBounds_toArray, List.set_cons_zero, List.set_cons_succ]
          refine wpAnyH_take (i := 3) (oi := { dst := some 123, op := Op.move (Operand.tmp 13), type := 3, pos := "law.go:131", after := #[{ on := 2, ground := Ground.guard }], guard := some (2, false) }) (v := .int .i64 j) rfl (by kernel_rfl) (by kernel_rfl) (by kernel_rfl) (fun _ _ _ h => h) (Or.inl ⟨by rfl, by (intro wz hSw; (try dsimp only at hSw); go_simp)⟩) (by assumption) ?_
          try simp only [Act.put, List.setIfInBounds_toArray, List.set_cons_zero, List.set_cons_succ]
          refine wpAnyH_take (i := 4) (oi := { dst := some 124, op := Op.fieldAddr 26 (Operand.tmp 2) 1, type := 0, pos := "law.go:131", after := #[{ on := 2, ground := Ground.guard }], guard := some (2, false) }) (v := .pointer (some ⟨w.heap.size, 1, none⟩)) rfl (by kernel_rfl) (by kernel_rfl) (by kernel_rfl) (fun _ _ _ h => h) (Or.inl ⟨by rfl, by (intro wz hSw; (try dsimp only at hSw); go_simp)⟩) (by assumption) ?_
          try simp only [Act.put, List.setIfInBounds_toArray, List.set_cons_zero, List.set_cons_succ]
          refine wpAnyH_take (i := 5) (oi := { dst := some 125, op := Op.load 22 (Operand.tmp 124), type := 22, pos := "law.go:131", after := #[{ on := 4, ground := Ground.data }, { on := 2, ground := Ground.guard }], guard := some (2, false) }) (v := .slice (some adF) c.fields.length a) rfl (by kernel_rfl) (by kernel_rfl) (by kernel_rfl) (fun _ _ _ h => h) (Or.inl ⟨by rfl, by (intro wz hSw; (try dsimp only at hSw); go_simp)⟩) (by assumption) ?_
          try simp only [Act.put, List.setIfInBounds_toArray, List.set_cons_zero, List.set_cons_succ]
          refine wpAnyH_take (i := 6) (oi := { dst := some 126, op := Op.call { callee := Callee.builtin Builtin.len, args := #[Operand.tmp 125], argTypes := #[22] }, type := 3, pos := "law.go:131", after := #[{ on := 5, ground := Ground.data }, { on := 2, ground := Ground.guard }], guard := some (2, false) }) (v := .int .i64 c.fields.length) rfl (by kernel_rfl) (by kernel_rfl) (by kernel_rfl) (fun _ _ _ h => h) (Or.inl ⟨by rfl, by (intro wz hSw; (try dsimp only at hSw); go_simp)⟩) (by assumption) ?_
          try simp only [Act.put, List.setIfInBounds_toArray, List.set_cons_zero, List.set_cons_succ]
          refine wpAnyH_take (i := 7) (oi := { dst := some 127, op := Op.binOp BinOp.geq 3 (Operand.tmp 123) (Operand.tmp 126) 3, type := 4, pos := "law.go:131", after := #[{ on := 3, ground := Ground.data }, { on := 6, ground := Ground.data }, { on := 2, ground := Ground.guard }], guard := some (2, false) }) (v := .bool false) rfl (by kernel_rfl) (by kernel_rfl) (by kernel_rfl) (fun _ _ _ h => h) (Or.inl ⟨by rfl, by (intro wz hSw; (try dsimp only at hSw); go_simp)⟩) (by assumption) ?_
          try simp only [Act.put, List.setIfInBounds_toArray, List.set_cons_zero, List.set_cons_succ]
          refine wpAnyH_take (i := 8) (oi := { dst := some 128, op := Op.pick (Operand.tmp 122) (Operand.const (Value.bool true)) (Operand.tmp 127), type := 4, pos := "law.go:131", after := #[{ on := 2, ground := Ground.data }, { on := 7, ground := Ground.data }], guard := none }) (v := .bool false) rfl (by kernel_rfl) (by kernel_rfl) (by kernel_rfl) (fun _ _ _ h => h) (Or.inl ⟨by rfl, by (intro wz hSw; (try dsimp only at hSw); go_simp)⟩) (by assumption) ?_
          try simp only [Act.put, List.setIfInBounds_toArray, List.set_cons_zero, List.set_cons_succ]
          refine wpAnyH_take (i := 9) (oi := { dst := some 129, op := Op.move (Operand.tmp 128), type := 4, pos := "law.go:131", after := #[{ on := 8, ground := Ground.data }, { on := 2, ground := Ground.chain }], guard := none }) (v := .bool false) rfl (by kernel_rfl) (by kernel_rfl) (by kernel_rfl) (fun _ _ _ h => h) (Or.inl ⟨by rfl, by (intro wz hSw; (try dsimp only at hSw); go_simp)⟩) (by assumption) ?_
          try simp only [Act.put, List.setIfInBounds_toArray, List.set_cons_zero, List.set_cons_succ]
          refine wpAnyH_take (i := 10) (oi := { dst := some 130, op := Op.move (Operand.tmp 12), type := 33, pos := "law.go:131", after := #[{ on := 9, ground := Ground.guard }], guard := some (9, false) }) (v := .int .i64 41) rfl (by kernel_rfl) (by kernel_rfl) (by kernel_rfl) (fun _ _ _ h => h) (Or.inl ⟨by rfl, by (intro wz hSw; (try dsimp only at hSw); go_simp)⟩) (by assumption) ?_
          try simp only [Act.put, List.setIfInBounds_toArray, List.set_cons_zero, List.set_cons_succ]
          refine wpAnyH_take (i := 11) (oi := { dst := some 131, op := Op.binOp BinOp.neq 33 (Operand.tmp 130) (Operand.const (Value.int IntKind.i64 0)) 33, type := 4, pos := "law.go:131", after := #[{ on := 10, ground := Ground.data }, { on := 9, ground := Ground.guard }], guard := some (9, false) }) (v := .bool true) rfl (by kernel_rfl) (by kernel_rfl) (by kernel_rfl) (fun _ _ _ h => h) (Or.inl ⟨by rfl, by (intro wz hSw; (try dsimp only at hSw); go_simp)⟩) (by assumption) ?_
          try simp only [Act.put, List.setIfInBounds_toArray, List.set_cons_zero, List.set_cons_succ]
          refine wpAnyH_take (i := 12) (oi := { dst := some 132, op := Op.move (Operand.tmp 131), type := 4, pos := "law.go:131", after := #[{ on := 11, ground := Ground.data }, { on := 9, ground := Ground.chain }, { on := 9, ground := Ground.guard }], guard := some (9, false) }) (v := .bool true) rfl (by kernel_rfl) (by kernel_rfl) (by kernel_rfl) (fun _ _ _ h => h) (Or.inl ⟨by rfl, by (intro wz hSw; (try dsimp only at hSw); go_simp)⟩) (by assumption) ?_
          try simp only [Act.put, List.setIfInBounds_toArray, List.set_cons_zero, List.set_cons_succ]
          refine wpAnyH_take (i := 13) (oi := { dst := some 133, op := Op.move (Operand.tmp 12), type := 33, pos := "law.go:131", after := #[{ on := 12, ground := Ground.guard }], guard := some (12, true) }) (v := .int .i64 41) rfl (by kernel_rfl) (by kernel_rfl) (by kernel_rfl) (fun _ _ _ h => h) (Or.inl ⟨by rfl, by (intro wz hSw; (try dsimp only at hSw); go_simp)⟩) (by assumption) ?_
          try simp only [Act.put, List.setIfInBounds_toArray, List.set_cons_zero, List.set_cons_succ]
          refine wpAnyH_take (i := 14) (oi := { dst := some 134, op := Op.binOp BinOp.neq 33 (Operand.tmp 133) (Operand.const (Value.int IntKind.i64 41)) 33, type := 4, pos := "law.go:131", after := #[{ on := 13, ground := Ground.data }, { on := 12, ground := Ground.guard }], guard := some (12, true) }) (v := .bool false) rfl (by kernel_rfl) (by kernel_rfl) (by kernel_rfl) (fun _ _ _ h => h) (Or.inl ⟨by rfl, by (intro wz hSw; (try dsimp only at hSw); go_simp)⟩) (by assumption) ?_
          try simp only [Act.put, List.setIfInBounds_toArray, List.set_cons_zero, List.set_cons_succ]
          refine wpAnyH_take (i := 15) (oi := { dst := some 135, op := Op.pick (Operand.tmp 132) (Operand.tmp 134) (Operand.const (Value.bool false)), type := 4, pos := "law.go:131", after := #[{ on := 12, ground := Ground.data }, { on := 14, ground := Ground.data }, { on := 9, ground := Ground.guard }], guard := some (9, false) }) (v := .bool false) rfl (by kernel_rfl) (by kernel_rfl) (by kernel_rfl) (fun _ _ _ h => h) (Or.inl ⟨by rfl, by (intro wz hSw; (try dsimp only at hSw); go_simp)⟩) (by assumption) ?_
          try simp only [Act.put, List.setIfInBounds_toArray, List.set_cons_zero, List.set_cons_succ]
          refine wpAnyH_take (i := 16) (oi := { dst := some 136, op := Op.move (Operand.tmp 135), type := 4, pos := "law.go:131", after := #[{ on := 15, ground := Ground.data }, { on := 12, ground := Ground.chain }, { on := 9, ground := Ground.guard }], guard := some (9, false) }) (v := .bool false) rfl (by kernel_rfl) (by kernel_rfl) (by kernel_rfl) (fun _ _ _ h => h) (Or.inl ⟨by rfl, by (intro wz hSw; (try dsimp only at hSw); go_simp)⟩) (by assumption) ?_
          try simp only [Act.put, List.setIfInBounds_toArray, List.set_cons_zero, List.set_cons_succ]
          refine wpAnyH_take (i := 17) (oi := { dst := some 137, op := Op.move (Operand.tmp 12), type := 33, pos := "law.go:131", after := #[{ on := 16, ground := Ground.guard }], guard := some (16, true) }) (v := undef) rfl (by kernel_rfl) (by kernel_rfl) (by kernel_rfl) (fun _ _ _ h => h) (Or.inr ⟨by rfl, rfl⟩) (by assumption) ?_
          try simp only [Act.put, List.setIfInBounds_toArray, List.set_cons_zero, List.set_cons_succ]
          refine wpAnyH_take (i := 18) (oi := { dst := some 138, op := Op.binOp BinOp.neq 33 (Operand.tmp 137) (Operand.const (Value.int IntKind.i64 42)) 33, type := 4, pos := "law.go:131", after := #[{ on := 17, ground := Ground.data }, { on := 16, ground := Ground.guard }], guard := some (16, true) }) (v := undef) rfl (by kernel_rfl) (by kernel_rfl) (by kernel_rfl) (fun _ _ _ h => h) (Or.inr ⟨by rfl, rfl⟩) (by assumption) ?_
          try simp only [Act.put, List.setIfInBounds_toArray, List.set_cons_zero, List.set_cons_succ]
          refine wpAnyH_take (i := 19) (oi := { dst := some 139, op := Op.pick (Operand.tmp 136) (Operand.tmp 138) (Operand.const (Value.bool false)), type := 4, pos := "law.go:131", after := #[{ on := 16, ground := Ground.data }, { on := 18, ground := Ground.data }, { on := 9, ground := Ground.guard }], guard := some (9, false) }) (v := .bool false) rfl (by kernel_rfl) (by kernel_rfl) (by kernel_rfl) (fun _ _ _ h => h) (Or.inl ⟨by rfl, by (intro wz hSw; (try dsimp only at hSw); go_simp)⟩) (by assumption) ?_
          try simp only [Act.put, List.setIfInBounds_toArray, List.set_cons_zero, List.set_cons_succ]
          refine wpAnyH_take (i := 20) (oi := { dst := some 140, op := Op.pick (Operand.tmp 129) (Operand.const (Value.bool true)) (Operand.tmp 139), type := 4, pos := "law.go:131", after := #[{ on := 9, ground := Ground.data }, { on := 19, ground := Ground.data }], guard := none }) (v := .bool false) rfl (by kernel_rfl) (by kernel_rfl) (by kernel_rfl) (fun _ _ _ h => h) (Or.inl ⟨by rfl, by (intro wz hSw; (try dsimp only at hSw); go_simp)⟩) (by assumption) ?_
          try simp only [Act.put, List.setIfInBounds_toArray, List.set_cons_zero, List.set_cons_succ]
          refine wpAnyH_take (i := 21) (oi := { dst := some 141, op := Op.move (Operand.tmp 140), type := 4, pos := "law.go:131", after := #[{ on := 20, ground := Ground.data }, { on := 16, ground := Ground.chain }], guard := none }) (v := .bool false) rfl (by kernel_rfl) (by kernel_rfl) (by kernel_rfl) (fun _ _ _ h => h) (Or.inl ⟨by rfl, by (intro wz hSw; (try dsimp only at hSw); go_simp)⟩) (by assumption) ?_
          try simp only [Act.put, List.setIfInBounds_toArray, List.set_cons_zero, List.set_cons_succ]
          refine wpAnyH_take (i := 22) (oi := { dst := some 142, op := Op.move (Operand.tmp 12), type := 33, pos := "law.go:131", after := #[{ on := 21, ground := Ground.guard }], guard := some (21, false) }) (v := .int .i64 41) rfl (by kernel_rfl) (by kernel_rfl) (by kernel_rfl) (fun _ _ _ h => h) (Or.inl ⟨by rfl, by (intro wz hSw; (try dsimp only at hSw); go_simp)⟩) (by assumption) ?_
          try simp only [Act.put, List.setIfInBounds_toArray, List.set_cons_zero, List.set_cons_succ]
          refine wpAnyH_take (i := 23) (oi := { dst := some 143, op := Op.binOp BinOp.eql 33 (Operand.tmp 142) (Operand.const (Value.int IntKind.i64 0)) 33, type := 4, pos := "law.go:131", after := #[{ on := 22, ground := Ground.data }, { on := 21, ground := Ground.guard }], guard := some (21, false) }) (v := .bool false) rfl (by kernel_rfl) (by kernel_rfl) (by kernel_rfl) (fun _ _ _ h => h) (Or.inl ⟨by rfl, by (intro wz hSw; (try dsimp only at hSw); go_simp)⟩) (by assumption) ?_
          try simp only [Act.put, List.setIfInBounds_toArray, List.set_cons_zero, List.set_cons_succ]
          refine wpAnyH_take (i := 24) (oi := { dst := some 144, op := Op.move (Operand.tmp 143), type := 4, pos := "law.go:131", after := #[{ on := 23, ground := Ground.data }, { on := 21, ground := Ground.chain }, { on := 21, ground := Ground.guard }], guard := some (21, false) }) (v := .bool false) rfl (by kernel_rfl) (by kernel_rfl) (by kernel_rfl) (fun _ _ _ h => h) (Or.inl ⟨by rfl, by (intro wz hSw; (try dsimp only at hSw); go_simp)⟩) (by assumption) ?_
          try simp only [Act.put, List.setIfInBounds_toArray, List.set_cons_zero, List.set_cons_succ]
          refine wpAnyH_take (i := 25) (oi := { dst := some 145, op := Op.fieldAddr 39 (Operand.tmp 11) 0, type := 0, pos := "law.go:131", after := #[{ on := 24, ground := Ground.guard }], guard := some (24, true) }) (v := undef) rfl (by kernel_rfl) (by kernel_rfl) (by kernel_rfl) (fun _ _ _ h => h) (Or.inr ⟨by rfl, rfl⟩) (by assumption) ?_
          try simp only [Act.put, List.setIfInBounds_toArray, List.set_cons_zero, List.set_cons_succ]
          refine wpAnyH_take (i := 26) (oi := { dst := some 146, op := Op.load 3 (Operand.tmp 145), type := 3, pos := "law.go:131", after := #[{ on := 25, ground := Ground.data }, { on := 24, ground := Ground.guard }], guard := some (24, true) }) (v := undef) rfl (by kernel_rfl) (by kernel_rfl) (by kernel_rfl) (fun _ _ _ h => h) (Or.inr ⟨by rfl, rfl⟩) (by assumption) ?_
          try simp only [Act.put, List.setIfInBounds_toArray, List.set_cons_zero, List.set_cons_succ]
          refine wpAnyH_take (i := 27) (oi := { dst := some 147, op := Op.fieldAddr 26 (Operand.tmp 2) 1, type := 0, pos := "law.go:131", after := #[{ on := 24, ground := Ground.guard }], guard := some (24, true) }) (v := undef) rfl (by kernel_rfl) (by kernel_rfl) (by kernel_rfl) (fun _ _ _ h => h) (Or.inr ⟨by rfl, rfl⟩) (by assumption) ?_
          try simp only [Act.put, List.setIfInBounds_toArray, List.set_cons_zero, List.set_cons_succ]
          refine wpAnyH_take (i := 28) (oi := { dst := some 148, op := Op.load 22 (Operand.tmp 147), type := 22, pos := "law.go:131", after := #[{ on := 27, ground := Ground.data }, { on := 24, ground := Ground.guard }], guard := some (24, true) }) (v := undef) rfl (by kernel_rfl) (by kernel_rfl) (by kernel_rfl) (fun _ _ _ h => h) (Or.inr ⟨by rfl, rfl⟩) (by assumption) ?_
          try simp only [Act.put, List.setIfInBounds_toArray, List.set_cons_zero, List.set_cons_succ]
          refine wpAnyH_take (i := 29) (oi := { dst := some 149, op := Op.move (Operand.tmp 13), type := 3, pos := "law.go:131", after := #[{ on := 24, ground := Ground.guard }], guard := some (24, true) }) (v := undef) rfl (by kernel_rfl) (by kernel_rfl) (by kernel_rfl) (fun _ _ _ h => h) (Or.inr ⟨by rfl, rfl⟩) (by assumption) ?_
          try simp only [Act.put, List.setIfInBounds_toArray, List.set_cons_zero, List.set_cons_succ]
          refine wpAnyH_take (i := 30) (oi := { dst := some 150, op := Op.indexAddr 22 (Operand.tmp 148) (Operand.tmp 149), type := 0, pos := "law.go:131", after := #[{ on := 28, ground := Ground.data }, { on := 29, ground := Ground.data }, { on := 24, ground := Ground.guard }], guard := some (24, true) }) (v := undef) rfl (by kernel_rfl) (by kernel_rfl) (by kernel_rfl) (fun _ _ _ h => h) (Or.inr ⟨by rfl, rfl⟩) (by assumption) ?_
          try simp only [Act.put, List.setIfInBounds_toArray, List.set_cons_zero, List.set_cons_succ]
          refine wpAnyH_take (i := 31) (oi := { dst := some 151, op := Op.fieldAddr 41 (Operand.tmp 150) 1, type := 0, pos := "law.go:131", after := #[{ on := 30, ground := Ground.data }, { on := 24, ground := Ground.guard }], guard := some (24, true) }) (v := undef) rfl (by kernel_rfl) (by kernel_rfl) (by kernel_rfl) (fun _ _ _ h => h) (Or.inr ⟨by rfl, rfl⟩) (by assumption) ?_
          try simp only [Act.put, List.setIfInBounds_toArray, List.set_cons_zero, List.set_cons_succ]
          refine wpAnyH_take (i := 32) (oi := { dst := some 152, op := Op.load 3 (Operand.tmp 151), type := 3, pos := "law.go:131", after := #[{ on := 31, ground := Ground.data }, { on := 24, ground := Ground.guard }], guard := some (24, true) }) (v := undef) rfl (by kernel_rfl) (by kernel_rfl) (by kernel_rfl) (fun _ _ _ h => h) (Or.inr ⟨by rfl, rfl⟩) (by assumption) ?_
          try simp only [Act.put, List.setIfInBounds_toArray, List.set_cons_zero, List.set_cons_succ]
          refine wpAnyH_take (i := 33) (oi := { dst := some 153, op := Op.binOp BinOp.neq 3 (Operand.tmp 146) (Operand.tmp 152) 3, type := 4, pos := "law.go:131", after := #[{ on := 26, ground := Ground.data }, { on := 32, ground := Ground.data }, { on := 24, ground := Ground.guard }], guard := some (24, true) }) (v := undef) rfl (by kernel_rfl) (by kernel_rfl) (by kernel_rfl) (fun _ _ _ h => h) (Or.inr ⟨by rfl, rfl⟩) (by assumption) ?_
          try simp only [Act.put, List.setIfInBounds_toArray, List.set_cons_zero, List.set_cons_succ]
          refine wpAnyH_take (i := 34) (oi := { dst := some 154, op := Op.pick (Operand.tmp 144) (Operand.tmp 153) (Operand.const (Value.bool false)), type := 4, pos := "law.go:131", after := #[{ on := 24, ground := Ground.data }, { on := 33, ground := Ground.data }, { on := 21, ground := Ground.guard }], guard := some (21, false) }) (v := .bool false) rfl (by kernel_rfl) (by kernel_rfl) (by kernel_rfl) (fun _ _ _ h => h) (Or.inl ⟨by rfl, by (intro wz hSw; (try dsimp only at hSw); go_simp)⟩) (by assumption) ?_
          try simp only [Act.put, List.setIfInBounds_toArray, List.set_cons_zero, List.set_cons_succ]
          refine wpAnyH_take (i := 35) (oi := { dst := some 155, op := Op.pick (Operand.tmp 141) (Operand.const (Value.bool true)) (Operand.tmp 154), type := 4, pos := "law.go:131", after := #[{ on := 21, ground := Ground.data }, { on := 34, ground := Ground.data }], guard := none }) (v := .bool false) rfl (by kernel_rfl) (by kernel_rfl) (by kernel_rfl) (fun _ _ _ h => h) (Or.inl ⟨by rfl, by (intro wz hSw; (try dsimp only at hSw); go_simp)⟩) (by assumption) ?_
          try simp only [Act.put, List.setIfInBounds_toArray, List.set_cons_zero, List.set_cons_succ]
          refine wpAnyH_done (by kernel_rfl) ?_ _
          try simp only [Exit.then]
          apply_assumption
          apply_assumption
          (repeat apply Exists.intro)
          refine ⟨?_, rfl⟩
          exact ⟨by rw [ht.out], rfl, bW⟩
        · have ht := Lib.hid t1
          rw [t1]
          clear t1
          refine wp_region_held_drew (S := fun W => W.cell? ⟨w.heap.size, 1, none⟩ = some (.slice (some adF) c.fields.length a) ∧ W.cell? ⟨g, 0, none⟩ = some (.int .i64 r2.1.kind) ∧ W.cell? ⟨(adF.add (j * 8)).block, (adF.add (j * 8)).off + 1, none⟩ = some (.int .i64 f.kind)) (by kernel_rfl) (KS.out _ bW) (fun hHeld => ?_)
          refine wpAnyH_take (i := 0) (oi := { dst := some 120, op := Op.move (Operand.tmp 13), type := 3, pos := "law.go:131", after := #[], guard := none }) (v := .int .i64 j) rfl (by kernel_rfl) (by kernel_rfl) (by kernel_rfl) (fun _ _ _ h => h) (Or.inl ⟨by rfl, by (intro wz hSw; (try dsimp only at hSw); go_simp)⟩) (by assumption) ?_
          try simp only [Act.put, List.setIfInBounds_toArray, List.set_cons_zero, List.set_cons_succ]
          refine wpAnyH_take (i := 1) (oi := { dst := some 121, op := Op.binOp BinOp.lss 3 (Operand.tmp 120) (Operand.const (Value.int IntKind.i64 0)) 3, type := 4, pos := "law.go:131", after := #[{ on := 0, ground := Ground.data }], guard := none }) (v := .bool false) rfl (by kernel_rfl) (by kernel_rfl) (by kernel_rfl) (fun _ _ _ h => h) (Or.inl ⟨by rfl, by (intro wz hSw; (try dsimp only at hSw); go_simp)⟩) (by assumption) ?_
          try simp only [Act.put, List.setIfInBounds_toArray, List.set_cons_zero, List.set_cons_succ]
          refine wpAnyH_take (i := 2) (oi := { dst := some 122, op := Op.move (Operand.tmp 121), type := 4, pos := "law.go:131", after := #[{ on := 1, ground := Ground.data }], guard := none }) (v := .bool false) rfl (by kernel_rfl) (by kernel_rfl) (by kernel_rfl) (fun _ _ _ h => h) (Or.inl ⟨by rfl, by (intro wz hSw; (try dsimp only at hSw); go_simp)⟩) (by assumption) ?_
          try simp only [Act.put, List.setIfInBounds_toArray, List.set_cons_zero, List.set_cons_succ]
          refine wpAnyH_take (i := 3) (oi := { dst := some 123, op := Op.move (Operand.tmp 13), type := 3, pos := "law.go:131", after := #[{ on := 2, ground := Ground.guard }], guard := some (2, false) }) (v := .int .i64 j) rfl (by kernel_rfl) (by kernel_rfl) (by kernel_rfl) (fun _ _ _ h => h) (Or.inl ⟨by rfl, by (intro wz hSw; (try dsimp only at hSw); go_simp)⟩) (by assumption) ?_
          try simp only [Act.put, List.setIfInBounds_toArray, List.set_cons_zero, List.set_cons_succ]
          refine wpAnyH_take (i := 4) (oi := { dst := some 124, op := Op.fieldAddr 26 (Operand.tmp 2) 1, type := 0, pos := "law.go:131", after := #[{ on := 2, ground := Ground.guard }], guard := some (2, false) }) (v := .pointer (some ⟨w.heap.size, 1, none⟩)) rfl (by kernel_rfl) (by kernel_rfl) (by kernel_rfl) (fun _ _ _ h => h) (Or.inl ⟨by rfl, by (intro wz hSw; (try dsimp only at hSw); go_simp)⟩) (by assumption) ?_
          try simp only [Act.put, List.setIfInBounds_toArray, List.set_cons_zero, List.set_cons_succ]
          refine wpAnyH_take (i := 5) (oi := { dst := some 125, op := Op.load 22 (Operand.tmp 124), type := 22, pos := "law.go:131", after := #[{ on := 4, ground := Ground.data }, { on := 2, ground := Ground.guard }], guard := some (2, false) }) (v := .slice (some adF) c.fields.length a) rfl (by kernel_rfl) (by kernel_rfl) (by kernel_rfl) (fun _ _ _ h => h) (Or.inl ⟨by rfl, by (intro wz hSw; (try dsimp only at hSw); go_simp)⟩) (by assumption) ?_
          try simp only [Act.put, List.setIfInBounds_toArray, List.set_cons_zero, List.set_cons_succ]
          refine wpAnyH_take (i := 6) (oi := { dst := some 126, op := Op.call { callee := Callee.builtin Builtin.len, args := #[Operand.tmp 125], argTypes := #[22] }, type := 3, pos := "law.go:131", after := #[{ on := 5, ground := Ground.data }, { on := 2, ground := Ground.guard }], guard := some (2, false) }) (v := .int .i64 c.fields.length) rfl (by kernel_rfl) (by kernel_rfl) (by kernel_rfl) (fun _ _ _ h => h) (Or.inl ⟨by rfl, by (intro wz hSw; (try dsimp only at hSw); go_simp)⟩) (by assumption) ?_
          try simp only [Act.put, List.setIfInBounds_toArray, List.set_cons_zero, List.set_cons_succ]
          refine wpAnyH_take (i := 7) (oi := { dst := some 127, op := Op.binOp BinOp.geq 3 (Operand.tmp 123) (Operand.tmp 126) 3, type := 4, pos := "law.go:131", after := #[{ on := 3, ground := Ground.data }, { on := 6, ground := Ground.data }, { on := 2, ground := Ground.guard }], guard := some (2, false) }) (v := .bool false) rfl (by kernel_rfl) (by kernel_rfl) (by kernel_rfl) (fun _ _ _ h => h) (Or.inl ⟨by rfl, by (intro wz hSw; (try dsimp only at hSw); go_simp)⟩) (by assumption) ?_
          try simp only [Act.put, List.setIfInBounds_toArray, List.set_cons_zero, List.set_cons_succ]
          refine wpAnyH_take (i := 8) (oi := { dst := some 128, op := Op.pick (Operand.tmp 122) (Operand.const (Value.bool true)) (Operand.tmp 127), type := 4, pos := "law.go:131", after := #[{ on := 2, ground := Ground.data }, { on := 7, ground := Ground.data }], guard := none }) (v := .bool false) rfl (by kernel_rfl) (by kernel_rfl) (by kernel_rfl) (fun _ _ _ h => h) (Or.inl ⟨by rfl, by (intro wz hSw; (try dsimp only at hSw); go_simp)⟩) (by assumption) ?_
          try simp only [Act.put, List.setIfInBounds_toArray, List.set_cons_zero, List.set_cons_succ]
          refine wpAnyH_take (i := 9) (oi := { dst := some 129, op := Op.move (Operand.tmp 128), type := 4, pos := "law.go:131", after := #[{ on := 8, ground := Ground.data }, { on := 2, ground := Ground.chain }], guard := none }) (v := .bool false) rfl (by kernel_rfl) (by kernel_rfl) (by kernel_rfl) (fun _ _ _ h => h) (Or.inl ⟨by rfl, by (intro wz hSw; (try dsimp only at hSw); go_simp)⟩) (by assumption) ?_
          try simp only [Act.put, List.setIfInBounds_toArray, List.set_cons_zero, List.set_cons_succ]
          refine wpAnyH_take (i := 10) (oi := { dst := some 130, op := Op.move (Operand.tmp 12), type := 33, pos := "law.go:131", after := #[{ on := 9, ground := Ground.guard }], guard := some (9, false) }) (v := .int .i64 42) rfl (by kernel_rfl) (by kernel_rfl) (by kernel_rfl) (fun _ _ _ h => h) (Or.inl ⟨by rfl, by (intro wz hSw; (try dsimp only at hSw); go_simp)⟩) (by assumption) ?_
          try simp only [Act.put, List.setIfInBounds_toArray, List.set_cons_zero, List.set_cons_succ]
          refine wpAnyH_take (i := 11) (oi := { dst := some 131, op := Op.binOp BinOp.neq 33 (Operand.tmp 130) (Operand.const (Value.int IntKind.i64 0)) 33, type := 4, pos := "law.go:131", after := #[{ on := 10, ground := Ground.data }, { on := 9, ground := Ground.guard }], guard := some (9, false) }) (v := .bool true) rfl (by kernel_rfl) (by kernel_rfl) (by kernel_rfl) (fun _ _ _ h => h) (Or.inl ⟨by rfl, by (intro wz hSw; (try dsimp only at hSw); go_simp)⟩) (by assumption) ?_
          try simp only [Act.put, List.setIfInBounds_toArray, List.set_cons_zero, List.set_cons_succ]
          refine wpAnyH_take (i := 12) (oi := { dst := some 132, op := Op.move (Operand.tmp 131), type := 4, pos := "law.go:131", after := #[{ on := 11, ground := Ground.data }, { on := 9, ground := Ground.chain }, { on := 9, ground := Ground.guard }], guard := some (9, false) }) (v := .bool true) rfl (by kernel_rfl) (by kernel_rfl) (by kernel_rfl) (fun _ _ _ h => h) (Or.inl ⟨by rfl, by (intro wz hSw; (try dsimp only at hSw); go_simp)⟩) (by assumption) ?_
          try simp only [Act.put, List.setIfInBounds_toArray, List.set_cons_zero, List.set_cons_succ]
          refine wpAnyH_take (i := 13) (oi := { dst := some 133, op := Op.move (Operand.tmp 12), type := 33, pos := "law.go:131", after := #[{ on := 12, ground := Ground.guard }], guard := some (12, true) }) (v := .int .i64 42) rfl (by kernel_rfl) (by kernel_rfl) (by kernel_rfl) (fun _ _ _ h => h) (Or.inl ⟨by rfl, by (intro wz hSw; (try dsimp only at hSw); go_simp)⟩) (by assumption) ?_
          try simp only [Act.put, List.setIfInBounds_toArray, List.set_cons_zero, List.set_cons_succ]
          refine wpAnyH_take (i := 14) (oi := { dst := some 134, op := Op.binOp BinOp.neq 33 (Operand.tmp 133) (Operand.const (Value.int IntKind.i64 41)) 33, type := 4, pos := "law.go:131", after := #[{ on := 13, ground := Ground.data }, { on := 12, ground := Ground.guard }], guard := some (12, true) }) (v := .bool true) rfl (by kernel_rfl) (by kernel_rfl) (by kernel_rfl) (fun _ _ _ h => h) (Or.inl ⟨by rfl, by (intro wz hSw; (try dsimp only at hSw); go_simp)⟩) (by assumption) ?_
          try simp only [Act.put, List.setIfInBounds_toArray, List.set_cons_zero, List.set_cons_succ]
          refine wpAnyH_take (i := 15) (oi := { dst := some 135, op := Op.pick (Operand.tmp 132) (Operand.tmp 134) (Operand.const (Value.bool false)), type := 4, pos := "law.go:131", after := #[{ on := 12, ground := Ground.data }, { on := 14, ground := Ground.data }, { on := 9, ground := Ground.guard }], guard := some (9, false) }) (v := .bool true) rfl (by kernel_rfl) (by kernel_rfl) (by kernel_rfl) (fun _ _ _ h => h) (Or.inl ⟨by rfl, by (intro wz hSw; (try dsimp only at hSw); go_simp)⟩) (by assumption) ?_
          try simp only [Act.put, List.setIfInBounds_toArray, List.set_cons_zero, List.set_cons_succ]
          refine wpAnyH_take (i := 16) (oi := { dst := some 136, op := Op.move (Operand.tmp 135), type := 4, pos := "law.go:131", after := #[{ on := 15, ground := Ground.data }, { on := 12, ground := Ground.chain }, { on := 9, ground := Ground.guard }], guard := some (9, false) }) (v := .bool true) rfl (by kernel_rfl) (by kernel_rfl) (by kernel_rfl) (fun _ _ _ h => h) (Or.inl ⟨by rfl, by (intro wz hSw; (try dsimp only at hSw); go_simp)⟩) (by assumption) ?_
          try simp only [Act.put, List.setIfInBounds_toArray, List.set_cons_zero, List.set_cons_succ]
          refine wpAnyH_take (i := 17) (oi := { dst := some 137, op := Op.move (Operand.tmp 12), type := 33, pos := "law.go:131", after := #[{ on := 16, ground := Ground.guard }], guard := some (16, true) }) (v := .int .i64 42) rfl (by kernel_rfl) (by kernel_rfl) (by kernel_rfl) (fun _ _ _ h => h) (Or.inl ⟨by rfl, by (intro wz hSw; (try dsimp only at hSw); go_simp)⟩) (by assumption) ?_
          try simp only [Act.put, List.setIfInBounds_toArray, List.set_cons_zero, List.set_cons_succ]
          refine wpAnyH_take (i := 18) (oi := { dst := some 138, op := Op.binOp BinOp.neq 33 (Operand.tmp 137) (Operand.const (Value.int IntKind.i64 42)) 33, type := 4, pos := "law.go:131", after := #[{ on := 17, ground := Ground.data }, { on := 16, ground := Ground.guard }], guard := some (16, true) }) (v := .bool false) rfl (by kernel_rfl) (by kernel_rfl) (by kernel_rfl) (fun _ _ _ h => h) (Or.inl ⟨by rfl, by (intro wz hSw; (try dsimp only at hSw); go_simp)⟩) (by assumption) ?_
          try simp only [Act.put, List.setIfInBounds_toArray, List.set_cons_zero, List.set_cons_succ]
          refine wpAnyH_take (i := 19) (oi := { dst := some 139, op := Op.pick (Operand.tmp 136) (Operand.tmp 138) (Operand.const (Value.bool false)), type := 4, pos := "law.go:131", after := #[{ on := 16, ground := Ground.data }, { on := 18, ground := Ground.data }, { on := 9, ground := Ground.guard }], guard := some (9, false) }) (v := .bool false) rfl (by kernel_rfl) (by kernel_rfl) (by kernel_rfl) (fun _ _ _ h => h) (Or.inl ⟨by rfl, by (intro wz hSw; (try dsimp only at hSw); go_simp)⟩) (by assumption) ?_
          try simp only [Act.put, List.setIfInBounds_toArray, List.set_cons_zero, List.set_cons_succ]
          refine wpAnyH_take (i := 20) (oi := { dst := some 140, op := Op.pick (Operand.tmp 129) (Operand.const (Value.bool true)) (Operand.tmp 139), type := 4, pos := "law.go:131", after := #[{ on := 9, ground := Ground.data }, { on := 19, ground := Ground.data }], guard := none }) (v := .bool false) rfl (by kernel_rfl) (by kernel_rfl) (by kernel_rfl) (fun _ _ _ h => h) (Or.inl ⟨by rfl, by (intro wz hSw; (try dsimp only at hSw); go_simp)⟩) (by assumption) ?_
          try simp only [Act.put, List.setIfInBounds_toArray, List.set_cons_zero, List.set_cons_succ]
          refine wpAnyH_take (i := 21) (oi := { dst := some 141, op := Op.move (Operand.tmp 140), type := 4, pos := "law.go:131", after := #[{ on := 20, ground := Ground.data }, { on := 16, ground := Ground.chain }], guard := none }) (v := .bool false) rfl (by kernel_rfl) (by kernel_rfl) (by kernel_rfl) (fun _ _ _ h => h) (Or.inl ⟨by rfl, by (intro wz hSw; (try dsimp only at hSw); go_simp)⟩) (by assumption) ?_
          try simp only [Act.put, List.setIfInBounds_toArray, List.set_cons_zero, List.set_cons_succ]
          refine wpAnyH_take (i := 22) (oi := { dst := some 142, op := Op.move (Operand.tmp 12), type := 33, pos := "law.go:131", after := #[{ on := 21, ground := Ground.guard }], guard := some (21, false) }) (v := .int .i64 42) rfl (by kernel_rfl) (by kernel_rfl) (by kernel_rfl) (fun _ _ _ h => h) (Or.inl ⟨by rfl, by (intro wz hSw; (try dsimp only at hSw); go_simp)⟩) (by assumption) ?_
          try simp only [Act.put, List.setIfInBounds_toArray, List.set_cons_zero, List.set_cons_succ]
          refine wpAnyH_take (i := 23) (oi := { dst := some 143, op := Op.binOp BinOp.eql 33 (Operand.tmp 142) (Operand.const (Value.int IntKind.i64 0)) 33, type := 4, pos := "law.go:131", after := #[{ on := 22, ground := Ground.data }, { on := 21, ground := Ground.guard }], guard := some (21, false) }) (v := .bool false) rfl (by kernel_rfl) (by kernel_rfl) (by kernel_rfl) (fun _ _ _ h => h) (Or.inl ⟨by rfl, by (intro wz hSw; (try dsimp only at hSw); go_simp)⟩) (by assumption) ?_
          try simp only [Act.put, List.setIfInBounds_toArray, List.set_cons_zero, List.set_cons_succ]
          refine wpAnyH_take (i := 24) (oi := { dst := some 144, op := Op.move (Operand.tmp 143), type := 4, pos := "law.go:131", after := #[{ on := 23, ground := Ground.data }, { on := 21, ground := Ground.chain }, { on := 21, ground := Ground.guard }], guard := some (21, false) }) (v := .bool false) rfl (by kernel_rfl) (by kernel_rfl) (by kernel_rfl) (fun _ _ _ h => h) (Or.inl ⟨by rfl, by (intro wz hSw; (try dsimp only at hSw); go_simp)⟩) (by assumption) ?_
          try simp only [Act.put, List.setIfInBounds_toArray, List.set_cons_zero, List.set_cons_succ]
          refine wpAnyH_take (i := 25) (oi := { dst := some 145, op := Op.fieldAddr 39 (Operand.tmp 11) 0, type := 0, pos := "law.go:131", after := #[{ on := 24, ground := Ground.guard }], guard := some (24, true) }) (v := undef) rfl (by kernel_rfl) (by kernel_rfl) (by kernel_rfl) (fun _ _ _ h => h) (Or.inr ⟨by rfl, rfl⟩) (by assumption) ?_
          try simp only [Act.put, List.setIfInBounds_toArray, List.set_cons_zero, List.set_cons_succ]
          refine wpAnyH_take (i := 26) (oi := { dst := some 146, op := Op.load 3 (Operand.tmp 145), type := 3, pos := "law.go:131", after := #[{ on := 25, ground := Ground.data }, { on := 24, ground := Ground.guard }], guard := some (24, true) }) (v := undef) rfl (by kernel_rfl) (by kernel_rfl) (by kernel_rfl) (fun _ _ _ h => h) (Or.inr ⟨by rfl, rfl⟩) (by assumption) ?_
          try simp only [Act.put, List.setIfInBounds_toArray, List.set_cons_zero, List.set_cons_succ]
          refine wpAnyH_take (i := 27) (oi := { dst := some 147, op := Op.fieldAddr 26 (Operand.tmp 2) 1, type := 0, pos := "law.go:131", after := #[{ on := 24, ground := Ground.guard }], guard := some (24, true) }) (v := undef) rfl (by kernel_rfl) (by kernel_rfl) (by kernel_rfl) (fun _ _ _ h => h) (Or.inr ⟨by rfl, rfl⟩) (by assumption) ?_
          try simp only [Act.put, List.setIfInBounds_toArray, List.set_cons_zero, List.set_cons_succ]
          refine wpAnyH_take (i := 28) (oi := { dst := some 148, op := Op.load 22 (Operand.tmp 147), type := 22, pos := "law.go:131", after := #[{ on := 27, ground := Ground.data }, { on := 24, ground := Ground.guard }], guard := some (24, true) }) (v := undef) rfl (by kernel_rfl) (by kernel_rfl) (by kernel_rfl) (fun _ _ _ h => h) (Or.inr ⟨by rfl, rfl⟩) (by assumption) ?_
          try simp only [Act.put, List.setIfInBounds_toArray, List.set_cons_zero, List.set_cons_succ]
          refine wpAnyH_take (i := 29) (oi := { dst := some 149, op := Op.move (Operand.tmp 13), type := 3, pos := "law.go:131", after := #[{ on := 24, ground := Ground.guard }], guard := some (24, true) }) (v := undef) rfl (by kernel_rfl) (by kernel_rfl) (by kernel_rfl) (fun _ _ _ h => h) (Or.inr ⟨by rfl, rfl⟩) (by assumption) ?_
          try simp only [Act.put, List.setIfInBounds_toArray, List.set_cons_zero, List.set_cons_succ]
          refine wpAnyH_take (i := 30) (oi := { dst := some 150, op := Op.indexAddr 22 (Operand.tmp 148) (Operand.tmp 149), type := 0, pos := "law.go:131", after := #[{ on := 28, ground := Ground.data }, { on := 29, ground := Ground.data }, { on := 24, ground := Ground.guard }], guard := some (24, true) }) (v := undef) rfl (by kernel_rfl) (by kernel_rfl) (by kernel_rfl) (fun _ _ _ h => h) (Or.inr ⟨by rfl, rfl⟩) (by assumption) ?_
          try simp only [Act.put, List.setIfInBounds_toArray, List.set_cons_zero, List.set_cons_succ]
          refine wpAnyH_take (i := 31) (oi := { dst := some 151, op := Op.fieldAddr 41 (Operand.tmp 150) 1, type := 0, pos := "law.go:131", after := #[{ on := 30, ground := Ground.data }, { on := 24, ground := Ground.guard }], guard := some (24, true) }) (v := undef) rfl (by kernel_rfl) (by kernel_rfl) (by kernel_rfl) (fun _ _ _ h => h) (Or.inr ⟨by rfl, rfl⟩) (by assumption) ?_
          try simp only [Act.put, List.setIfInBounds_toArray, List.set_cons_zero, List.set_cons_succ]
          refine wpAnyH_take (i := 32) (oi := { dst := some 152, op := Op.load 3 (Operand.tmp 151), type := 3, pos := "law.go:131", after := #[{ on := 31, ground := Ground.data }, { on := 24, ground := Ground.guard }], guard := some (24, true) }) (v := undef) rfl (by kernel_rfl) (by kernel_rfl) (by kernel_rfl) (fun _ _ _ h => h) (Or.inr ⟨by rfl, rfl⟩) (by assumption) ?_
          try simp only [Act.put, List.setIfInBounds_toArray, List.set_cons_zero, List.set_cons_succ]
          refine wpAnyH_take (i := 33) (oi := { dst := some 153, op := Op.binOp BinOp.neq 3 (Operand.tmp 146) (Operand.tmp 152) 3, type := 4, pos := "law.go:131", after := #[{ on := 26, ground := Ground.data }, { on := 32, ground := Ground.data }, { on := 24, ground := Ground.guard }], guard := some (24, true) }) (v := undef) rfl (by kernel_rfl) (by kernel_rfl) (by kernel_rfl) (fun _ _ _ h => h) (Or.inr ⟨by rfl, rfl⟩) (by assumption) ?_
          try simp only [Act.put, List.setIfInBounds_toArray, List.set_cons_zero, List.set_cons_succ]
          refine wpAnyH_take (i := 34) (oi := { dst := some 154, op := Op.pick (Operand.tmp 144) (Operand.tmp 153) (Operand.const (Value.bool false)), type := 4, pos := "law.go:131", after := #[{ on := 24, ground := Ground.data }, { on := 33, ground := Ground.data }, { on := 21, ground := Ground.guard }], guard := some (21, false) }) (v := .bool false) rfl (by kernel_rfl) (by kernel_rfl) (by kernel_rfl) (fun _ _ _ h => h) (Or.inl ⟨by rfl, by (intro wz hSw; (try dsimp only at hSw); go_simp)⟩) (by assumption) ?_
          try simp only [Act.put, List.setIfInBounds_toArray, List.set_cons_zero, List.set_cons_succ]
          refine wpAnyH_take (i := 35) (oi := { dst := some 155, op := Op.pick (Operand.tmp 141) (Operand.const (Value.bool true)) (Operand.tmp 154), type := 4, pos := "law.go:131", after := #[{ on := 21, ground := Ground.data }, { on := 34, ground := Ground.data }], guard := none }) (v := .bool false) rfl (by kernel_rfl) (by kernel_rfl) (by kernel_rfl) (fun _ _ _ h => h) (Or.inl ⟨by rfl, by (intro wz hSw; (try dsimp only at hSw); go_simp)⟩) (by assumption) ?_
          try simp only [Act.put, List.setIfInBounds_toArray, List.set_cons_zero, List.set_cons_succ]
          refine wpAnyH_done (by kernel_rfl) ?_ _
          try simp only [Exit.then]
          apply_assumption
          apply_assumption
          (repeat apply Exists.intro)
          refine ⟨?_, rfl⟩
          exact ⟨by rw [ht.out], rfl, bW⟩
      case rest =>
      obtain ⟨rfl, rfl, hb13⟩ := hcut
      obtain ⟨w13, hwx⟩ : ∃ x, x = wc := ⟨_, rfl⟩
      subst hwx
      go_wp2_with fail
      go_roundw
      case rel => exact ⟨k + 1, by omega, by go_num, bW⟩
      case measure => simp [intOf]; omega
end
end Go.Proofs.YtjnhgfmjehaalaaGreat
