/- Chapter 6: the law ContractBack, walked. -/
import Derived.Test.YtjnhgfmjehaalaaGreatMM
import Derived.Test.YtjnhgfmjehaalaaGreatQ63
import Derived.Test.YtjnhgfmjehaalaaGreatV12
import Derived.Test.YtjnhgfmjehaalaaGreatP65
namespace Go.Proofs.YtjnhgfmjehaalaaGreat
open Go.RowKit
set_option linter.unusedVariables false
set_option linter.unusedSimpArgs false
section
variable {w : World}
set_option maxRecDepth 20000 in
set_option maxHeartbeats 4000000 in
theorem cback_c {A B D : Option Addr} {a b d : Nat} {c : Con} {n : Nat} {Y : Option Addr} {m z : Nat} {bh : List UInt8} (h1 : Sl kFld (fun _ => True) w (.slice A c.fields.length a) c.fields) (h2 : Sl kStg (fun _ => True) w (.slice B c.stages.length b) c.stages) (h3 : Sl (kMov n) (fun _ => True) w (.slice D c.moves.length d) c.moves) (hi : ConI c) (hbh : Sl kU8 (fun _ => True) w (.slice Y m z) bh) :
    Calls Tryz.prog 6 #[.agg #[.string ⟨c.name.toArray⟩, .slice A c.fields.length a, .slice B c.stages.length b, .slice D c.moves.length d], .slice Y m z] w (Ret w (.bool true)) := by
  have SF := store_f64
  have hd := con_dp h3
  have HF := Lib.hid (show ∀ W : World, Below w.heap.size w W → Sl kFld (fun _ => True) W (.slice A c.fields.length a) c.fields from fun W hW => h1.below hW)
  have HS := Lib.hid (show ∀ W : World, Below w.heap.size w W → Sl kStg (fun _ => True) W (.slice B c.stages.length b) c.stages from fun W hW => h2.below hW)
  have HM := Lib.hid (show ∀ W : World, Below w.heap.size w W → Sl (kMov n) (fun _ => True) W (.slice D c.moves.length d) c.moves from fun W hW => h3.below hW)
  have HBH := Lib.hid (show ∀ W : World, Below w.heap.size w W → Sl kU8 (fun _ => True) W (.slice Y m z) bh from fun W hW => hbh.below hW)
  have HW := Lib.hid (show ∀ W : World, Below w.heap.size w W → Calls Tryz.prog 7 #[.agg #[.string ⟨c.name.toArray⟩, .slice A c.fields.length a, .slice B c.stages.length b, .slice D c.moves.length d]] W (Ret W (.bool (fewC c))) from fun W hW => few6_c (HF.out W hW) (HS.out W hW) (HM.out W hW))
  have HK := Lib.hid (show ∀ W : World, Below w.heap.size w W → Calls Tryz.prog 12 #[.agg #[.string ⟨c.name.toArray⟩, .slice A c.fields.length a, .slice B c.stages.length b, .slice D c.moves.length d]] W (Ret W (.int .i64 (chkC c n))) from fun W hW => checkC_c (HF.out W hW) (HS.out W hW) (HM.out W hW))
  have hbc := bC_le hi hd
  have HP := Lib.hid (show ∀ (W : World), Below w.heap.size w W → Calls Tryz.prog 9 #[.slice none 0 0, .agg #[.string ⟨c.name.toArray⟩, .slice A c.fields.length a, .slice B c.stages.length b, .slice D c.moves.length d]] W (RetOwn kU8 5 (fun _ => True) W (bC n c)) from fun W hW => putC_c (xs := []) c (Sl.nil _ _ _) (HF.out W hW) (HS.out W hW) (HM.out W hW) hbc.1 (by have := hbc.2; simp; omega))
  have hml := hbh.len.1
  have hbl := hbc.2
  have HR := Lib.hid (show chkC c n = 0 → chkC (nC n c) 6 = 0 ∧ ConI (nC n c) ∧ (∀ t, gC (bC n c ++ t, 0) = .ok (nC n c, (t, 0))) ∧ bC 6 (nC n c) = bC n c ∧ 0 < (bC n c).length from fun h => by
    obtain ⟨p1, _, p3, _⟩ := con_nC hi hd h
    obtain ⟨q1, q2, q3⟩ := bC_nC hi hd h
    exact ⟨p1, p3, fun t => by rw [q2]; exact gC_put hi hd h t, q1, q3⟩)
  have HN := Lib.hid (show chkC c n ≠ 0 → bC n c = [] from fun h => by unfold bC; rw [if_neg h])
  clear h1 h2 h3 HF HS HM hbc hbh hi hd
  generalize bC n c = bb at *
  have hL : Loc1 w.heap.size 26 #[.string ⟨c.name.toArray⟩, .slice A c.fields.length a, .slice B c.stages.length b, .slice D c.moves.length d] (w.alloc (.cells #[.string ⟨c.name.toArray⟩, .slice A c.fields.length a, .slice B c.stages.length b, .slice D c.moves.length d] 26)) := Loc1.new _ _ _
  have B0 : Below w.heap.size w (w.alloc (.cells #[.string ⟨c.name.toArray⟩, .slice A c.fields.length a, .slice B c.stages.length b, .slice D c.moves.length d] 26)) := bW
  have KK := Lib.hid (show ∀ W : World, Below (w.alloc (.cells #[.string ⟨c.name.toArray⟩, .slice A c.fields.length a, .slice B c.stages.length b, .slice D c.moves.length d] 26)).heap.size (w.alloc (.cells #[.string ⟨c.name.toArray⟩, .slice A c.fields.length a, .slice B c.stages.length b, .slice D c.moves.length d] 26)) W → (W.cell? ⟨w.heap.size, 0, none⟩ = some (.string ⟨c.name.toArray⟩) ∧ W.cell? ⟨w.heap.size, 1, none⟩ = some (.slice A c.fields.length a) ∧ W.cell? ⟨w.heap.size, 2, none⟩ = some (.slice B c.stages.length b) ∧ W.cell? ⟨w.heap.size, 3, none⟩ = some (.slice D c.moves.length d)) ∧ w.heap.size < W.heap.size from fun W hW => ⟨⟨cell_of (hL.bel hW) 0, cell_of (hL.bel hW) 1, cell_of (hL.bel hW) 2, cell_of (hL.bel hW) 3⟩, lt_of_heap (hL.bel hW)⟩)
  clear hL
  cases hf : fewC c
  · go_enter Tryz.func6, Tryz.ntmps6
    go_wp2_with fail
    generalize (w.alloc (.cells #[.string ⟨c.name.toArray⟩, .slice A c.fields.length a, .slice B c.stages.length b, .slice D c.moves.length d] 26)) = w0 at *
    obtain ⟨⟨c0, c1, c2, c3⟩, hz⟩ := KK.out w0 bW
    go_wp2_with fail
    refine (HW.out _ bW).mono ?_
    rintro x9 w1 ⟨rfl, hw1⟩
    go_wp2_with fail
    go_ret
    exact ⟨rfl, bW⟩
  by_cases hm : (m : Int) ≤ 1000
  rotate_left
  · go_enter Tryz.func6, Tryz.ntmps6
    go_wp2_with fail
    generalize (w.alloc (.cells #[.string ⟨c.name.toArray⟩, .slice A c.fields.length a, .slice B c.stages.length b, .slice D c.moves.length d] 26)) = w0 at *
    obtain ⟨⟨c0, c1, c2, c3⟩, hz⟩ := KK.out w0 bW
    go_wp2_with fail
    refine (HW.out _ bW).mono ?_
    rintro x9 w1 ⟨rfl, hw1⟩
    go_wp2_with fail
    go_ret
    exact ⟨rfl, bW⟩
  cases hc : (chkC c n == 0)
  · have hne : chkC c n ≠ 0 := by simpa using hc
    obtain rfl := HN.out hne
    go_enter Tryz.func6, Tryz.ntmps6
    go_wp2_with fail
    generalize (w.alloc (.cells #[.string ⟨c.name.toArray⟩, .slice A c.fields.length a, .slice B c.stages.length b, .slice D c.moves.length d] 26)) = w0 at *
    obtain ⟨⟨c0, c1, c2, c3⟩, hz⟩ := KK.out w0 bW
    go_wp2_with fail
    refine (HW.out _ bW).mono ?_
    rintro x9 w1 ⟨rfl, hw1⟩
    clear c0 c1 c2 c3 hz
    obtain ⟨⟨c0, c1, c2, c3⟩, hz⟩ := KK.out w1 bW
    go_wp2_with fail
    refine (HP.out _ bW).mono ?_
    rintro x9 w2 ⟨v2, rfl, ho2, hb2⟩
    obtain ⟨A2, n2, e2, rfl, hn2⟩ := ho2.form'
    obtain rfl : n2 = 0 := hn2
    clear c0 c1 c2 c3 hz ho2
    obtain ⟨⟨c0, c1, c2, c3⟩, hz⟩ := KK.out w2 bW
    go_wp2_with fail
    refine (HK.out _ bW).mono ?_
    rintro x9 w3 ⟨rfl, hw3⟩
    go_wp2_with fail
    refine (awake_c).mono ?_
    rintro x9 w4 ⟨rfl, hw4⟩
    go_wp2_with fail
    go_ret
    exact ⟨rfl, bW⟩
  have hce : chkC c n = 0 := by simpa using hc
  obtain ⟨r1, r2, r3, r4, r5⟩ := HR.out hce
  generalize nC n c = cd at *
  rw [hce] at HK
  go_enter Tryz.func6, Tryz.ntmps6
  go_wp2_with fail
  generalize (w.alloc (.cells #[.string ⟨c.name.toArray⟩, .slice A c.fields.length a, .slice B c.stages.length b, .slice D c.moves.length d] 26)) = w0 at *
  obtain ⟨⟨c0, c1, c2, c3⟩, hz⟩ := KK.out w0 bW
  go_wp2_with fail
  refine (HW.out _ bW).mono ?_
  rintro x9 w1 ⟨rfl, hw1⟩
  clear c0 c1 c2 c3 hz
  obtain ⟨⟨c0, c1, c2, c3⟩, hz⟩ := KK.out w1 bW
  go_wp2_with fail
  refine (HP.out _ bW).mono ?_
  rintro x9 w2 ⟨v2, rfl, ho2, hb2⟩
  obtain ⟨A2, n2, e2, rfl, hn2⟩ := ho2.form'
  have HO2 := Lib.hid ho2.read
  obtain rfl := hn2
  have hn2d : decide ((0 : Int) < (bb.length : Int)) = true := by simp; omega
  clear c0 c1 c2 c3 hz ho2
  obtain ⟨⟨c0, c1, c2, c3⟩, hz⟩ := KK.out w2 bW
  go_wp2_with fail
  refine (HK.out _ bW).mono ?_
  rintro x9 w3 ⟨rfl, hw3⟩
  clear c0 c1 c2 c3 hz
  have hz3 : w3.heap.size ≤ (w3.alloc (.cells #[] 5)).heap.size := by simp
  go_wp2_with (first
    | (at_builtin; refine at_append rfl (.tmp 28) (.tmp 29) 29 29 rfl rfl rfl (run_append_own_sl (base := w3.heap.size) (ok := fun _ => True) (xs := []) (ys := bb) Tryz.underlying29 Tryz.underlying29 infoU8 rfl (own_empty w3 _ 5) hz3 (HO2.out.below bW) (by simp; omega) (by simp; omega)) ?_
       rintro v' w4 ⟨ho4, hb4⟩; obtain ⟨A4, n4, e4, rfl, -⟩ := ho4.form'; have HO4 := Lib.hid ho4; have hb4' : Below w3.heap.size w3 w4 := Below.trans bW hb4; clear ho4 hb4)
    | (at_builtin; refine at_append rfl (.tmp 30) (.tmp 31) 29 29 rfl rfl rfl (run_append_own_sl (base := w3.heap.size) (ok := fun _ => True) (xs := [] ++ bb) (ys := bh) Tryz.underlying29 Tryz.underlying29 infoU8 rfl HO4.out hb4'.size (HBH.out _ bW) (by simp; omega) (by simp; omega)) ?_
       rintro v' w5 ⟨ho5, hb5⟩; obtain ⟨A5, n5, e5, rfl, hn5⟩ := ho5.form'; have HO5 := Lib.hid ho5.read; have HN5 := Lib.hid (show n5 ≤ 1099511627776 from by simp at hn5; omega); clear hn5; have hb5' : Below w3.heap.size w3 w5 := Below.trans hb4' hb5; clear ho5 hb5))
  refine (new_c (xs := bb ++ bh) (ok := fun _ => True) HO5.out (fun _ _ => trivial) HN5.out).mono ?_
  rintro x9 w6 ⟨g, rfl, hg, hrd, hb6⟩
  have HRD := Lib.hid hrd
  have hgw : w3.heap.size ≤ g := Nat.le_trans hb5'.size hg
  clear hrd
  go_wp2_with fail
  refine (cget_c g (bb ++ bh, 0) HRD.out).mono ?_
  rintro x9 w7 hr7
  rw [r3] at hr7
  unfold RetGC at hr7
  simp only at hr7
  obtain ⟨⟨cs, rfl, hk, hrd⟩, hx7⟩ := hr7
  obtain ⟨A8, a8, B8, b8, D8, d8, rfl, hk1, hk2, hk3⟩ := con_open hk
  have hb7 : Below w.heap.size w w7 := below_ext_ne (show Below w.heap.size w w6 from bW) hx7 (Nat.le_trans (show Below w.heap.size w w3 from bW).size hgw) (Nat.le_refl _)
  have HO7 := Lib.hid (((HO2.out.below (show Below w2.heap.size w2 w3 from bW)).bound.below (show Below w3.heap.size w3 w6 from bW)).ext (hx7.weak (ok' := fun k => True ∧ k < w3.heap.size) fun k _ hk => by omega))
  have HRD7 := Lib.hid hrd
  go_wp2_with fail
  have hL8 : Loc1 w7.heap.size 26 #[.string ⟨cd.name.toArray⟩, .slice A8 cd.fields.length a8, .slice B8 cd.stages.length b8, .slice D8 cd.moves.length d8] (w7.alloc (.cells #[.string ⟨cd.name.toArray⟩, .slice A8 cd.fields.length a8, .slice B8 cd.stages.length b8, .slice D8 cd.moves.length d8] 26)) := Loc1.new _ _ _
  have hb8 : Below w7.heap.size w7 (w7.alloc (.cells #[.string ⟨cd.name.toArray⟩, .slice A8 cd.fields.length a8, .slice B8 cd.stages.length b8, .slice D8 cd.moves.length d8] 26)) := bW
  have KD := Lib.hid (show ∀ W : World, Below (w7.alloc (.cells #[.string ⟨cd.name.toArray⟩, .slice A8 cd.fields.length a8, .slice B8 cd.stages.length b8, .slice D8 cd.moves.length d8] 26)).heap.size (w7.alloc (.cells #[.string ⟨cd.name.toArray⟩, .slice A8 cd.fields.length a8, .slice B8 cd.stages.length b8, .slice D8 cd.moves.length d8] 26)) W → (W.cell? ⟨w7.heap.size, 0, none⟩ = some (.string ⟨cd.name.toArray⟩) ∧ W.cell? ⟨w7.heap.size, 1, none⟩ = some (.slice A8 cd.fields.length a8) ∧ W.cell? ⟨w7.heap.size, 2, none⟩ = some (.slice B8 cd.stages.length b8) ∧ W.cell? ⟨w7.heap.size, 3, none⟩ = some (.slice D8 cd.moves.length d8)) ∧ w7.heap.size < W.heap.size from fun W hW => ⟨⟨cell_of (hL8.bel hW) 0, cell_of (hL8.bel hW) 1, cell_of (hL8.bel hW) 2, cell_of (hL8.bel hW) 3⟩, lt_of_heap (hL8.bel hW)⟩)
  have KL := Lib.hid ((left_c' g (bh, 0) (HRD7.out.below hb8)))
  rw [show (((bh, (0 : Int)) : RS).1.length : Int) = (m : Int) from by simp [hml]] at KL
  have DF := Lib.hid (show ∀ W : World, Below w7.heap.size w7 W → Sl kFld (fun _ => True) W (.slice A8 cd.fields.length a8) cd.fields from fun W hW => (hk1.below hW).weak fun _ _ => trivial)
  have DS := Lib.hid (show ∀ W : World, Below w7.heap.size w7 W → Sl kStg (fun _ => True) W (.slice B8 cd.stages.length b8) cd.stages from fun W hW => (hk2.below hW).weak fun _ _ => trivial)
  have DM := Lib.hid (show ∀ W : World, Below w7.heap.size w7 W → Sl (kMov 6) (fun _ => True) W (.slice D8 cd.moves.length d8) cd.moves from fun W hW => (hk3.below hW).weak fun _ _ => trivial)
  have hbd := bC_le r2 (con_dp (DM.out w7 bW))
  rw [r4] at hbd
  have DP := Lib.hid (show ∀ (W : World), Below w7.heap.size w7 W → Calls Tryz.prog 9 #[.slice none 0 0, .agg #[.string ⟨cd.name.toArray⟩, .slice A8 cd.fields.length a8, .slice B8 cd.stages.length b8, .slice D8 cd.moves.length d8]] W (RetOwn kU8 5 (fun _ => True) W bb) from fun W hW => by
    have := putC_c (xs := []) cd (Sl.nil _ _ _) (DF.out W hW) (DS.out W hW) (DM.out W hW) hbd.1 (by rw [r4]; simp; omega)
    rw [r4] at this
    exact this)
  have DK := Lib.hid (show ∀ W : World, Below w7.heap.size w7 W → Calls Tryz.prog 12 #[.agg #[.string ⟨cd.name.toArray⟩, .slice A8 cd.fields.length a8, .slice B8 cd.stages.length b8, .slice D8 cd.moves.length d8]] W (Ret W (.int .i64 0)) from fun W hW => by
    have := checkC_c (DF.out W hW) (DS.out W hW) (DM.out W hW)
    rw [r1] at this
    exact this)
  clear hL8 hk1 hk2 hk3 hk hrd hx7 DF DS DM hbd HRD7
  generalize (w7.alloc (.cells #[.string ⟨cd.name.toArray⟩, .slice A8 cd.fields.length a8, .slice B8 cd.stages.length b8, .slice D8 cd.moves.length d8] 26)) = w8 at *
  refine KL.out.mono ?_
  rintro x9 w9 ⟨rfl, rfl⟩
  obtain ⟨⟨c0, c1, c2, c3⟩, hz⟩ := KD.out w8 bW
  go_wp2_with fail
  refine (DP.out _ bW).mono ?_
  rintro x9 w10 ⟨v10, rfl, ho10, hb10⟩
  obtain ⟨A10, n10, e10, rfl, -⟩ := ho10.form'
  have HO10 := Lib.hid ho10.read
  clear c0 c1 c2 c3 hz ho10
  obtain ⟨⟨c0, c1, c2, c3⟩, hz⟩ := KD.out w10 bW
  go_wp2_with fail
  have KS := same_u8 HO10.out (HO7.out.below bW)
  rw [beq_self_eq_true] at KS
  refine KS.mono ?_
  rintro x9 w11 ⟨rfl, hb11⟩
  clear c0 c1 c2 c3 hz KS
  obtain ⟨⟨c0, c1, c2, c3⟩, hz⟩ := KD.out w11 bW
  go_wp2_with fail
  refine (DK.out _ bW).mono ?_
  rintro x9 w12 ⟨rfl, hw12⟩
  go_wp2_with fail
  refine (awake_c).mono ?_
  rintro x9 w13 ⟨rfl, hw13⟩
  go_wp2_with fail
  go_ret
  exact ⟨rfl, bW⟩
end
end Go.Proofs.YtjnhgfmjehaalaaGreat
