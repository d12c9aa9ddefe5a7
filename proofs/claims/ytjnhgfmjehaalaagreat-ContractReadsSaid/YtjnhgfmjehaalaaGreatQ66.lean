/- Chapter 6: the law ContractReads, walked. -/
import Derived.Test.YtjnhgfmjehaalaaGreatMM
import Derived.Test.YtjnhgfmjehaalaaGreatRG
import Derived.Test.YtjnhgfmjehaalaaGreatQ63
import Derived.Test.YtjnhgfmjehaalaaGreatV12
import Derived.Test.YtjnhgfmjehaalaaGreatMW
import Derived.Test.YtjnhgfmjehaalaaGreatMX
import Derived.Test.YtjnhgfmjehaalaaGreatMJ
namespace Go.Proofs.YtjnhgfmjehaalaaGreat
open Go.RowKit
set_option linter.unusedVariables false
set_option linter.unusedSimpArgs false
theorem gC_qC (l : List UInt8) : gC (l, 0) = qC (l, 0) := by
 have h := two_con ((l, 0), 0) (l, 0) (SE.self (l, 0))
 unfold gC gCon qC
 cases hq : qCon (l, 0) with
 | error x =>
  rw [hq] at h
  rw [if_pos (by rw [h.2]; exact h.1), h.2]
 | ok p =>
  rw [hq] at h
  obtain ⟨h1, h2, h3⟩ := h
  rw [if_neg (by rw [h2]; simp)]
  simp only [chk_eq]
  rw [h1, h2]
theorem qC_ok {s : RS} {p : Con × RS} (h : qC s = .ok p) : chkR p.1 6 = 0 ∧ ConI p.1 := by
 unfold qC at h
 cases hq : qCon s with
 | error x => rw [hq] at h; cases h
 | ok q =>
  rw [hq] at h
  by_cases hc : chkR q.1 6 ≠ 0
  ·simp only [if_pos hc] at h; cases h
  ·simp only [if_neg hc] at h
   injection h with h
   subst h
   exact ⟨Decidable.not_not.1 hc, qCon_I hq⟩
section
variable {w : World}
set_option maxRecDepth 20000 in
set_option maxHeartbeats 4000000 in
/-- are two right ones the same? -/
theorem csame_c {A B D A' B' D' : Option Addr} {a b d a' b' d' : Nat} {c e : Con} {n m : Nat} (h1 : Sl kFld (fun _ => True) w (.slice A c.fields.length a) c.fields) (h2 : Sl kStg (fun _ => True) w (.slice B c.stages.length b) c.stages) (h3 : Sl (kMov n) (fun _ => True) w (.slice D c.moves.length d) c.moves) (hi : ConI c)
  (k1 : Sl kFld (fun _ => True) w (.slice A' e.fields.length a') e.fields) (k2 : Sl kStg (fun _ => True) w (.slice B' e.stages.length b') e.stages) (k3 : Sl (kMov m) (fun _ => True) w (.slice D' e.moves.length d') e.moves) (ki : ConI e) :
  Calls Tryz.prog 22 #[.agg #[.string ⟨c.name.toArray⟩, .slice A c.fields.length a, .slice B c.stages.length b, .slice D c.moves.length d], .agg #[.string ⟨e.name.toArray⟩, .slice A' e.fields.length a', .slice B' e.stages.length b', .slice D' e.moves.length d']] w (Ret w (.bool (bC n c == bC m e))) := by
 have hbc := bC_le hi (con_dp h3)
 have kbc := bC_le ki (con_dp k3)
 have HP := Lib.hid (show ∀ (W : World), Below w.heap.size w W → Calls Tryz.prog 10 #[.slice none 0 0, .agg #[.string ⟨c.name.toArray⟩, .slice A c.fields.length a, .slice B c.stages.length b, .slice D c.moves.length d]] W (RetOwn kU8 5 (fun _ => True) W (bC n c)) from fun W hW => rputC_c (xs := []) c (Sl.nil _ _ _) (h1.below hW) (h2.below hW) (h3.below hW) hbc.1 (by have := hbc.2; simp; omega))
 have HQ := Lib.hid (show ∀ (W : World), Below w.heap.size w W → Calls Tryz.prog 10 #[.slice none 0 0, .agg #[.string ⟨e.name.toArray⟩, .slice A' e.fields.length a', .slice B' e.stages.length b', .slice D' e.moves.length d']] W (RetOwn kU8 5 (fun _ => True) W (bC m e)) from fun W hW => rputC_c (xs := []) e (Sl.nil _ _ _) (k1.below hW) (k2.below hW) (k3.below hW) kbc.1 (by have := kbc.2; simp; omega))
 clear h1 h2 h3 hi k1 k2 k3 ki hbc kbc
 generalize bC n c = xs at *
 generalize bC m e = ys at *
 have hL : Loc1 w.heap.size 26 #[.string ⟨c.name.toArray⟩, .slice A c.fields.length a, .slice B c.stages.length b, .slice D c.moves.length d] ((w.alloc (.cells #[.string ⟨c.name.toArray⟩, .slice A c.fields.length a, .slice B c.stages.length b, .slice D c.moves.length d] 26)).alloc (.cells #[.string ⟨e.name.toArray⟩, .slice A' e.fields.length a', .slice B' e.stages.length b', .slice D' e.moves.length d'] 26)) := (Loc1.new _ _ _).al _
 have hM : Loc1 (w.heap.size + 1) 26 #[.string ⟨e.name.toArray⟩, .slice A' e.fields.length a', .slice B' e.stages.length b', .slice D' e.moves.length d'] ((w.alloc (.cells #[.string ⟨c.name.toArray⟩, .slice A c.fields.length a, .slice B c.stages.length b, .slice D c.moves.length d] 26)).alloc (.cells #[.string ⟨e.name.toArray⟩, .slice A' e.fields.length a', .slice B' e.stages.length b', .slice D' e.moves.length d'] 26)) := Loc1.newE _ _ _ (by simp)
 have KK := Lib.hid (show ∀ W : World, Below ((w.alloc (.cells #[.string ⟨c.name.toArray⟩, .slice A c.fields.length a, .slice B c.stages.length b, .slice D c.moves.length d] 26)).alloc (.cells #[.string ⟨e.name.toArray⟩, .slice A' e.fields.length a', .slice B' e.stages.length b', .slice D' e.moves.length d'] 26)).heap.size ((w.alloc (.cells #[.string ⟨c.name.toArray⟩, .slice A c.fields.length a, .slice B c.stages.length b, .slice D c.moves.length d] 26)).alloc (.cells #[.string ⟨e.name.toArray⟩, .slice A' e.fields.length a', .slice B' e.stages.length b', .slice D' e.moves.length d'] 26)) W → W.cell? ⟨w.heap.size, 0, none⟩ = some (.string ⟨c.name.toArray⟩) ∧ W.cell? ⟨w.heap.size, 1, none⟩ = some (.slice A c.fields.length a) ∧ W.cell? ⟨w.heap.size, 2, none⟩ = some (.slice B c.stages.length b) ∧ W.cell? ⟨w.heap.size, 3, none⟩ = some (.slice D c.moves.length d) ∧ W.cell? ⟨(w.heap.size + 1), 0, none⟩ = some (.string ⟨e.name.toArray⟩) ∧ W.cell? ⟨(w.heap.size + 1), 1, none⟩ = some (.slice A' e.fields.length a') ∧ W.cell? ⟨(w.heap.size + 1), 2, none⟩ = some (.slice B' e.stages.length b') ∧ W.cell? ⟨(w.heap.size + 1), 3, none⟩ = some (.slice D' e.moves.length d') from fun W hW => ⟨cell_of (hL.bel hW) 0, cell_of (hL.bel hW) 1, cell_of (hL.bel hW) 2, cell_of (hL.bel hW) 3, cell_of (hM.bel hW) 0, cell_of (hM.bel hW) 1, cell_of (hM.bel hW) 2, cell_of (hM.bel hW) 3⟩)
 have B0 : Below w.heap.size w ((w.alloc (.cells #[.string ⟨c.name.toArray⟩, .slice A c.fields.length a, .slice B c.stages.length b, .slice D c.moves.length d] 26)).alloc (.cells #[.string ⟨e.name.toArray⟩, .slice A' e.fields.length a', .slice B' e.stages.length b', .slice D' e.moves.length d'] 26)) := bW
 clear hL hM
 go_enter Tryz.func22, Tryz.ntmps22
 go_upto_region 1 with (fail)
 generalize ((w.alloc (.cells #[.string ⟨c.name.toArray⟩, .slice A c.fields.length a, .slice B c.stages.length b, .slice D c.moves.length d] 26)).alloc (.cells #[.string ⟨e.name.toArray⟩, .slice A' e.fields.length a', .slice B' e.stages.length b', .slice D' e.moves.length d'] 26)) = w0 at *
 generalize Value.string ⟨c.name.toArray⟩ = p0 at *
 generalize Value.slice A c.fields.length a = p1 at *
 generalize Value.slice B c.stages.length b = p2 at *
 generalize Value.slice D c.moves.length d = p3 at *
 generalize Value.string ⟨e.name.toArray⟩ = q0 at *
 generalize Value.slice A' e.fields.length a' = q1 at *
 generalize Value.slice B' e.stages.length b' = q2 at *
 generalize Value.slice D' e.moves.length d' = q3 at *
 refine wp_region_held_drew (S := fun W => W.cell? ⟨w.heap.size, 0, none⟩ = some (p0) ∧ W.cell? ⟨w.heap.size, 1, none⟩ = some (p1) ∧ W.cell? ⟨w.heap.size, 2, none⟩ = some (p2) ∧ W.cell? ⟨w.heap.size, 3, none⟩ = some (p3) ∧ W.cell? ⟨(w.heap.size + 1), 0, none⟩ = some (q0) ∧ W.cell? ⟨(w.heap.size + 1), 1, none⟩ = some (q1) ∧ W.cell? ⟨(w.heap.size + 1), 2, none⟩ = some (q2) ∧ W.cell? ⟨(w.heap.size + 1), 3, none⟩ = some (q3)) (by kernel_rfl) (KK.out _ bW) (fun hHeld => ?_)
 refine takeG 0 5 (.agg #[p0, p1, p2, p3]) rfl rfl (by kernel_rfl) (fun _ _ _ h => h) (Or.inl ⟨by rfl, by (intro wz hSw; (try dsimp only at hSw); go_simp)⟩) (by assumption) ?_
 try simp only [Act.put, nrmA, nrmZ, nrmS]
 refine takeG 2 7 (.agg #[q0, q1, q2, q3]) rfl rfl (by kernel_rfl) (fun _ _ _ h => h) (Or.inl ⟨by rfl, by (intro wz hSw; (try dsimp only at hSw); go_simp)⟩) (by assumption) ?_
 try simp only [Act.put, nrmA, nrmZ, nrmS]
 refine rd1 1 rfl (by kernel_rfl) fun K hK => ?_
 go_simp
 refine (HP.out _ bW).mono ?_
 rintro x9 wq1 ⟨v2, rfl, ho2, hb2⟩
 obtain ⟨A2, n2, c2, rfl, -⟩ := ho2.form'
 have HO2 := Lib.hid ho2.read
 clear ho2
 refine hK.out _ _ (KK.out _ bW) (fun hHeld => ?_)
 clear hK K
 try simp only [Act.put, nrmA, nrmZ, nrmS]
 refine rd1 3 rfl (by kernel_rfl) fun K hK => ?_
 go_simp
 refine (HQ.out _ bW).mono ?_
 rintro x9 wq2 ⟨v3, rfl, ho3, hb3⟩
 obtain ⟨A3, n3, c3, rfl, -⟩ := ho3.form'
 have HO3 := Lib.hid ho3.read
 clear ho3
 refine hK.out _ _ (KK.out _ bW) (fun hHeld => ?_)
 clear hK K
 try simp only [Act.put, nrmA, nrmZ, nrmS]
 refine rd1 4 rfl (by kernel_rfl) fun K hK => ?_
 go_simp
 refine (same_u8 (HO2.out.below bW) (HO3.out.below bW)).mono ?_
 rintro x9 w5 ⟨rfl, hb5⟩
 refine hK.out _ _ (KK.out _ bW) (fun hHeld => ?_)
 clear hK K
 try simp only [Act.put, nrmA, nrmZ, nrmS]
 refine takeG 5 4 (.bool (xs == ys)) rfl rfl (by kernel_rfl) (fun _ _ _ h => h) (Or.inl ⟨by rfl, by (intro wz hSw; (try dsimp only at hSw); go_simp)⟩) (by assumption) ?_
 try simp only [Act.put, nrmA, nrmZ, nrmS]
 refine wpAnyH_done (by kernel_rfl) ?_ _
 go_wp2_with fail
 go_ret
 exact ⟨rfl, bW⟩
set_option maxRecDepth 20000 in
set_option maxHeartbeats 8000000 in
theorem creads_c {Y : Option Addr} {m z : Nat} {l : List UInt8} (hl : Sl kU8 (fun _ => True) w (.slice Y m z) l) : Calls Tryz.prog 5 #[.slice Y m z] w (Ret w (.bool true)) := by
 have SF := store_f64
 by_cases hm : (m : Int) ≤ 10000
 rotate_left
 ·clear hl
  go_enter Tryz.func5, Tryz.ntmps5
  go_wp2_with fail
  go_ret
  exact ⟨rfl, bW⟩
 have EQ := Lib.hid (gC_qC l)
 have hmn : m ≤ 10000 := by omega
 have HN := Lib.hid (new_c (ok := fun _ => True) hl (fun _ _ => trivial) (show m ≤ 1099511627776 by omega))
 have HL := Lib.hid hl
 clear hl
 go_enter Tryz.func5, Tryz.ntmps5
 go_wp2_with fail
 refine HN.out.mono ?_
 rintro x9 w1 ⟨g, rfl, hg, hrd, hb1⟩
 have hgl := hrd.lt
 have RQ : RdQ (fun k => k < w.heap.size) w1.heap.size (w1.alloc (.cells #[.slice Y m z, .int .i64 0, .int .i64 0] 58)) l 0 := rdq_new ((HL.out.bound.below hb1).weak fun k hk => hk.2) (by omega)
 have RP := (hrd.bound).below (show Below w1.heap.size w1 (w1.alloc (.cells #[.slice Y m z, .int .i64 0, .int .i64 0] 58)) from bW)
 have BB := Below.trans hb1 ((show Below w1.heap.size w1 (w1.alloc (.cells #[.slice Y m z, .int .i64 0, .int .i64 0] 58)) from bW).mono hb1.size)
 have hz2 : (w1.alloc (.cells #[.slice Y m z, .int .i64 0, .int .i64 0] 58)).heap.size = w1.heap.size + 1 := by simp
 have hs1 := hb1.size
 clear hrd HN HL hb1
 go_upto_region 4 with (fail)
 generalize (w1.alloc (.cells #[.slice Y m z, .int .i64 0, .int .i64 0] 58)) = w2 at *
 generalize w1.heap.size = gq at *
 have HG := Lib.hid (cget_c g (l, 0) RP)
 have HC := Lib.hid (fun (W : World) (h : RdQ (fun k => k < w.heap.size) gq W l 0) => qcget_c gq (l, 0) h)
 cases hG : gC (l, 0) with
 | error x =>
  have hQ := EQ.out.symm.trans hG
  rw [hG] at HG
  rw [hQ] at HC
  clear hG hQ EQ
  go_wp2_with fail
  refine HG.out.mono ?_
  rintro x9 w3 ⟨hbd, hx3⟩
  have hbd : x9 = .returned (.tuple #[.agg #[.string ⟨#[]⟩, .slice none 0 0, .slice none 0 0, .slice none 0 0], .int .i64 x]) := hbd
  subst hbd
  have R3 := RQ.off hx3 ⟨by omega, fun k hk => by omega⟩
  have B3 := below_ext_ne BB hx3 hg (Nat.le_refl _)
  have hs3 := hx3.size
  clear RP RQ hx3 HG
  go_upto_region 5 with (fail)
  have BA : Below w3.heap.size w3 (w3.alloc (.cells #[.string ⟨#[]⟩, .slice none 0 0, .slice none 0 0, .slice none 0 0] 26)) := bW
  have LX := Loc1.new w3 26 #[.string ⟨#[]⟩, .slice none 0 0, .slice none 0 0, .slice none 0 0]
  have R4 := R3.below BA
  have B4 := Below.trans B3 (BA.mono B3.size)
  clear R3 B3 BA
  generalize hw4 : (w3.alloc (.cells #[.string ⟨#[]⟩, .slice none 0 0, .slice none 0 0, .slice none 0 0] 26)) = w4 at *
  clear hw4
  go_wp2_with fail
  refine (HC.out _ R4).mono ?_
  rintro x9 w5 ⟨⟨hx0, hbd⟩, hx5⟩
  have hbd : x9 = .returned (.tuple #[.agg #[.string ⟨#[]⟩, .slice none 0 0, .slice none 0 0, .slice none 0 0], .int .i64 x]) := hbd
  subst hbd
  have LX5 := loc_ext hx5 (by omega) LX
  have B5 := below_ext_ne B4 hx5 (show w.heap.size ≤ gq by omega) (Nat.le_refl _)
  have n1 : (x != 0) = true := by simpa using hx0
  have n2 : (x == 0) = false := by simpa using hx0
  clear hx5 HC R4 LX B4 hx0
  go_upto_region 6 with (fail)
  have BA : Below w5.heap.size w5 (w5.alloc (.cells #[.string ⟨#[]⟩, .slice none 0 0, .slice none 0 0, .slice none 0 0] 26)) := bW
  have LX6 := LX5.bel BA
  have B6 := Below.trans B5 (BA.mono B5.size)
  clear LX5 B5 BA
  generalize hw6 : (w5.alloc (.cells #[.string ⟨#[]⟩, .slice none 0 0, .slice none 0 0, .slice none 0 0] 26)) = w6 at *
  clear hw6
  obtain ⟨m0, m1, m2, m3⟩ := cells4 LX6
  have hzm := lt_of_heap LX6
  go_wp2_with fail
  refine awake_c.mono ?_
  rintro x9 w7 ⟨rfl, hb7⟩
  have B7 := Below.trans B6 (hb7.mono B6.size)
  go_wp2_with fail
  go_ret
  exact ⟨rfl, B7⟩
 | ok p =>
 have hQ := EQ.out.symm.trans hG
 rw [hG] at HG
 rw [hQ] at HC
 obtain ⟨hck, hci⟩ := qC_ok hQ
 obtain ⟨c, s2⟩ := p
 have HCI := Lib.hid hci
 simp only at hck
 clear hG hQ EQ hci
 go_wp2_with fail
 refine HG.out.mono ?_
 rintro x9 w3 ⟨⟨cs, rfl, hk, hrd3⟩, hx3⟩
 obtain ⟨A, a, B, b, D, d, rfl, hk1, hk2, hk3⟩ := con_open hk
 have R3 := RQ.off hx3 ⟨by omega, fun k hk => by omega⟩
 have B3 := below_ext_ne BB hx3 hg (Nat.le_refl _)
 have hs3 := hx3.size
 clear RP RQ hx3 HG hk
 go_upto_region 5 with (fail)
 have BA : Below w3.heap.size w3 (w3.alloc (.cells #[.string ⟨c.name.toArray⟩, .slice A c.fields.length a, .slice B c.stages.length b, .slice D c.moves.length d] 26)) := bW
 have LX := Loc1.new w3 26 #[.string ⟨c.name.toArray⟩, .slice A c.fields.length a, .slice B c.stages.length b, .slice D c.moves.length d]
 have R4 := R3.below BA
 have P4 := hrd3.below BA
 have B4 := Below.trans B3 (BA.mono B3.size)
 replace hk1 := hk1.below BA
 replace hk2 := hk2.below BA
 replace hk3 := hk3.below BA
 clear R3 B3 BA hrd3
 generalize hw4 : (w3.alloc (.cells #[.string ⟨c.name.toArray⟩, .slice A c.fields.length a, .slice B c.stages.length b, .slice D c.moves.length d] 26)) = w4 at *
 clear hw4
 go_wp2_with fail
 refine (HC.out _ R4).mono ?_
 rintro x9 w5 ⟨⟨cs, rfl, hk, hrd5⟩, hx5⟩
 obtain ⟨A', a', B', b', D', d', rfl, kk1, kk2, kk3⟩ := con_open hk
 have LX5 := loc_ext hx5 (by omega) LX
 have B5 := below_ext_ne B4 hx5 (show w.heap.size ≤ gq by omega) (Nat.le_refl _)
 have P5 := rd_off P4 hx5 ⟨by omega, fun k hk => by have := hk.2; omega⟩
 replace hk1 := hk1.ext (hx5.weak fun k _ hk => by have : w2.heap.size ≤ k := hk; omega)
 replace hk2 := hk2.ext (hx5.weak fun k _ hk => by have : w2.heap.size ≤ k := hk; omega)
 replace hk3 := hk3.ext (hx5.weak fun k _ hk => by have : w2.heap.size ≤ k := hk; omega)
 clear hx5 HC R4 LX B4 P4 hk
 go_upto_region 6 with (fail)
 have BA : Below w5.heap.size w5 (w5.alloc (.cells #[.string ⟨c.name.toArray⟩, .slice A' c.fields.length a', .slice B' c.stages.length b', .slice D' c.moves.length d'] 26)) := bW
 have LY6 := Loc1.new w5 26 #[.string ⟨c.name.toArray⟩, .slice A' c.fields.length a', .slice B' c.stages.length b', .slice D' c.moves.length d']
 have LX6 := LX5.bel BA
 have B6 := Below.trans B5 (BA.mono B5.size)
 have P6 := P5.below BA
 have Q6 := hrd5.below BA
 replace hk1 := hk1.below BA
 replace hk2 := hk2.below BA
 replace hk3 := hk3.below BA
 replace kk1 := kk1.below BA
 replace kk2 := kk2.below BA
 replace kk3 := kk3.below BA
 clear LX5 B5 BA P5 hrd5
 generalize hw6 : (w5.alloc (.cells #[.string ⟨c.name.toArray⟩, .slice A' c.fields.length a', .slice B' c.stages.length b', .slice D' c.moves.length d'] 26)) = w6 at *
 clear hw6
 generalize w5.heap.size = yb at *
 generalize w3.heap.size = xb at *
 have HCK := Lib.hid (show ∀ W : World, Below w6.heap.size w6 W → Calls Tryz.prog 13 #[.agg #[.string ⟨c.name.toArray⟩, .slice A c.fields.length a, .slice B c.stages.length b, .slice D c.moves.length d]] W (Ret W (.int .i64 0)) from fun W hW => by
  have := checkR_c (w := W) (c := c) (n := 6) ((hk1.below hW).weak fun _ _ => trivial) ((hk2.below hW).weak fun _ _ => trivial) ((hk3.below hW).weak fun _ _ => trivial)
  rw [hck] at this
  exact this)
 have HSM := Lib.hid (show ∀ W : World, Below w6.heap.size w6 W → Calls Tryz.prog 22 #[.agg #[.string ⟨c.name.toArray⟩, .slice A c.fields.length a, .slice B c.stages.length b, .slice D c.moves.length d], .agg #[.string ⟨c.name.toArray⟩, .slice A' c.fields.length a', .slice B' c.stages.length b', .slice D' c.moves.length d']] W (Ret W (.bool true)) from fun W hW => by
  have := csame_c (w := W) (c := c) (e := c) (n := 6) (m := 6) ((hk1.below hW).weak fun _ _ => trivial) ((hk2.below hW).weak fun _ _ => trivial) ((hk3.below hW).weak fun _ _ => trivial) HCI.out ((kk1.below hW).weak fun _ _ => trivial) ((kk2.below hW).weak fun _ _ => trivial) ((kk3.below hW).weak fun _ _ => trivial) HCI.out
  rw [beq_self_eq_true] at this
  exact this)
 have KK := Lib.hid (show ∀ W : World, Below w6.heap.size w6 W → (W.cell? ⟨xb, 0, none⟩ = some (.string ⟨c.name.toArray⟩) ∧ W.cell? ⟨xb, 1, none⟩ = some (.slice A c.fields.length a) ∧ W.cell? ⟨xb, 2, none⟩ = some (.slice B c.stages.length b) ∧ W.cell? ⟨xb, 3, none⟩ = some (.slice D c.moves.length d)) ∧ (W.cell? ⟨yb, 0, none⟩ = some (.string ⟨c.name.toArray⟩) ∧ W.cell? ⟨yb, 1, none⟩ = some (.slice A' c.fields.length a') ∧ W.cell? ⟨yb, 2, none⟩ = some (.slice B' c.stages.length b') ∧ W.cell? ⟨yb, 3, none⟩ = some (.slice D' c.moves.length d')) ∧ xb < W.heap.size ∧ yb < W.heap.size from fun W hW => ⟨⟨cell_of (LX6.bel hW) 0, cell_of (LX6.bel hW) 1, cell_of (LX6.bel hW) 2, cell_of (LX6.bel hW) 3⟩, ⟨cell_of (LY6.bel hW) 0, cell_of (LY6.bel hW) 1, cell_of (LY6.bel hW) 2, cell_of (LY6.bel hW) 3⟩, lt_of_heap (LX6.bel hW), lt_of_heap (LY6.bel hW)⟩)
 have KL := Lib.hid (left_c' g s2 P6)
 have KQ := Lib.hid (qLeft_c gq s2 Q6)
 clear hk1 hk2 hk3 kk1 kk2 kk3 LX6 LY6 P6 Q6 HCI
 go_wp2_with fail
 refine KL.out.mono ?_
 rintro x9 w7 ⟨rfl, rfl⟩
 go_wp2_with fail
 refine KQ.out.mono ?_
 rintro x9 w7 ⟨rfl, hb7⟩
 obtain ⟨⟨m0, m1, m2, m3⟩, ⟨n0, n1, n2, n3⟩, hzx, hzy⟩ := KK.out w7 hb7
 go_wp2_with fail
 refine (HCK.out _ hb7).mono ?_
 rintro x9 w8 ⟨rfl, hb8⟩
 clear m0 m1 m2 m3 n0 n1 n2 n3 hzx hzy
 have hb68 : Below w6.heap.size w6 w8 := below_then hb7 (Nat.le_refl _) hb8
 obtain ⟨⟨m0, m1, m2, m3⟩, ⟨n0, n1, n2, n3⟩, hzx, hzy⟩ := KK.out w8 hb68
 go_wp2_with fail
 refine (HSM.out _ hb68).mono ?_
 rintro x9 w9 ⟨rfl, hb9⟩
 go_wp2_with fail
 refine awake_c.mono ?_
 rintro x9 w10 ⟨rfl, hb10⟩
 have B10 := Below.trans B6 ((below_then (below_then hb68 (Nat.le_refl _) hb9) (Nat.le_refl _) hb10).mono B6.size)
 go_wp2_with fail
 go_ret
 exact ⟨rfl, B10⟩
end
end Go.Proofs.YtjnhgfmjehaalaaGreat
