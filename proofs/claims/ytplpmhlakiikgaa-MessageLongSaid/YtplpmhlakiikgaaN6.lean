/- MessageBack, walked. -/
import Derived.Test.YtplpmhlakiikgaaN5
namespace Go.Proofs.Ytplpmhlakiikgaa
open Go.RowKit
set_option linter.unusedVariables false
theorem cells12 {w : World} {b : Nat} {t : TypeId} {f : Nat × Nat} {v0 v1 v2 v3 v4 v5 v6 v7 v8 v9 v10 v11 : Value} (h : w.heap[b]? = some (.cells #[v0, v1, v2, v3, v4, v5, v6, v7, v8, v9, v10, v11] t f)) : w.cell? ⟨b, 0, none⟩ = some v0 ∧ w.cell? ⟨b, 1, none⟩ = some v1 ∧ w.cell? ⟨b, 2, none⟩ = some v2 ∧ w.cell? ⟨b, 3, none⟩ = some v3 ∧ w.cell? ⟨b, 4, none⟩ = some v4 ∧ w.cell? ⟨b, 5, none⟩ = some v5 ∧ w.cell? ⟨b, 6, none⟩ = some v6 ∧ w.cell? ⟨b, 7, none⟩ = some v7 ∧ w.cell? ⟨b, 8, none⟩ = some v8 ∧ w.cell? ⟨b, 9, none⟩ = some v9 ∧ w.cell? ⟨b, 10, none⟩ = some v10 ∧ w.cell? ⟨b, 11, none⟩ = some v11 :=
  ⟨cell_of h 0, cell_of h 1, cell_of h 2, cell_of h 3, cell_of h 4, cell_of h 5, cell_of h 6, cell_of h 7, cell_of h 8, cell_of h 9, cell_of h 10, cell_of h 11⟩
section
variable {ok : Nat → Prop} {w : World} {A : Option Addr} {n c : Nat}
set_option maxHeartbeats 4000000 in
theorem back_c {cs : List Value} {m : Msg} {b : List UInt8} (h : kMsg.R (fun _ => True) w cs m) (hi : MsgI m) (hb : Sl kU8 (fun _ => True) w (.slice A n c) b) : Calls Try.prog 3 #[.agg cs.toArray, .slice A n c] w (Ret w (.bool true)) := by
  have hbl := hb.len.1
  have HAW := Lib.hid (fun W : World => awake_c (w := W))
  have HM := Lib.hid (show ∀ W, Below w.heap.size w W → kMsg.R (fun _ => True) W cs m from fun W hW => Kd.below h hW)
  have HB := Lib.hid hb
  have HI := Lib.hid hi
  obtain ⟨A1, c1, A2, c2, A3, c3, A4, c4, rfl, -⟩ := msg_open h
  have B0 := Lib.hid (show Below w.heap.size w (w.alloc (.cells #[.int .i64 m.kind, .int .i64 m.view, .int .i64 m.seq, .int .i64 m.client, .int .i64 m.stamp, .string ⟨m.digest.toArray⟩, .slice A1 m.data.length c1, .int .i64 m.code, .int .i64 m.stage, .slice A2 m.batch.length c2, .slice A3 m.pres.length c3, .slice A4 m.certs.length c4] 30)) from (Below.refl _ _).alloc (Nat.le_refl _) _)
  have L0 := Lib.hid (show Loc1 w.heap.size 30 #[.int .i64 m.kind, .int .i64 m.view, .int .i64 m.seq, .int .i64 m.client, .int .i64 m.stamp, .string ⟨m.digest.toArray⟩, .slice A1 m.data.length c1, .int .i64 m.code, .int .i64 m.stage, .slice A2 m.batch.length c2, .slice A3 m.pres.length c3, .slice A4 m.certs.length c4] (w.alloc (.cells #[.int .i64 m.kind, .int .i64 m.view, .int .i64 m.seq, .int .i64 m.client, .int .i64 m.stamp, .string ⟨m.digest.toArray⟩, .slice A1 m.data.length c1, .int .i64 m.code, .int .i64 m.stage, .slice A2 m.batch.length c2, .slice A3 m.pres.length c3, .slice A4 m.certs.length c4] 30)) from heap_new _ _)
  clear h hb hi
  have HF := Lib.hid (few_c (HM.out _ B0.out))
  go_enter Try.func3, Try.ntmps3
  go_wp2_with fail
  refine HF.out.mono ?_
  rintro e w1 ⟨rfl, hb⟩
  have L1 := Lib.hid (L0.out.below hb)
  have B1 := Lib.hid (below_self B0.out hb)
  clear hb B0 L0 HF
  cases hfew : few m
  · go_wp2_with fail
    go_ret
    exact ⟨rfl, B1.out⟩
  by_cases hlong : (n : Int) ≤ 20000
  rotate_left
  · go_wp2_with fail
    go_ret
    exact ⟨rfl, B1.out⟩
  have FW := Lib.hid (few_of hfew)
  have HE := Lib.hid (encode_c (HM.out _ B1.out) (fun _ _ => trivial) (FW.out.ok HI.out) (fun a => Nat.le_trans (FW.out.len a) (by omega)))
  obtain ⟨k0, k1, k2, k3, k4, k5, k6, k7, k8, k9, k10, k11⟩ := cells12 L1.out
  clear hfew
  go_wp2_with fail
  refine HE.out.mono ?_
  rintro e w2 ⟨v, rfl, ho, hb⟩
  obtain ⟨Ax, nx, cx, rfl, hnx⟩ := ho.form'
  have HX := Lib.hid (ho.sl (ok := fun _ => True) (fun _ _ => trivial))
  have L2 := Lib.hid (L1.out.below hb)
  have B2 := Lib.hid (below_self B1.out hb)
  clear hb B1 L1 HE ho k0 k1 k2 k3 k4 k5 k6 k7 k8 k9 k10 k11
  obtain ⟨k0, k1, k2, k3, k4, k5, k6, k7, k8, k9, k10, k11⟩ := cells12 L2.out
  have HK := Lib.hid (check_c (HM.out _ B2.out))
  cases hck : chk m
  · have e1 : errOf false = 120 := rfl
    rw [enc_no hck] at hnx
    have hnx0 : nx = 0 := hnx
    clear hnx
    subst hnx0
    rw [hck] at HK
    go_wp2_with fail
    refine HK.out.mono ?_
    rintro e w3 ⟨rfl, hb⟩
    have B3 := Lib.hid (below_self B2.out hb)
    clear hb B2 HK
    have HD := Lib.hid (decode_c (HB.out.below B3.out) (by omega))
    go_wp2_with fail
    refine HD.out.mono ?_
    rintro e wd ⟨ds, rfl, hd, hb⟩
    have BD := Lib.hid (below_self B3.out hb)
    have HDM := Lib.hid (show kMsg.R (fun _ => True) wd ds (dec b).1 from kMsg.weak hd fun _ _ => trivial)
    have HG := Lib.hid (fun hh : (dec b).2 = 0 => dec_get hh)
    have HSM := Lib.hid (dec_sm (b := b) (by omega))
    clear hd hb HD
    generalize dec b = D at *
    obtain ⟨dm, de⟩ := D
    simp only at *
    obtain ⟨D1, d1, D2, d2, D3, d3, D4, d4, rfl, -⟩ := msg_open HDM.out
    have BN := Lib.hid (show Below wd.heap.size wd (wd.alloc (.cells #[.int .i64 dm.kind, .int .i64 dm.view, .int .i64 dm.seq, .int .i64 dm.client, .int .i64 dm.stamp, .string ⟨dm.digest.toArray⟩, .slice D1 dm.data.length d1, .int .i64 dm.code, .int .i64 dm.stage, .slice D2 dm.batch.length d2, .slice D3 dm.pres.length d3, .slice D4 dm.certs.length d4] 30)) from (Below.refl _ _).alloc (Nat.le_refl _) _)
    by_cases hde : de = 0
    rotate_left
    · have hde' : (de == 0) = false := by simpa using hde
      go_wp2_with fail
      refine (HAW.out _).mono ?_
      rintro e wa ⟨rfl, hb⟩
      have BZ := Lib.hid (below_self BD.out (below_self BN.out hb))
      clear hb
      go_wp2_with fail
      go_ret
      exact ⟨rfl, BZ.out⟩
    subst hde
    have HEN := Lib.hid (encode_c (Kd.below HDM.out BN.out) (fun _ _ => trivial) HSM.out.ok HSM.out.len)
    go_wp2_with fail
    refine HEN.out.mono ?_
    rintro e we ⟨v, rfl, ho, hb⟩
    obtain ⟨Ay, ny, cy, rfl, -⟩ := ho.form'
    have BE := Lib.hid (below_self BD.out (below_self BN.out hb))
    have HS := Lib.hid (same_u8 (ho.sl (ok := fun _ => True) (fun _ _ => trivial)) (HB.out.below BE.out))
    have HQ := Lib.hid (show eqL (enc dm) b = true from decide_eq_true (by first | exact (HG.out rfl).2.2.2 | exact (HG.out trivial).2.2.2))
    rw [HQ.out] at HS
    clear hb ho HEN
    go_wp2_with fail
    refine HS.out.mono ?_
    rintro e wf ⟨rfl, hb⟩
    have BF := Lib.hid (below_self BE.out hb)
    clear hb
    go_wp2_with fail
    refine (HAW.out _).mono ?_
    rintro e wa ⟨rfl, hb⟩
    have BZ := Lib.hid (below_self BF.out hb)
    clear hb
    go_wp2_with fail
    go_ret
    exact ⟨rfl, BZ.out⟩
  · have e1 : errOf true = 0 := rfl
    have hny := enc_yes hck
    have hnx8 : (8 : Int) ≤ nx := by omega
    have hnx0 : 0 < nx := by omega
    have hnd : decide (0 < nx) = true := decide_eq_true hnx0
    have hnx9 : nx ≤ 1000000 := by have := enc_len FW.out.len; omega
    have HDX := Lib.hid (dec_of FW.out HI.out hck)
    rw [hck] at HK
    clear hnx hny
    go_wp2_with fail
    refine HK.out.mono ?_
    rintro e w3 ⟨rfl, hb⟩
    have B3 := Lib.hid (below_self B2.out hb)
    have L3 := Lib.hid (L2.out.below hb)
    have HD0 := Lib.hid (decode_c (HX.out.below hb) (by omega))
    rw [HDX.out] at HD0
    clear hb B2 HK L2 k0 k1 k2 k3 k4 k5 k6 k7 k8 k9 k10 k11
    go_wp2_with fail
    refine HD0.out.mono ?_
    rintro e w4 ⟨es, rfl, hd, hb⟩
    have B4 := Lib.hid (below_self B3.out hb)
    have L4 := Lib.hid (L3.out.below hb)
    obtain ⟨E1, f1, E2, f2, E3, f3, E4, f4, rfl, -⟩ := msg_open hd
    have BN0 := Lib.hid (show Below w4.heap.size w4 (w4.alloc (.cells #[.int .i64 m.kind, .int .i64 m.view, .int .i64 m.seq, .int .i64 m.client, .int .i64 m.stamp, .string ⟨m.digest.toArray⟩, .slice E1 m.data.length f1, .int .i64 m.code, .int .i64 m.stage, .slice E2 m.batch.length f2, .slice E3 m.pres.length f3, .slice E4 m.certs.length f4] 30)) from (Below.refl _ _).alloc (Nat.le_refl _) _)
    have HN0 := Lib.hid (Kd.below hd BN0.out)
    have L5 := Lib.hid (L4.out.below BN0.out)
    have B5 := Lib.hid (below_self B4.out BN0.out)
    have HS0 := Lib.hid (sameM_c (HM.out _ B5.out) HN0.out)
    rw [show eqM m m = true from decide_eq_true rfl] at HS0
    obtain ⟨k0, k1, k2, k3, k4, k5, k6, k7, k8, k9, k10, k11⟩ := cells12 L4.out
    have hz4 := lt_of_heap L4.out
    clear hb hd B3 L3 HD0
    go_wp2_with fail
    refine HS0.out.mono ?_
    rintro e w6 ⟨rfl, hb⟩
    have B6 := Lib.hid (below_self B5.out hb)
    clear hb HS0 HN0 L5 B5
    have HD := Lib.hid (decode_c (HB.out.below B6.out) (by omega))
    go_wp2_with fail
    refine HD.out.mono ?_
    rintro e wd ⟨ds, rfl, hd, hb⟩
    have BD := Lib.hid (below_self B6.out hb)
    have HDM := Lib.hid (show kMsg.R (fun _ => True) wd ds (dec b).1 from kMsg.weak hd fun _ _ => trivial)
    have HG := Lib.hid (fun hh : (dec b).2 = 0 => dec_get hh)
    have HSM := Lib.hid (dec_sm (b := b) (by omega))
    clear hd hb HD
    generalize dec b = D at *
    obtain ⟨dm, de⟩ := D
    simp only at *
    obtain ⟨D1, d1, D2, d2, D3, d3, D4, d4, rfl, -⟩ := msg_open HDM.out
    have BN := Lib.hid (show Below wd.heap.size wd (wd.alloc (.cells #[.int .i64 dm.kind, .int .i64 dm.view, .int .i64 dm.seq, .int .i64 dm.client, .int .i64 dm.stamp, .string ⟨dm.digest.toArray⟩, .slice D1 dm.data.length d1, .int .i64 dm.code, .int .i64 dm.stage, .slice D2 dm.batch.length d2, .slice D3 dm.pres.length d3, .slice D4 dm.certs.length d4] 30)) from (Below.refl _ _).alloc (Nat.le_refl _) _)
    by_cases hde : de = 0
    rotate_left
    · have hde' : (de == 0) = false := by simpa using hde
      go_wp2_with fail
      refine (HAW.out _).mono ?_
      rintro e wa ⟨rfl, hb⟩
      have BZ := Lib.hid (below_self BD.out (below_self BN.out hb))
      clear hb
      go_wp2_with fail
      go_ret
      exact ⟨rfl, BZ.out⟩
    subst hde
    have HEN := Lib.hid (encode_c (Kd.below HDM.out BN.out) (fun _ _ => trivial) HSM.out.ok HSM.out.len)
    go_wp2_with fail
    refine HEN.out.mono ?_
    rintro e we ⟨v, rfl, ho, hb⟩
    obtain ⟨Ay, ny, cy, rfl, -⟩ := ho.form'
    have BE := Lib.hid (below_self BD.out (below_self BN.out hb))
    have HS := Lib.hid (same_u8 (ho.sl (ok := fun _ => True) (fun _ _ => trivial)) (HB.out.below BE.out))
    have HQ := Lib.hid (show eqL (enc dm) b = true from decide_eq_true (by first | exact (HG.out rfl).2.2.2 | exact (HG.out trivial).2.2.2))
    rw [HQ.out] at HS
    clear hb ho HEN
    go_wp2_with fail
    refine HS.out.mono ?_
    rintro e wf ⟨rfl, hb⟩
    have BF := Lib.hid (below_self BE.out hb)
    clear hb
    go_wp2_with fail
    refine (HAW.out _).mono ?_
    rintro e wa ⟨rfl, hb⟩
    have BZ := Lib.hid (below_self BF.out hb)
    clear hb
    go_wp2_with fail
    go_ret
    exact ⟨rfl, BZ.out⟩
end
end Go.Proofs.Ytplpmhlakiikgaa
