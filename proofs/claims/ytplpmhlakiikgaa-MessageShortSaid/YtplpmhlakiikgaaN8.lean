/- MessageShort, walked. -/
import Derived.Test.YtplpmhlakiikgaaN6
namespace Go.Proofs.Ytplpmhlakiikgaa
open Go.RowKit
set_option linter.unusedVariables false
theorem cut_lt (cut : Int) (nx : Nat) (h : 0 < nx) (h2 : nx ≤ 1000000) : ∃ t : Nat, (wrap64 (cut.tmod nx + nx)).tmod nx = t ∧ t < nx := by
  have a := Int.tmod_lt_of_pos cut (show (0 : Int) < nx by omega)
  have b := Int.lt_tmod_of_pos cut (show (0 : Int) < nx by omega)
  generalize cut.tmod nx = r at *
  have e : wrap64 (r + nx) = r + nx := by unfold wrap64; omega
  rw [e]
  have c := Int.tmod_lt_of_pos (r + nx) (show (0 : Int) < nx by omega)
  have d := Int.tmod_nonneg (b := (nx : Int)) (show (0 : Int) ≤ r + nx by omega)
  exact ⟨((r + nx).tmod nx).toNat, by omega, by omega⟩
section
variable {w : World} {A : Option Addr} {n c : Nat}
set_option maxHeartbeats 4000000 in
theorem short_c {cs : List Value} {m : Msg} (h : kMsg.R (fun _ => True) w cs m) (hi : MsgI m) (cut : Int) (hcut : i64 cut) {b : List UInt8} (hb : Sl kU8 (fun _ => True) w (.slice A n c) b) : Calls Try.prog 5 #[.agg cs.toArray, .int .i64 cut, .slice A n c] w (Ret w (.bool true)) := by
  have hbl := hb.len.1
  have HAW := Lib.hid (fun W : World => awake_c (w := W))
  have HM := Lib.hid (show ∀ W, Below w.heap.size w W → kMsg.R (fun _ => True) W cs m from fun W hW => Kd.below h hW)
  have HB := Lib.hid hb
  have HI := Lib.hid hi
  have HCU := Lib.hid hcut
  obtain ⟨A1, c1, A2, c2, A3, c3, A4, c4, rfl, -⟩ := msg_open h
  have B0 := Lib.hid (show Below w.heap.size w (w.alloc (.cells #[.int .i64 m.kind, .int .i64 m.view, .int .i64 m.seq, .int .i64 m.client, .int .i64 m.stamp, .string ⟨m.digest.toArray⟩, .slice A1 m.data.length c1, .int .i64 m.code, .int .i64 m.stage, .slice A2 m.batch.length c2, .slice A3 m.pres.length c3, .slice A4 m.certs.length c4] 30)) from (Below.refl _ _).alloc (Nat.le_refl _) _)
  have L0 := Lib.hid (show Loc1 w.heap.size 30 #[.int .i64 m.kind, .int .i64 m.view, .int .i64 m.seq, .int .i64 m.client, .int .i64 m.stamp, .string ⟨m.digest.toArray⟩, .slice A1 m.data.length c1, .int .i64 m.code, .int .i64 m.stage, .slice A2 m.batch.length c2, .slice A3 m.pres.length c3, .slice A4 m.certs.length c4] (w.alloc (.cells #[.int .i64 m.kind, .int .i64 m.view, .int .i64 m.seq, .int .i64 m.client, .int .i64 m.stamp, .string ⟨m.digest.toArray⟩, .slice A1 m.data.length c1, .int .i64 m.code, .int .i64 m.stage, .slice A2 m.batch.length c2, .slice A3 m.pres.length c3, .slice A4 m.certs.length c4] 30)) from heap_new _ _)
  clear h hb hi hcut
  have HF := Lib.hid (few_c (HM.out _ B0.out))
  go_enter Try.func5, Try.ntmps5
  go_wp2_with fail
  refine HF.out.mono ?_
  rintro e w1 ⟨rfl, hb⟩
  have L1 := Lib.hid (L0.out.below hb)
  have B1 := Lib.hid (below_self B0.out hb)
  clear hb B0 L0 HF
  cases hfew : few m
  · go_wp2_with fail
    refine (HAW.out _).mono ?_
    rintro e wa ⟨rfl, hb⟩
    have BZ := Lib.hid (below_self B1.out hb)
    clear hb
    go_wp2_with fail
    go_ret
    exact ⟨rfl, BZ.out⟩
  by_cases hlong : (n : Int) ≤ 500
  rotate_left
  · go_wp2_with fail
    refine (HAW.out _).mono ?_
    rintro e wa ⟨rfl, hb⟩
    have BZ := Lib.hid (below_self B1.out hb)
    clear hb
    go_wp2_with fail
    go_ret
    exact ⟨rfl, BZ.out⟩
  have HK := Lib.hid (check_c (HM.out _ B1.out))
  obtain ⟨k0, k1, k2, k3, k4, k5, k6, k7, k8, k9, k10, k11⟩ := cells12 L1.out
  go_wp2_with fail
  refine HK.out.mono ?_
  rintro e w2 ⟨rfl, hb⟩
  have L2 := Lib.hid (L1.out.below hb)
  have B2 := Lib.hid (below_self B1.out hb)
  clear hb B1 L1 HK k0 k1 k2 k3 k4 k5 k6 k7 k8 k9 k10 k11
  cases hck : chk m
  · have e1 : errOf false = 120 := rfl
    go_wp2_with fail
    refine (HAW.out _).mono ?_
    rintro e wa ⟨rfl, hb⟩
    have BZ := Lib.hid (below_self B2.out hb)
    clear hb
    go_wp2_with fail
    go_ret
    exact ⟨rfl, BZ.out⟩
  have e1 : errOf true = 0 := rfl
  have FW := Lib.hid (few_of hfew)
  have HE := Lib.hid (encode_c (HM.out _ B2.out) (fun _ _ => trivial) (FW.out.ok HI.out) (fun a => Nat.le_trans (FW.out.len a) (by omega)))
  obtain ⟨k0, k1, k2, k3, k4, k5, k6, k7, k8, k9, k10, k11⟩ := cells12 L2.out
  have hny := enc_yes hck
  have hnz := enc_len FW.out.len
  have HCK := Lib.hid hck
  clear hfew hck
  go_wp2_with fail
  refine HE.out.mono ?_
  rintro e w3 ⟨v, rfl, ho, hb⟩
  obtain ⟨Ax, nx, cx, rfl, hnx⟩ := ho.form'
  have HX := Lib.hid (ho.sl (ok := fun _ => True) (fun _ _ => trivial))
  have B3 := Lib.hid (below_self B2.out hb)
  have hcx := (ho.sl (ok := fun _ => True) (fun _ _ => trivial)).len.2.1
  have hcx2 := (ho.sl (ok := fun _ => True) (fun _ _ => trivial)).len.2.2.1
  have q1 : (8 : Int) ≤ nx := by omega
  have q2 : (nx : Int) ≤ 1000000 := by omega
  have q3 : 0 < nx := by omega
  have HNX := Lib.hid hnx
  obtain ⟨t, ht, htn⟩ := cut_lt cut nx (by omega) (by omega)
  have htn1 : (t : Int) ≤ nx := by omega
  have htn2 : (nx : Int) ≤ cx := by omega
  have htn3 : (t : Int) ≤ cx := by omega
  clear hb ho hnx hny hnz HE B2 L2 k0 k1 k2 k3 k4 k5 k6 k7 k8 k9 k10 k11
  have HD := Lib.hid (decode_c (HX.out.take (Nat.le_of_lt htn)) (by omega))
  have hdd : (dec ((enc m).take t)).2 = 12 := dec_short HCK.out (FW.out.sm HI.out HCK.out) (by have := enc_len FW.out.len; omega) (List.take_append_drop t _).symm (by intro e; have := congrArg List.length e; rw [List.length_drop, ← HNX.out] at this; simp at this; omega)
  rw [show dec ((enc m).take t) = ((dec ((enc m).take t)).1, 12) from Prod.ext rfl hdd] at HD
  clear hdd
  go_wp2_with fail
  refine HD.out.mono ?_
  rintro e w4 ⟨ds, rfl, hd, hb⟩
  have B4 := Lib.hid (below_self B3.out hb)
  have HX4 := Lib.hid (HX.out.below hb)
  generalize (dec ((enc m).take t)).1 = dm at hd
  obtain ⟨D1, d1, D2, d2, D3, d3, D4, d4, rfl, -⟩ := msg_open hd
  have BN := Lib.hid (show Below w4.heap.size w4 (w4.alloc (.cells #[.int .i64 dm.kind, .int .i64 dm.view, .int .i64 dm.seq, .int .i64 dm.client, .int .i64 dm.stamp, .string ⟨dm.digest.toArray⟩, .slice D1 dm.data.length d1, .int .i64 dm.code, .int .i64 dm.stage, .slice D2 dm.batch.length d2, .slice D3 dm.pres.length d3, .slice D4 dm.certs.length d4] 30)) from (Below.refl _ _).alloc (Nat.le_refl _) _)
  have BE := Lib.hid (show Below w4.heap.size w4 ((w4.alloc (.cells #[.int .i64 dm.kind, .int .i64 dm.view, .int .i64 dm.seq, .int .i64 dm.client, .int .i64 dm.stamp, .string ⟨dm.digest.toArray⟩, .slice D1 dm.data.length d1, .int .i64 dm.code, .int .i64 dm.stage, .slice D2 dm.batch.length d2, .slice D3 dm.pres.length d3, .slice D4 dm.certs.length d4] 30)).alloc (.cells #[] 5)) from BN.out.alloc BN.out.size _)
  have HX5 := Lib.hid (HX4.out.below BE.out)
  have HB5 := Lib.hid (HB.out.below (below_self B4.out BE.out))
  have AP0 := (run_append_own_sl (P := Try.prog) (ty := 23) Try.underlying23 Try.underlying23 infoU8 rfl (own_empty (w4.alloc (.cells #[.int .i64 dm.kind, .int .i64 dm.view, .int .i64 dm.seq, .int .i64 dm.client, .int .i64 dm.stamp, .string ⟨dm.digest.toArray⟩, .slice D1 dm.data.length d1, .int .i64 dm.code, .int .i64 dm.stage, .slice D2 dm.batch.length d2, .slice D3 dm.pres.length d3, .slice D4 dm.certs.length d4] 30)) (fun _ => True) 5) (by simp) HX5.out (by rw [List.length_nil, ← HNX.out]; omega) (by rw [List.length_nil, ← HNX.out]; omega))
  rw [show (w4.alloc (.cells #[.int .i64 dm.kind, .int .i64 dm.view, .int .i64 dm.seq, .int .i64 dm.client, .int .i64 dm.stamp, .string ⟨dm.digest.toArray⟩, .slice D1 dm.data.length d1, .int .i64 dm.code, .int .i64 dm.stage, .slice D2 dm.batch.length d2, .slice D3 dm.pres.length d3, .slice D4 dm.certs.length d4] 30)).heap.size = w4.heap.size + 1 from by simp] at AP0
  have AP := Lib.hid AP0
  have hz6 : w.heap.size ≤ w4.heap.size + 1 := by have := B4.out.size; omega
  clear AP0 hb hd B3 HX HD
  go_wp2_with (first
    | (at_builtin; refine at_append rfl (.tmp 51) (.tmp 52) 23 23 rfl rfl rfl (run_append_own_sl (P := Try.prog) (ty := 23) Try.underlying23 Try.underlying23 infoU8 rfl HO.out hz5 (HB.out.below B5.out) (by rw [← HNX.out]; omega) (by rw [← HNX.out]; omega)) ?_; rintro v2 w6 ⟨ho, hb⟩; obtain ⟨A7, n7, c7, rfl, hn7⟩ := ho.form'; have HN7 := Lib.hid hn7; have HO2 := Lib.hid (ho.sl (ok := fun _ => True) (fun _ _ => trivial)); have B6 := Lib.hid (B5.out.trans (hb.mono (by omega))); clear ho hb hn7)
    | (at_builtin; refine at_append rfl (.tmp 49) (.tmp 50) 23 23 rfl rfl rfl AP.out ?_; rintro v1 w5 ⟨ho, hb⟩; have HO := Lib.hid (show Own kU8 5 (fun _ => True) w5 (w4.heap.size + 1) v1 (enc m) from ho); have hz5 : w4.heap.size + 1 ≤ w5.heap.size := (by have := hb.size; simp at this; omega); have B5 := Lib.hid ((below_self B4.out BE.out).trans (hb.mono hz6)); clear ho hb))
  have EL := Lib.hid (show (enc m ++ b).length = n7 by rw [HN7.out])
  have hn7 : n7 = nx + n := by rw [← EL.out, List.length_append, ← HNX.out, hbl]
  have SM := Lib.hid (show MsgSm ((enc m ++ b).length : Nat) m by
    obtain ⟨h1, h2, h3, h4, h5, h6, h7, h8, h9, h10, h11, h12⟩ := FW.out.sm HI.out HCK.out
    have e : ((enc m).length : Int) ≤ (enc m ++ b).length := by rw [List.length_append]; omega
    exact ⟨h1, h2, h3, h4, h5, h6, h7, ⟨by omega, h8.2⟩, ⟨by omega, h9.2⟩, h10, h11, h12⟩)
  have HDP := Lib.hid (dec_put b HCK.out SM.out (by rw [EL.out]; omega))
  have HD2 := Lib.hid (decode_c HO2.out (by omega))
  clear EL SM hn7
  go_wp2_with fail
  refine HD2.out.mono ?_
  rintro e w8 ⟨es, rfl, hd, hb⟩
  have B8 := Lib.hid (below_self B6.out hb)
  rw [HDP.out] at hd ⊢
  clear hb HD2 HDP B6
  by_cases hn0 : n = 0
  · subst hn0
    rw [if_pos hbl] at hd ⊢
    obtain ⟨E1, f1, E2, f2, E3, f3, E4, f4, rfl, -⟩ := msg_open hd
    clear hd
    go_wp2_with fail
    refine (HAW.out _).mono ?_
    rintro e wa ⟨rfl, hb⟩
    have BZ := Lib.hid (below_self B8.out (below_self ((Below.refl _ _).alloc (Nat.le_refl _) _) hb))
    clear hb
    go_wp2_with fail
    go_ret
    exact ⟨rfl, BZ.out⟩
  · have hn1 : ¬ (n : Int) = 0 := by omega
    have hn2 : ((n : Int) == 0) = false := by simpa using hn0
    rw [if_neg (by omega)] at hd ⊢
    obtain ⟨E1, f1, E2, f2, E3, f3, E4, f4, rfl, -⟩ := msg_open hd
    clear hd
    go_wp2_with fail
    refine (HAW.out _).mono ?_
    rintro e wa ⟨rfl, hb⟩
    have BZ := Lib.hid (below_self B8.out (below_self ((Below.refl _ _).alloc (Nat.le_refl _) _) hb))
    clear hb
    go_wp2_with fail
    go_ret
    exact ⟨rfl, BZ.out⟩
end
end Go.Proofs.Ytplpmhlakiikgaa
