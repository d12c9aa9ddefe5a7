/- MessageApart, walked. -/
import Derived.Test.YtplpmhlakiikgaaN6
namespace Go.Proofs.Ytplpmhlakiikgaa
open Go.RowKit
set_option linter.unusedVariables false
theorem enc_inj {m m' : Msg} (hf : Few m) (hi : MsgI m) (hc : chk m = true) (hf' : Few m') (hi' : MsgI m') (hc' : chk m' = true) : eqL (enc m) (enc m') = eqM m m' := by
  rw [Bool.eq_iff_iff]
  unfold eqL eqM
  rw [decide_eq_true_iff, decide_eq_true_iff]
  refine ⟨fun h => ?_, fun h => by rw [h]⟩
  have a := dec_of hf hi hc
  have b := dec_of hf' hi' hc'
  rw [h, b] at a
  exact (congrArg Prod.fst a).symm
section
variable {w : World}
set_option maxHeartbeats 4000000 in
theorem apart_c {cs cs' : List Value} {m m' : Msg} (h : kMsg.R (fun _ => True) w cs m) (hi : MsgI m) (h' : kMsg.R (fun _ => True) w cs' m') (hi' : MsgI m') : Calls Try.prog 4 #[.agg cs.toArray, .agg cs'.toArray] w (Ret w (.bool true)) := by
  have HAW := Lib.hid (fun W : World => awake_c (w := W))
  have HM := Lib.hid (show ∀ W, Below w.heap.size w W → kMsg.R (fun _ => True) W cs m from fun W hW => Kd.below h hW)
  have HM' := Lib.hid (show ∀ W, Below w.heap.size w W → kMsg.R (fun _ => True) W cs' m' from fun W hW => Kd.below h' hW)
  have HI := Lib.hid (And.intro hi hi')
  obtain ⟨A1, c1, A2, c2, A3, c3, A4, c4, rfl, -⟩ := msg_open h
  obtain ⟨A1', c1', A2', c2', A3', c3', A4', c4', rfl, -⟩ := msg_open h'
  have B0 := Lib.hid (show Below w.heap.size w ((w.alloc (.cells #[.int .i64 m.kind, .int .i64 m.view, .int .i64 m.seq, .int .i64 m.client, .int .i64 m.stamp, .string ⟨m.digest.toArray⟩, .slice A1 m.data.length c1, .int .i64 m.code, .int .i64 m.stage, .slice A2 m.batch.length c2, .slice A3 m.pres.length c3, .slice A4 m.certs.length c4] 30)).alloc (.cells #[.int .i64 m'.kind, .int .i64 m'.view, .int .i64 m'.seq, .int .i64 m'.client, .int .i64 m'.stamp, .string ⟨m'.digest.toArray⟩, .slice A1' m'.data.length c1', .int .i64 m'.code, .int .i64 m'.stage, .slice A2' m'.batch.length c2', .slice A3' m'.pres.length c3', .slice A4' m'.certs.length c4'] 30)) from ((Below.refl _ _).alloc (Nat.le_refl _) _).alloc (by simp) _)
  have L0 := Lib.hid (show Loc2 w.heap.size (w.heap.size + 1) 30 30 #[.int .i64 m.kind, .int .i64 m.view, .int .i64 m.seq, .int .i64 m.client, .int .i64 m.stamp, .string ⟨m.digest.toArray⟩, .slice A1 m.data.length c1, .int .i64 m.code, .int .i64 m.stage, .slice A2 m.batch.length c2, .slice A3 m.pres.length c3, .slice A4 m.certs.length c4] #[.int .i64 m'.kind, .int .i64 m'.view, .int .i64 m'.seq, .int .i64 m'.client, .int .i64 m'.stamp, .string ⟨m'.digest.toArray⟩, .slice A1' m'.data.length c1', .int .i64 m'.code, .int .i64 m'.stage, .slice A2' m'.batch.length c2', .slice A3' m'.pres.length c3', .slice A4' m'.certs.length c4'] ((w.alloc (.cells #[.int .i64 m.kind, .int .i64 m.view, .int .i64 m.seq, .int .i64 m.client, .int .i64 m.stamp, .string ⟨m.digest.toArray⟩, .slice A1 m.data.length c1, .int .i64 m.code, .int .i64 m.stage, .slice A2 m.batch.length c2, .slice A3 m.pres.length c3, .slice A4 m.certs.length c4] 30)).alloc (.cells #[.int .i64 m'.kind, .int .i64 m'.view, .int .i64 m'.seq, .int .i64 m'.client, .int .i64 m'.stamp, .string ⟨m'.digest.toArray⟩, .slice A1' m'.data.length c1', .int .i64 m'.code, .int .i64 m'.stage, .slice A2' m'.batch.length c2', .slice A3' m'.pres.length c3', .slice A4' m'.certs.length c4'] 30)) from
    ⟨(Below.heap_alloc _ _ _ (by simp)).trans (heap_new _ _), by have := heap_new (w.alloc (.cells #[.int .i64 m.kind, .int .i64 m.view, .int .i64 m.seq, .int .i64 m.client, .int .i64 m.stamp, .string ⟨m.digest.toArray⟩, .slice A1 m.data.length c1, .int .i64 m.code, .int .i64 m.stage, .slice A2 m.batch.length c2, .slice A3 m.pres.length c3, .slice A4 m.certs.length c4] 30)) (.cells #[.int .i64 m'.kind, .int .i64 m'.view, .int .i64 m'.seq, .int .i64 m'.client, .int .i64 m'.stamp, .string ⟨m'.digest.toArray⟩, .slice A1' m'.data.length c1', .int .i64 m'.code, .int .i64 m'.stage, .slice A2' m'.batch.length c2', .slice A3' m'.pres.length c3', .slice A4' m'.certs.length c4'] 30); simpa using this⟩)
  clear h hi h' hi'
  have HF := Lib.hid (few_c (HM.out _ B0.out))
  go_enter Try.func4, Try.ntmps4
  go_wp2_with fail
  refine HF.out.mono ?_
  rintro e w1 ⟨rfl, hb⟩
  have L1 := Lib.hid (L0.out.below hb)
  have B1 := Lib.hid (below_self B0.out hb)
  clear hb B0 L0 HF
  cases hfew : few m
  · go_wp2_with fail
    refine (HAW.out _).mono ?_
    rintro e wa ⟨rfl, hb⟩
    have BZ := Lib.hid (below_self B1.out hb)
    clear hb
    go_wp2_with fail
    go_ret
    exact ⟨rfl, BZ.out⟩
  obtain ⟨j0, j1, j2, j3, j4, j5, j6, j7, j8, j9, j10, j11⟩ := cells12 L1.out.2
  have HF' := Lib.hid (few_c (HM'.out _ B1.out))
  go_wp2_with fail
  refine HF'.out.mono ?_
  rintro e w2 ⟨rfl, hb⟩
  have L2 := Lib.hid (L1.out.below hb)
  have B2 := Lib.hid (below_self B1.out hb)
  clear hb B1 L1 HF' j0 j1 j2 j3 j4 j5 j6 j7 j8 j9 j10 j11
  cases hfew' : few m'
  · go_wp2_with fail
    refine (HAW.out _).mono ?_
    rintro e wa ⟨rfl, hb⟩
    have BZ := Lib.hid (below_self B2.out hb)
    clear hb
    go_wp2_with fail
    go_ret
    exact ⟨rfl, BZ.out⟩
  obtain ⟨k0, k1, k2, k3, k4, k5, k6, k7, k8, k9, k10, k11⟩ := cells12 L2.out.1
  have HK := Lib.hid (check_c (HM.out _ B2.out))
  go_wp2_with fail
  refine HK.out.mono ?_
  rintro e w3 ⟨rfl, hb⟩
  have L3 := Lib.hid (L2.out.below hb)
  have B3 := Lib.hid (below_self B2.out hb)
  clear hb B2 L2 HK k0 k1 k2 k3 k4 k5 k6 k7 k8 k9 k10 k11
  cases hck : chk m
  · have e1 : errOf false = 120 := rfl
    go_wp2_with fail
    refine (HAW.out _).mono ?_
    rintro e wa ⟨rfl, hb⟩
    have BZ := Lib.hid (below_self B3.out hb)
    clear hb
    go_wp2_with fail
    go_ret
    exact ⟨rfl, BZ.out⟩
  have e1 : errOf true = 0 := rfl
  obtain ⟨j0, j1, j2, j3, j4, j5, j6, j7, j8, j9, j10, j11⟩ := cells12 L3.out.2
  have HK' := Lib.hid (check_c (HM'.out _ B3.out))
  go_wp2_with fail
  refine HK'.out.mono ?_
  rintro e w4 ⟨rfl, hb⟩
  have L4 := Lib.hid (L3.out.below hb)
  have B4 := Lib.hid (below_self B3.out hb)
  clear hb B3 L3 HK' j0 j1 j2 j3 j4 j5 j6 j7 j8 j9 j10 j11
  cases hck' : chk m'
  · have e2 : errOf false = 120 := rfl
    go_wp2_with fail
    refine (HAW.out _).mono ?_
    rintro e wa ⟨rfl, hb⟩
    have BZ := Lib.hid (below_self B4.out hb)
    clear hb
    go_wp2_with fail
    go_ret
    exact ⟨rfl, BZ.out⟩
  have FW := Lib.hid (few_of hfew)
  have FW' := Lib.hid (few_of hfew')
  have EQ := Lib.hid (enc_inj FW.out HI.out.1 hck FW'.out HI.out.2 hck')
  have NX := Lib.hid (And.intro (enc_len FW.out.len) (enc_len FW'.out.len))
  have P1 := Lib.hid (encode_c (HM.out _ B4.out.drew) (fun _ _ => trivial) (FW.out.ok HI.out.1) (fun a => Nat.le_trans (FW.out.len a) (by omega)))
  have P2 := Lib.hid (show ∀ W, Below w4.heap.size w4 W → Calls Try.prog 9 #[.agg #[.int .i64 m'.kind, .int .i64 m'.view, .int .i64 m'.seq, .int .i64 m'.client, .int .i64 m'.stamp, .string ⟨m'.digest.toArray⟩, .slice A1' m'.data.length c1', .int .i64 m'.code, .int .i64 m'.stage, .slice A2' m'.batch.length c2', .slice A3' m'.pres.length c3', .slice A4' m'.certs.length c4']] W (RetOwn kU8 5 (fun _ => True) W (enc m')) from
    fun W hW => encode_c (HM'.out _ (below_self B4.out hW)) (fun _ _ => trivial) (FW'.out.ok HI.out.2) (fun a => Nat.le_trans (FW'.out.len a) (by omega)))
  have P4 := Lib.hid (show ∀ W, Below w4.heap.size w4 W → Calls Try.prog 12 #[.agg #[.int .i64 m.kind, .int .i64 m.view, .int .i64 m.seq, .int .i64 m.client, .int .i64 m.stamp, .string ⟨m.digest.toArray⟩, .slice A1 m.data.length c1, .int .i64 m.code, .int .i64 m.stage, .slice A2 m.batch.length c2, .slice A3 m.pres.length c3, .slice A4 m.certs.length c4], .agg #[.int .i64 m'.kind, .int .i64 m'.view, .int .i64 m'.seq, .int .i64 m'.client, .int .i64 m'.stamp, .string ⟨m'.digest.toArray⟩, .slice A1' m'.data.length c1', .int .i64 m'.code, .int .i64 m'.stage, .slice A2' m'.batch.length c2', .slice A3' m'.pres.length c3', .slice A4' m'.certs.length c4']] W (Ret W (.bool (eqM m m'))) from
    fun W hW => sameM_c (HM.out _ (below_self B4.out hW)) (HM'.out _ (below_self B4.out hW)))
  have KK := Lib.hid (show ∀ W : World, Below w4.heap.size w4 W → W.cell? ⟨w.heap.size, 0, none⟩ = some (.int .i64 m.kind) ∧ W.cell? ⟨w.heap.size, 1, none⟩ = some (.int .i64 m.view) ∧ W.cell? ⟨w.heap.size, 2, none⟩ = some (.int .i64 m.seq) ∧ W.cell? ⟨w.heap.size, 3, none⟩ = some (.int .i64 m.client) ∧ W.cell? ⟨w.heap.size, 4, none⟩ = some (.int .i64 m.stamp) ∧ W.cell? ⟨w.heap.size, 5, none⟩ = some (.string ⟨m.digest.toArray⟩) ∧ W.cell? ⟨w.heap.size, 6, none⟩ = some (.slice A1 m.data.length c1) ∧ W.cell? ⟨w.heap.size, 7, none⟩ = some (.int .i64 m.code) ∧ W.cell? ⟨w.heap.size, 8, none⟩ = some (.int .i64 m.stage) ∧ W.cell? ⟨w.heap.size, 9, none⟩ = some (.slice A2 m.batch.length c2) ∧ W.cell? ⟨w.heap.size, 10, none⟩ = some (.slice A3 m.pres.length c3) ∧ W.cell? ⟨w.heap.size, 11, none⟩ = some (.slice A4 m.certs.length c4) ∧ W.cell? ⟨w.heap.size + 1, 0, none⟩ = some (.int .i64 m'.kind) ∧ W.cell? ⟨w.heap.size + 1, 1, none⟩ = some (.int .i64 m'.view) ∧ W.cell? ⟨w.heap.size + 1, 2, none⟩ = some (.int .i64 m'.seq) ∧ W.cell? ⟨w.heap.size + 1, 3, none⟩ = some (.int .i64 m'.client) ∧ W.cell? ⟨w.heap.size + 1, 4, none⟩ = some (.int .i64 m'.stamp) ∧ W.cell? ⟨w.heap.size + 1, 5, none⟩ = some (.string ⟨m'.digest.toArray⟩) ∧ W.cell? ⟨w.heap.size + 1, 6, none⟩ = some (.slice A1' m'.data.length c1') ∧ W.cell? ⟨w.heap.size + 1, 7, none⟩ = some (.int .i64 m'.code) ∧ W.cell? ⟨w.heap.size + 1, 8, none⟩ = some (.int .i64 m'.stage) ∧ W.cell? ⟨w.heap.size + 1, 9, none⟩ = some (.slice A2' m'.batch.length c2') ∧ W.cell? ⟨w.heap.size + 1, 10, none⟩ = some (.slice A3' m'.pres.length c3') ∧ W.cell? ⟨w.heap.size + 1, 11, none⟩ = some (.slice A4' m'.certs.length c4') from fun W hW => by
    obtain ⟨k0, k1, k2, k3, k4, k5, k6, k7, k8, k9, k10, k11⟩ := cells12 (L4.out.below hW).1
    obtain ⟨j0, j1, j2, j3, j4, j5, j6, j7, j8, j9, j10, j11⟩ := cells12 (L4.out.below hW).2
    exact ⟨k0, k1, k2, k3, k4, k5, k6, k7, k8, k9, k10, k11, j0, j1, j2, j3, j4, j5, j6, j7, j8, j9, j10, j11⟩)
  clear hfew hfew' hck hck'
  go_wp2_with fail
  go_region_held3 (fun W => W.cell? ⟨w.heap.size, 0, none⟩ = some (.int .i64 m.kind) ∧ W.cell? ⟨w.heap.size, 1, none⟩ = some (.int .i64 m.view) ∧ W.cell? ⟨w.heap.size, 2, none⟩ = some (.int .i64 m.seq) ∧ W.cell? ⟨w.heap.size, 3, none⟩ = some (.int .i64 m.client) ∧ W.cell? ⟨w.heap.size, 4, none⟩ = some (.int .i64 m.stamp) ∧ W.cell? ⟨w.heap.size, 5, none⟩ = some (.string ⟨m.digest.toArray⟩) ∧ W.cell? ⟨w.heap.size, 6, none⟩ = some (.slice A1 m.data.length c1) ∧ W.cell? ⟨w.heap.size, 7, none⟩ = some (.int .i64 m.code) ∧ W.cell? ⟨w.heap.size, 8, none⟩ = some (.int .i64 m.stage) ∧ W.cell? ⟨w.heap.size, 9, none⟩ = some (.slice A2 m.batch.length c2) ∧ W.cell? ⟨w.heap.size, 10, none⟩ = some (.slice A3 m.pres.length c3) ∧ W.cell? ⟨w.heap.size, 11, none⟩ = some (.slice A4 m.certs.length c4) ∧ W.cell? ⟨w.heap.size + 1, 0, none⟩ = some (.int .i64 m'.kind) ∧ W.cell? ⟨w.heap.size + 1, 1, none⟩ = some (.int .i64 m'.view) ∧ W.cell? ⟨w.heap.size + 1, 2, none⟩ = some (.int .i64 m'.seq) ∧ W.cell? ⟨w.heap.size + 1, 3, none⟩ = some (.int .i64 m'.client) ∧ W.cell? ⟨w.heap.size + 1, 4, none⟩ = some (.int .i64 m'.stamp) ∧ W.cell? ⟨w.heap.size + 1, 5, none⟩ = some (.string ⟨m'.digest.toArray⟩) ∧ W.cell? ⟨w.heap.size + 1, 6, none⟩ = some (.slice A1' m'.data.length c1') ∧ W.cell? ⟨w.heap.size + 1, 7, none⟩ = some (.int .i64 m'.code) ∧ W.cell? ⟨w.heap.size + 1, 8, none⟩ = some (.int .i64 m'.stage) ∧ W.cell? ⟨w.heap.size + 1, 9, none⟩ = some (.slice A2' m'.batch.length c2') ∧ W.cell? ⟨w.heap.size + 1, 10, none⟩ = some (.slice A3' m'.pres.length c3') ∧ W.cell? ⟨w.heap.size + 1, 11, none⟩ = some (.slice A4' m'.certs.length c4'))
    (first | exact KK.out _ HB5.out | exact KK.out _ HB4.out | exact KK.out _ HB3.out | exact KK.out _ HB2.out | exact KK.out _ HB1.out | exact KK.out _ (Below.refl _ _).drew)
    (first
    | (go_at_call 9; refine (P2.out _ HB1.out).mono ?_; rintro e1 w6 ⟨v2, rfl, ho, hb⟩; obtain ⟨X2, n2, d2, rfl, -⟩ := ho.form'; have HB2 := Lib.hid (show Below w4.heap.size w4 w6 from HB1.out.trans (hb.mono HB1.out.size)); have Y1 := Lib.hid (HX1.out.below hb); have Y2 := Lib.hid (ho.sl (ok := fun _ => True) (fun _ _ => trivial)); clear ho hb)
    | (go_at_call 9; refine P1.out.mono ?_; rintro e1 w5 ⟨v1, rfl, ho, hb⟩; obtain ⟨X1, n1, d1, rfl, -⟩ := ho.form'; have HB1 := Lib.hid (show Below w4.heap.size w4 w5 from (Below.refl _ _).drew.trans hb); have HX1 := Lib.hid (ho.sl (ok := fun _ => True) (fun _ _ => trivial)); clear ho hb)
    | (go_at_call 13; refine (EQ.out ▸ same_u8 Y1.out Y2.out).mono ?_; rintro e1 w7 ⟨rfl, hb⟩; have HB3 := Lib.hid (show Below w4.heap.size w4 w7 from HB2.out.trans (hb.mono HB2.out.size)); clear hb)
    | (go_at_call 12; refine (P4.out _ HB3.out).mono ?_; rintro e1 w8 ⟨rfl, hb⟩; have HB4 := Lib.hid (show Below w4.heap.size w4 w8 from HB3.out.trans (hb.mono HB3.out.size)); clear hb)
    | (go_at_call 14; refine (HAW.out _).mono ?_; rintro e1 w9 ⟨rfl, hb⟩; have HB5 := Lib.hid (show Below w4.heap.size w4 w9 from HB4.out.trans (hb.mono HB4.out.size)); clear hb))
  go_wp2_with fail
  go_ret
  exact ⟨rfl, below_self B4.out HB5.out⟩
end
end Go.Proofs.Ytplpmhlakiikgaa
