/- The references' comparisons of certificates and messages, walked. -/
import Derived.Test.YtplpmhlakiikgaaN1
namespace Go.Proofs.Ytplpmhlakiikgaa
open Go.RowKit
set_option linter.unusedVariables false
theorem eqC_and (a b : Crt) : eqC a b = (eqE a.pre b.pre && eqL a.votes b.votes) := by
  obtain ⟨s, x⟩ := a
  obtain ⟨t, y⟩ := b
  rw [Bool.eq_iff_iff]
  unfold eqC eqE eqL
  simp
section
variable {ok ok2 : Nat → Prop} {w : World} {A B : Option Addr} {n c n' c' : Nat}
theorem certs_c {cs cs' : List Value} {e e' : Crt} (h : kCrt.R ok w cs e) (h2 : kCrt.R ok2 w cs' e') : Calls Try.prog 35 #[.agg cs.toArray, .agg cs'.toArray] w (Ret w (.bool (eqC e e'))) := by
  obtain ⟨A1, c1, A1', c1', rfl, h1, g1⟩ := crt_open h
  obtain ⟨A2, c2, A2', c2', rfl, h3, g3⟩ := crt_open h2
  have B0 := Lib.hid (show Below w.heap.size w ((w.alloc (.cells #[.int .i64 e.pre.signer, .slice A1 e.pre.body.length c1, .slice A1' e.votes.length c1'] 47)).alloc (.cells #[.int .i64 e'.pre.signer, .slice A2 e'.pre.body.length c2, .slice A2' e'.votes.length c2'] 47)) from ((Below.refl _ _).alloc (Nat.le_refl _) _).alloc (by simp) _)
  have L1 := Lib.hid (show ((w.alloc (.cells #[.int .i64 e.pre.signer, .slice A1 e.pre.body.length c1, .slice A1' e.votes.length c1'] 47)).alloc (.cells #[.int .i64 e'.pre.signer, .slice A2 e'.pre.body.length c2, .slice A2' e'.votes.length c2'] 47)).heap[w.heap.size]? = some (.cells #[.int .i64 e.pre.signer, .slice A1 e.pre.body.length c1, .slice A1' e.votes.length c1'] 47 (0, 0)) from (Below.heap_alloc _ _ _ (by simp)).trans (heap_new _ _))
  have L2 := Lib.hid (show ((w.alloc (.cells #[.int .i64 e.pre.signer, .slice A1 e.pre.body.length c1, .slice A1' e.votes.length c1'] 47)).alloc (.cells #[.int .i64 e'.pre.signer, .slice A2 e'.pre.body.length c2, .slice A2' e'.votes.length c2'] 47)).heap[w.heap.size + 1]? = some (.cells #[.int .i64 e'.pre.signer, .slice A2 e'.pre.body.length c2, .slice A2' e'.votes.length c2'] 47 (0, 0)) from by have := heap_new (w.alloc (.cells #[.int .i64 e.pre.signer, .slice A1 e.pre.body.length c1, .slice A1' e.votes.length c1'] 47)) (.cells #[.int .i64 e'.pre.signer, .slice A2 e'.pre.body.length c2, .slice A2' e'.votes.length c2'] 47); simpa using this)
  have HC := Lib.hid (sameE_c (env_mk (h1.below B0.out)) (env_mk (h3.below B0.out)))
  have HV := Lib.hid (show ∀ W, Below w.heap.size w W → Calls Try.prog 18 #[.slice A1' e.votes.length c1', .slice A2' e'.votes.length c2'] W (Ret W (.bool (eqL e.votes e'.votes))) from fun W hW => all_c (g1.below hW) (g3.below hW))
  have EA := Lib.hid (eqC_and e e')
  clear h h1 h2 h3 g1 g3
  go_enter Try.func35, Try.ntmps35
  go_wp2_with fail
  refine HC.out.mono ?_
  rintro e1 w1 ⟨rfl, hb⟩
  have HB := Lib.hid (below_self B0.out hb)
  have c1 : w1.cell? ⟨w.heap.size, 2, none⟩ = some (.slice A1' e.votes.length c1') := cell_of ((hb.block _ (by simp; omega)).trans L1.out) 2
  have c2 : w1.cell? ⟨w.heap.size + 1, 2, none⟩ = some (.slice A2' e'.votes.length c2') := cell_of ((hb.block _ (by simp)).trans L2.out) 2
  have hz := hb.size
  simp only [World.size_alloc] at hz
  clear hb HC L1 L2
  cases hs : eqE e.pre e'.pre
  · have E := Lib.hid (show eqC e e' = false by rw [EA.out, hs]; rfl)
    go_wp2_with fail
    go_ret
    rw [E.out]
    exact ⟨rfl, HB.out⟩
  · have E := Lib.hid (show eqC e e' = eqL e.votes e'.votes by rw [EA.out, hs]; rfl)
    go_wp2_with fail
    refine (HV.out _ HB.out).mono ?_
    rintro e1 w2 ⟨rfl, hb⟩
    have HB2 := Lib.hid (below_self HB.out hb)
    clear hb
    go_wp2_with fail
    go_ret
    rw [E.out]
    exact ⟨rfl, HB2.out⟩
/-- what two messages are compared by -/
def eqM1 (a b : Msg) : Bool := (a.kind == b.kind) && (a.view == b.view) && (a.seq == b.seq) && (a.client == b.client) && (a.stamp == b.stamp) && (a.digest == b.digest) && eqL a.data b.data && ((a.code == b.code) && (a.stage == b.stage))
theorem eqM_and (a b : Msg) : eqM a b = (eqM1 a b && (eqL a.batch b.batch && eqL a.pres b.pres && eqL a.certs b.certs)) := by
  obtain ⟨a1, a2, a3, a4, a5, a6, a7, a8, a9, a10, a11, a12⟩ := a
  obtain ⟨b1, b2, b3, b4, b5, b6, b7, b8, b9, b10, b11, b12⟩ := b
  rw [Bool.eq_iff_iff]
  unfold eqM eqM1 eqL
  simp [and_assoc]
set_option maxHeartbeats 4000000 in
theorem sameM_c {cs cs' : List Value} {m m' : Msg} (h : kMsg.R ok w cs m) (h2 : kMsg.R ok2 w cs' m') : Calls Try.prog 12 #[.agg cs.toArray, .agg cs'.toArray] w (Ret w (.bool (eqM m m'))) := by
  obtain ⟨A1, c1, A2, c2, A3, c3, A4, c4, rfl, h1, hb, hp, hc⟩ := msg_open h
  obtain ⟨A1', c1', A2', c2', A3', c3', A4', c4', rfl, h1', hb', hp', hc'⟩ := msg_open h2
  have EA := eqM_and m m'
  clear h h2
  obtain ⟨kd, vw, sq, cl, st, dg, da, co, sg, ba, pr, ce⟩ := m
  obtain ⟨kd', vw', sq', cl', st', dg', da', co', sg', ba', pr', ce'⟩ := m'
  simp only [eqM1] at *
  by_cases hne : kd = kd' ∧ vw = vw' ∧ sq = sq' ∧ cl = cl' ∧ st = st' ∧ dg = dg'
  · obtain ⟨rfl, rfl, rfl, rfl, rfl, rfl⟩ := hne
    simp only [beq_self_eq_true, Bool.true_and] at EA
    replace EA := Lib.hid EA
    have B0 := Lib.hid (show Below w.heap.size w ((w.alloc (.cells #[.int .i64 kd, .int .i64 vw, .int .i64 sq, .int .i64 cl, .int .i64 st, .string ⟨dg.toArray⟩, .slice A1 da.length c1, .int .i64 co, .int .i64 sg, .slice A2 ba.length c2, .slice A3 pr.length c3, .slice A4 ce.length c4] 30)).alloc (.cells #[.int .i64 kd, .int .i64 vw, .int .i64 sq, .int .i64 cl, .int .i64 st, .string ⟨dg.toArray⟩, .slice A1' da'.length c1', .int .i64 co', .int .i64 sg', .slice A2' ba'.length c2', .slice A3' pr'.length c3', .slice A4' ce'.length c4'] 30)) from ((Below.refl _ _).alloc (Nat.le_refl _) _).alloc (by simp) _)
    have L0 := Lib.hid (show Loc2 w.heap.size (w.heap.size + 1) 30 30 #[.int .i64 kd, .int .i64 vw, .int .i64 sq, .int .i64 cl, .int .i64 st, .string ⟨dg.toArray⟩, .slice A1 da.length c1, .int .i64 co, .int .i64 sg, .slice A2 ba.length c2, .slice A3 pr.length c3, .slice A4 ce.length c4] #[.int .i64 kd, .int .i64 vw, .int .i64 sq, .int .i64 cl, .int .i64 st, .string ⟨dg.toArray⟩, .slice A1' da'.length c1', .int .i64 co', .int .i64 sg', .slice A2' ba'.length c2', .slice A3' pr'.length c3', .slice A4' ce'.length c4'] ((w.alloc (.cells #[.int .i64 kd, .int .i64 vw, .int .i64 sq, .int .i64 cl, .int .i64 st, .string ⟨dg.toArray⟩, .slice A1 da.length c1, .int .i64 co, .int .i64 sg, .slice A2 ba.length c2, .slice A3 pr.length c3, .slice A4 ce.length c4] 30)).alloc (.cells #[.int .i64 kd, .int .i64 vw, .int .i64 sq, .int .i64 cl, .int .i64 st, .string ⟨dg.toArray⟩, .slice A1' da'.length c1', .int .i64 co', .int .i64 sg', .slice A2' ba'.length c2', .slice A3' pr'.length c3', .slice A4' ce'.length c4'] 30)) from
      ⟨(Below.heap_alloc _ _ _ (by simp)).trans (heap_new _ _), by have := heap_new (w.alloc (.cells #[.int .i64 kd, .int .i64 vw, .int .i64 sq, .int .i64 cl, .int .i64 st, .string ⟨dg.toArray⟩, .slice A1 da.length c1, .int .i64 co, .int .i64 sg, .slice A2 ba.length c2, .slice A3 pr.length c3, .slice A4 ce.length c4] 30)) (.cells #[.int .i64 kd, .int .i64 vw, .int .i64 sq, .int .i64 cl, .int .i64 st, .string ⟨dg.toArray⟩, .slice A1' da'.length c1', .int .i64 co', .int .i64 sg', .slice A2' ba'.length c2', .slice A3' pr'.length c3', .slice A4' ce'.length c4'] 30); simpa using this⟩)
    have HD := Lib.hid (show ∀ W, Below w.heap.size w W → Calls Try.prog 13 #[.slice A1 da.length c1, .slice A1' da'.length c1'] W (Ret W (.bool (eqL da da'))) from fun W hW => same_u8 (h1.below hW) (h1'.below hW))
    have HB := Lib.hid (show ∀ W, Below w.heap.size w W → Calls Try.prog 18 #[.slice A2 ba.length c2, .slice A2' ba'.length c2'] W (Ret W (.bool (eqL ba ba'))) from fun W hW => all_c (hb.below hW) (hb'.below hW))
    have HP := Lib.hid (show ∀ W, Below w.heap.size w W → Calls Try.prog 18 #[.slice A3 pr.length c3, .slice A3' pr'.length c3'] W (Ret W (.bool (eqL pr pr'))) from fun W hW => all_c (hp.below hW) (hp'.below hW))
    have HC := Lib.hid (And.intro hc hc')
    have hmax := hc.len.2.2.1
    have hnc := hc.len.2.1
    clear h1 hb hp hc h1' hb' hp' hc'
    go_enter Try.func12, Try.ntmps12
    go_wp2_with fail
    refine (HD.out _ B0.out).mono ?_
    rintro e1 w1 ⟨rfl, hb⟩
    have L1 := Lib.hid (L0.out.below hb)
    have B1 := Lib.hid (below_self B0.out hb)
    clear hb B0 L0 HD
    cases hda : eqL da da'
    · have E : eqM _ _ = false := EA.out.trans (by rw [hda]; rfl)
      have E := Lib.hid E
      go_wp2_with fail
      go_ret
      rw [E.out]
      exact ⟨rfl, B1.out⟩
    · have m7 : w1.cell? ⟨w.heap.size, 7, none⟩ = some (.int .i64 co) := cell_of L1.out.1 7
      have m8 : w1.cell? ⟨w.heap.size, 8, none⟩ = some (.int .i64 sg) := cell_of L1.out.1 8
      have m9 : w1.cell? ⟨w.heap.size, 9, none⟩ = some (.slice A2 ba.length c2) := cell_of L1.out.1 9
      have n7 : w1.cell? ⟨w.heap.size + 1, 7, none⟩ = some (.int .i64 co') := cell_of L1.out.2 7
      have n8 : w1.cell? ⟨w.heap.size + 1, 8, none⟩ = some (.int .i64 sg') := cell_of L1.out.2 8
      have n9 : w1.cell? ⟨w.heap.size + 1, 9, none⟩ = some (.slice A2' ba'.length c2') := cell_of L1.out.2 9
      by_cases hre : co = co' ∧ sg = sg'
      · obtain ⟨rfl, rfl⟩ := hre
        replace EA := Lib.hid (EA.out.trans (by rw [hda, beq_self_eq_true, beq_self_eq_true]; rfl : _ = (eqL ba ba' && eqL pr pr' && eqL ce ce')))
        go_wp2_with fail
        refine (HB.out _ B1.out).mono ?_
        rintro e1 w2 ⟨rfl, hb⟩
        have L2 := Lib.hid (L1.out.below hb)
        have B2 := Lib.hid (below_self B1.out hb)
        clear hb B1 L1 HB m7 m8 m9 n7 n8 n9
        cases hba : eqL ba ba'
        · replace EA := Lib.hid (EA.out.trans (by rw [hba]; rfl : _ = false))
          go_wp2_with fail
          go_ret
          rw [EA.out]
          exact ⟨rfl, B2.out⟩
        · replace EA := Lib.hid (EA.out.trans (by rw [hba, Bool.true_and] : _ = (eqL pr pr' && eqL ce ce')))
          have m10 : w2.cell? ⟨w.heap.size, 10, none⟩ = some (.slice A3 pr.length c3) := cell_of L2.out.1 10
          have n10 : w2.cell? ⟨w.heap.size + 1, 10, none⟩ = some (.slice A3' pr'.length c3') := cell_of L2.out.2 10
          go_wp2_with fail
          refine (HP.out _ B2.out).mono ?_
          rintro e1 w3 ⟨rfl, hb⟩
          have L3 := Lib.hid (L2.out.below hb)
          have B3 := Lib.hid (below_self B2.out hb)
          clear hb B2 L2 HP m10 n10
          cases hpr : eqL pr pr'
          · replace EA := Lib.hid (EA.out.trans (by rw [hpr]; rfl : _ = false))
            go_wp2_with fail
            go_ret
            rw [EA.out]
            exact ⟨rfl, B3.out⟩
          · replace EA := Lib.hid (EA.out.trans (by rw [hpr, Bool.true_and] : _ = eqL ce ce'))
            have m11 : w3.cell? ⟨w.heap.size, 11, none⟩ = some (.slice A4 ce.length c4) := cell_of L3.out.1 11
            have n11 : w3.cell? ⟨w.heap.size + 1, 11, none⟩ = some (.slice A4' ce'.length c4') := cell_of L3.out.2 11
            by_cases hlen : ce.length = ce'.length
            · have hlen' : (ce.length : Int) = ce'.length := by omega
              go_wp2_with fail
              go_loopw [5] (fun v wr => ∃ k : Nat, k ≤ ce.length ∧ v = .int .i64 k ∧ (∀ j, j < k → ce[j]? = ce'[j]?) ∧ Below w.heap.size w wr ∧ Loc2 w.heap.size (w.heap.size + 1) 30 30 #[.int .i64 kd, .int .i64 vw, .int .i64 sq, .int .i64 cl, .int .i64 st, .string ⟨dg.toArray⟩, .slice A1 da.length c1, .int .i64 co, .int .i64 sg, .slice A2 ba.length c2, .slice A3 pr.length c3, .slice A4 ce.length c4] #[.int .i64 kd, .int .i64 vw, .int .i64 sq, .int .i64 cl, .int .i64 st, .string ⟨dg.toArray⟩, .slice A1' da'.length c1', .int .i64 co, .int .i64 sg, .slice A2' ba'.length c2', .slice A3' pr'.length c3', .slice A4' ce'.length c4'] wr) (fun v _ => ce.length - (intOf v).toNat)
              case atStart => exact ⟨0, Nat.zero_le _, rfl, fun j hj => absurd hj (Nat.not_lt_zero _), B3.out, L3.out⟩
              case round =>
                obtain ⟨k, hk, rfl, hpf, hb, hloc⟩ := hrel
                have HPf := Lib.hid hpf
                have HB := Lib.hid hb
                have LL := Lib.hid hloc
                have hz1 := lt_of_heap hloc.1
                have hz2 := lt_of_heap hloc.2
                clear hpf hb hloc B3 L3 m11 n11
                have m11 : wr.cell? ⟨w.heap.size, 11, none⟩ = some (.slice A4 ce.length c4) := cell_of LL.out.1 11
                have n11 : wr.cell? ⟨w.heap.size + 1, 11, none⟩ = some (.slice A4' ce'.length c4') := cell_of LL.out.2 11
                by_cases hlt : k < ce.length
                · obtain ⟨a1, e, B1', d1, B1'v, d1v, rfl, he, p0, p1, p2, s1, t1⟩ := crt_at (HC.out.1.below HB.out) hlt
                  obtain ⟨a2, e', B2', d2, B2'v, d2v, rfl, he', q0, q1, q2, s2, t2⟩ := crt_at (HC.out.2.below HB.out) (show k < ce'.length by omega)
                  have HE := Lib.hid (And.intro he he')
                  have hx := Below.refl wr.heap.size wr
                  have HQ := Lib.hid (certs_c (crt_mk (s1.below hx.drew) (t1.below hx.drew)) (crt_mk (s2.below hx.drew) (t2.below hx.drew)))
                  have KK := Lib.hid (show ∀ W : World, Below wr.heap.size wr W → W.cell? ⟨w.heap.size, 11, none⟩ = some (.slice (some a1) ce.length c4) ∧ W.cell? ⟨w.heap.size + 1, 11, none⟩ = some (.slice (some a2) ce'.length c4') ∧ W.cell? (a1.add (k * 3)) = some (.int .i64 e.pre.signer) ∧ W.cell? ⟨(a1.add (k * 3)).block, (a1.add (k * 3)).off + 1, none⟩ = some (.slice B1' e.pre.body.length d1) ∧ W.cell? ⟨(a1.add (k * 3)).block, (a1.add (k * 3)).off + 2, none⟩ = some (.slice B1'v e.votes.length d1v) ∧ W.cell? (a2.add (k * 3)) = some (.int .i64 e'.pre.signer) ∧ W.cell? ⟨(a2.add (k * 3)).block, (a2.add (k * 3)).off + 1, none⟩ = some (.slice B2' e'.pre.body.length d2) ∧ W.cell? ⟨(a2.add (k * 3)).block, (a2.add (k * 3)).off + 2, none⟩ = some (.slice B2'v e'.votes.length d2v) from
                    fun W hW => ⟨(hW.cell hz1).trans m11, (hW.cell hz2).trans n11, (hW.cell (cell_lt p0)).trans p0, (hW.cell (cell_lt p1)).trans p1, (hW.cell (cell_lt p2)).trans p2, (hW.cell (cell_lt q0)).trans q0, (hW.cell (cell_lt q1)).trans q1, (hW.cell (cell_lt q2)).trans q2⟩)
                  clear he he' s1 s2 t1 t2 hx
                  cases hm : eqC e e'
                  · replace EA := Lib.hid (EA.out.trans (eqL_at (k := k) (by rw [HE.out.1, HE.out.2]; intro h; injection h with h; rw [eqC, h] at hm; simp at hm)))
                    rw [hm] at HQ
                    go_wp2_with fail
                    go_region_held3 (fun W => W.cell? ⟨w.heap.size, 11, none⟩ = some (.slice (some a1) ce.length c4) ∧ W.cell? ⟨w.heap.size + 1, 11, none⟩ = some (.slice (some a2) ce'.length c4') ∧ W.cell? (a1.add (k * 3)) = some (.int .i64 e.pre.signer) ∧ W.cell? ⟨(a1.add (k * 3)).block, (a1.add (k * 3)).off + 1, none⟩ = some (.slice B1' e.pre.body.length d1) ∧ W.cell? ⟨(a1.add (k * 3)).block, (a1.add (k * 3)).off + 2, none⟩ = some (.slice B1'v e.votes.length d1v) ∧ W.cell? (a2.add (k * 3)) = some (.int .i64 e'.pre.signer) ∧ W.cell? ⟨(a2.add (k * 3)).block, (a2.add (k * 3)).off + 1, none⟩ = some (.slice B2' e'.pre.body.length d2) ∧ W.cell? ⟨(a2.add (k * 3)).block, (a2.add (k * 3)).off + 2, none⟩ = some (.slice B2'v e'.votes.length d2v))
                    (first | exact KK.out _ HB1.out | exact KK.out _ (Below.refl _ _).drew)
                    (first | (go_at_call 35; refine HQ.out.mono ?_; rintro e1 w4 ⟨rfl, hb1⟩; have HB1 := Lib.hid (show Below wr.heap.size wr w4 from (Below.refl _ _).drew.trans hb1); clear hb1))
                    go_wp2_with fail
                    go_ret
                    rw [EA.out]
                    exact ⟨rfl, HB.out.trans (HB1.out.mono HB.out.size)⟩
                  · have E := Lib.hid (show e = e' by simpa [eqC] using hm)
                    rw [hm] at HQ
                    go_wp2_with fail
                    go_region_held3 (fun W => W.cell? ⟨w.heap.size, 11, none⟩ = some (.slice (some a1) ce.length c4) ∧ W.cell? ⟨w.heap.size + 1, 11, none⟩ = some (.slice (some a2) ce'.length c4') ∧ W.cell? (a1.add (k * 3)) = some (.int .i64 e.pre.signer) ∧ W.cell? ⟨(a1.add (k * 3)).block, (a1.add (k * 3)).off + 1, none⟩ = some (.slice B1' e.pre.body.length d1) ∧ W.cell? ⟨(a1.add (k * 3)).block, (a1.add (k * 3)).off + 2, none⟩ = some (.slice B1'v e.votes.length d1v) ∧ W.cell? (a2.add (k * 3)) = some (.int .i64 e'.pre.signer) ∧ W.cell? ⟨(a2.add (k * 3)).block, (a2.add (k * 3)).off + 1, none⟩ = some (.slice B2' e'.pre.body.length d2) ∧ W.cell? ⟨(a2.add (k * 3)).block, (a2.add (k * 3)).off + 2, none⟩ = some (.slice B2'v e'.votes.length d2v))
                    (first | exact KK.out _ HB1.out | exact KK.out _ (Below.refl _ _).drew)
                    (first | (go_at_call 35; refine HQ.out.mono ?_; rintro e1 w4 ⟨rfl, hb1⟩; have HB1 := Lib.hid (show Below wr.heap.size wr w4 from (Below.refl _ _).drew.trans hb1); clear hb1))
                    go_wp2_with fail
                    go_roundw
                    case rel =>
                      refine ⟨k + 1, by omega, by go_num, fun j hj => ?_, HB.out.trans (HB1.out.mono HB.out.size), LL.out.below HB1.out⟩
                      rcases Nat.lt_or_ge j k with h | h
                      · exact HPf.out j h
                      · obtain rfl : j = k := by omega
                        rw [HE.out.1, HE.out.2, E.out]
                    case measure => simp [intOf]; omega
                · replace EA := Lib.hid (EA.out.trans (eqL_all rfl hlen.symm (fun j hj => HPf.out j (by omega))))
                  go_wp2_with fail
                  go_ret
                  rw [EA.out]
                  exact ⟨rfl, HB.out⟩
            · have hlen' : ¬ (ce.length : Int) = ce'.length := by omega
              replace EA := Lib.hid (EA.out.trans (eqL_len hlen))
              go_wp2_with fail
              go_ret
              rw [EA.out]
              exact ⟨rfl, B3.out⟩
      · have E : eqM _ _ = false := EA.out.trans (by
          rw [hda, Bool.true_and, Bool.and_eq_false_iff]
          left
          rw [← Bool.not_eq_true]
          simp only [Bool.and_eq_true, beq_iff_eq]
          exact hre)
        replace E := Lib.hid E
        go_wp2_with fail
        all_goals first
          | (exfalso; apply hre; refine ⟨?_, ?_⟩ <;> assumption)
          | (go_ret; rw [E.out]; exact ⟨rfl, B1.out⟩)
  · have E := Lib.hid (EA.trans (by
      rw [Bool.and_eq_false_iff]
      left
      rw [← Bool.not_eq_true]
      simp only [Bool.and_eq_true, beq_iff_eq]
      intro hh
      exact hne ⟨hh.1.1.1.1.1.1.1, hh.1.1.1.1.1.1.2, hh.1.1.1.1.1.2, hh.1.1.1.1.2, hh.1.1.1.2, hh.1.1.2⟩))
    clear h1 hb hp hc h1' hb' hp' hc' EA
    go_enter Try.func12, Try.ntmps12
    go_wp2_with fail
    all_goals first
      | (exfalso; apply hne; refine ⟨?_, ?_, ?_, ?_, ?_, ?_⟩ <;> assumption)
      | (go_ret; rw [E.out]; exact ⟨rfl, by go_grown⟩)
end
end Go.Proofs.Ytplpmhlakiikgaa
