/- The laws' helpers, walked: brief, few. -/
import Derived.Test.YtplpmhlakiikgaaM8
namespace Go.Proofs.Ytplpmhlakiikgaa
open Go.RowKit
set_option linter.unusedVariables false
def brf1 (e : Env) : Bool := decide ((e.body.length : Int) ≤ 500)
def brf (l : List Env) : Bool := decide ((l.length : Int) ≤ 30) && l.all brf1
def few1 (c : Crt) : Bool := decide ((c.pre.body.length : Int) ≤ 500) && brf c.votes
def few (m : Msg) : Bool := decide ((m.digest.length : Int) ≤ 2000) && decide ((m.data.length : Int) ≤ 5000) && brf m.batch && brf m.pres && decide ((m.certs.length : Int) ≤ 20) && m.certs.all few1
theorem all_no {α : Type} {p : α → Bool} {l : List α} {k : Nat} {x : α} (h : l[k]? = some x) (hp : p x = false) : l.all p = false := by
  rw [← Bool.not_eq_true, List.all_eq_true]
  intro hh
  have := hh x (List.mem_of_getElem? h)
  rw [hp] at this
  cases this
theorem all_yes {α : Type} {p : α → Bool} {l : List α} (h : ∀ j x, j < l.length → l[j]? = some x → p x = true) : l.all p = true := by
  rw [List.all_eq_true]
  intro x hx
  obtain ⟨j, hj, rfl⟩ := List.getElem_of_mem hx
  exact h j _ hj (List.getElem?_eq_getElem hj)
section
variable {ok : Nat → Prop} {w : World} {A : Option Addr} {n c : Nat}
theorem brief_c {l : List Env} (h : Sl kEnv ok w (.slice A n c) l) : Calls Try.prog 15 #[.slice A n c] w (Ret w (.bool (brf l))) := by
  have hl := h.len.1
  have hmax := h.len.2.2.1
  have hnc := h.len.2.1
  subst hl
  have H := Lib.hid h
  clear h
  by_cases hbig : (l.length : Int) ≤ 30
  · have E := Lib.hid (show brf l = l.all brf1 by unfold brf; rw [decide_eq_true hbig, Bool.true_and])
    go_enter Try.func15, Try.ntmps15
    go_wp2_with fail
    go_loop [3] (fun v => ∃ k : Nat, k ≤ l.length ∧ v = .int .i64 k ∧ (∀ j x, j < k → l[j]? = some x → brf1 x = true)) (fun v => l.length - (intOf v).toNat)
    case atStart => exact ⟨0, Nat.zero_le _, rfl, fun j x hj => absurd hj (Nat.not_lt_zero _)⟩
    case round =>
      obtain ⟨k, hk, rfl, hp⟩ := hrel
      have HP := Lib.hid hp
      clear hp
      by_cases hlt : k < l.length
      · obtain ⟨ad, e, B, d, rfl, he, p0, p1, s1⟩ := env_at H.out hlt
        have HE := Lib.hid he
        clear he s1
        by_cases hb : (e.body.length : Int) ≤ 500
        · have HB := Lib.hid hb
          go_wp2_with fail
          go_round
          case rel =>
            refine ⟨k + 1, by omega, by go_num, fun j x hj hx => ?_⟩
            rcases Nat.lt_or_ge j k with h | h
            · exact HP.out j x h hx
            · obtain rfl : j = k := by omega
              rw [HE.out] at hx
              injection hx with hx
              rw [← hx]
              exact decide_eq_true HB.out
          case measure => simp [intOf]; omega
        · have E2 := Lib.hid (show l.all brf1 = false from all_no HE.out (decide_eq_false hb))
          go_wp2_with fail
          go_ret
          rw [E.out, E2.out]
          exact ⟨rfl, Below.refl _ _⟩
      · have E2 := Lib.hid (show l.all brf1 = true from all_yes fun j x hj hx => HP.out j x (by omega) hx)
        go_wp2_with fail
        go_ret
        rw [E.out, E2.out]
        exact ⟨rfl, Below.refl _ _⟩
  · have E := Lib.hid (show brf l = false by unfold brf; rw [decide_eq_false hbig]; rfl)
    go_enter Try.func15, Try.ntmps15
    go_wp2_with fail
    go_ret
    rw [E.out]
    exact ⟨rfl, Below.refl _ _⟩
def Loc1 (N : Nat) (t : TypeId) (cm : Array Value) (W : World) : Prop := W.heap[N]? = some (.cells cm t (0, 0))
theorem Loc1.below {N : Nat} {t : TypeId} {cm : Array Value} {W W' : World} (h : Loc1 N t cm W) (hb : Below W.heap.size W W') : Loc1 N t cm W' := (hb.block _ (lt_of_heap h)).trans h
theorem few_and (m : Msg) (a b c d e f : Bool) (ha : decide ((m.digest.length : Int) ≤ 2000) = a) (hb : decide ((m.data.length : Int) ≤ 5000) = b) (hc : brf m.batch = c) (hd : brf m.pres = d) (he : decide ((m.certs.length : Int) ≤ 20) = e) (hf : m.certs.all few1 = f) : few m = (a && b && c && d && e && f) := by
  unfold few; rw [ha, hb, hc, hd, he, hf]
set_option maxHeartbeats 4000000 in
theorem few_c {cs : List Value} {m : Msg} (h : kMsg.R ok w cs m) : Calls Try.prog 8 #[.agg cs.toArray] w (Ret w (.bool (few m))) := by
  obtain ⟨A1, c1, A2, c2, A3, c3, A4, c4, rfl, h1, h2, h3, h4⟩ := msg_open h
  have B0 := Lib.hid (show Below w.heap.size w (w.alloc (.cells #[.int .i64 m.kind, .int .i64 m.view, .int .i64 m.seq, .int .i64 m.client, .int .i64 m.stamp, .string ⟨m.digest.toArray⟩, .slice A1 m.data.length c1, .int .i64 m.code, .int .i64 m.stage, .slice A2 m.batch.length c2, .slice A3 m.pres.length c3, .slice A4 m.certs.length c4] 30)) from (Below.refl _ _).alloc (Nat.le_refl _) _)
  have L0 := Lib.hid (show Loc1 w.heap.size 30 #[.int .i64 m.kind, .int .i64 m.view, .int .i64 m.seq, .int .i64 m.client, .int .i64 m.stamp, .string ⟨m.digest.toArray⟩, .slice A1 m.data.length c1, .int .i64 m.code, .int .i64 m.stage, .slice A2 m.batch.length c2, .slice A3 m.pres.length c3, .slice A4 m.certs.length c4] (w.alloc (.cells #[.int .i64 m.kind, .int .i64 m.view, .int .i64 m.seq, .int .i64 m.client, .int .i64 m.stamp, .string ⟨m.digest.toArray⟩, .slice A1 m.data.length c1, .int .i64 m.code, .int .i64 m.stage, .slice A2 m.batch.length c2, .slice A3 m.pres.length c3, .slice A4 m.certs.length c4] 30)) from heap_new _ _)
  have HB := Lib.hid (show ∀ W, Below w.heap.size w W → Calls Try.prog 15 #[.slice A2 m.batch.length c2] W (Ret W (.bool (brf m.batch))) from fun W hW => brief_c (h2.below hW))
  have HP := Lib.hid (show ∀ W, Below w.heap.size w W → Calls Try.prog 15 #[.slice A3 m.pres.length c3] W (Ret W (.bool (brf m.pres))) from fun W hW => brief_c (h3.below hW))
  have HC := Lib.hid h4
  have hmax := h4.len.2.2.1
  have hnc := h4.len.2.1
  clear h h1 h2 h3 h4
  by_cases hdg : (m.digest.length : Int) ≤ 2000
  rotate_left
  · have E := Lib.hid (show few m = false by rw [few_and m _ _ _ _ _ _ (decide_eq_false hdg) rfl rfl rfl rfl rfl]; rfl)
    go_enter Try.func8, Try.ntmps8
    go_wp2_with fail
    go_ret
    rw [E.out]
    exact ⟨rfl, B0.out⟩
  by_cases hda : (m.data.length : Int) ≤ 5000
  rotate_left
  · have E := Lib.hid (show few m = false by rw [few_and m _ _ _ _ _ _ (decide_eq_true hdg) (decide_eq_false hda) rfl rfl rfl rfl]; rfl)
    go_enter Try.func8, Try.ntmps8
    go_wp2_with fail
    go_ret
    rw [E.out]
    exact ⟨rfl, B0.out⟩
  have EA := Lib.hid (show few m = (brf m.batch && brf m.pres && decide ((m.certs.length : Int) ≤ 20) && m.certs.all few1) by rw [few_and m _ _ _ _ _ _ (decide_eq_true hdg) (decide_eq_true hda) rfl rfl rfl rfl]; rfl)
  go_enter Try.func8, Try.ntmps8
  go_wp2_with fail
  refine (HB.out _ B0.out).mono ?_
  rintro e w1 ⟨rfl, hb⟩
  have L1 := Lib.hid (L0.out.below hb)
  have B1 := Lib.hid (below_self B0.out hb)
  clear hb B0 L0 HB
  cases hba : brf m.batch
  · replace EA := Lib.hid (EA.out.trans (by rw [hba]; rfl : _ = false))
    go_wp2_with fail
    go_ret
    rw [EA.out]
    exact ⟨rfl, B1.out⟩
  · replace EA := Lib.hid (EA.out.trans (by rw [hba]; rfl : _ = (brf m.pres && decide ((m.certs.length : Int) ≤ 20) && m.certs.all few1)))
    have m10 : w1.cell? ⟨w.heap.size, 10, none⟩ = some (.slice A3 m.pres.length c3) := cell_of L1.out 10
    go_wp2_with fail
    refine (HP.out _ B1.out).mono ?_
    rintro e w2 ⟨rfl, hb⟩
    have L2 := Lib.hid (L1.out.below hb)
    have B2 := Lib.hid (below_self B1.out hb)
    clear hb B1 L1 HP m10
    cases hpr : brf m.pres
    · replace EA := Lib.hid (EA.out.trans (by rw [hpr]; rfl : _ = false))
      go_wp2_with fail
      go_ret
      rw [EA.out]
      exact ⟨rfl, B2.out⟩
    · have m11 : w2.cell? ⟨w.heap.size, 11, none⟩ = some (.slice A4 m.certs.length c4) := cell_of L2.out 11
      by_cases hce : (m.certs.length : Int) ≤ 20
      · replace EA := Lib.hid (EA.out.trans (by rw [hpr, decide_eq_true hce]; rfl : _ = m.certs.all few1))
        go_wp2_with fail
        go_loopw [3] (fun v wr => ∃ k : Nat, k ≤ m.certs.length ∧ v = .int .i64 k ∧ (∀ j x, j < k → m.certs[j]? = some x → few1 x = true) ∧ Below w.heap.size w wr ∧ Loc1 w.heap.size 30 #[.int .i64 m.kind, .int .i64 m.view, .int .i64 m.seq, .int .i64 m.client, .int .i64 m.stamp, .string ⟨m.digest.toArray⟩, .slice A1 m.data.length c1, .int .i64 m.code, .int .i64 m.stage, .slice A2 m.batch.length c2, .slice A3 m.pres.length c3, .slice A4 m.certs.length c4] wr) (fun v _ => m.certs.length - (intOf v).toNat)
        case atStart => exact ⟨0, Nat.zero_le _, rfl, fun j x hj => absurd hj (Nat.not_lt_zero _), B2.out, L2.out⟩
        case round =>
          obtain ⟨k, hk, rfl, hp, hb, hl⟩ := hrel
          have HP := Lib.hid hp
          have HB := Lib.hid hb
          have LL := Lib.hid hl
          have hz1 := lt_of_heap hl
          clear hp hb hl B2 L2 m11
          have m11 : wr.cell? ⟨w.heap.size, 11, none⟩ = some (.slice A4 m.certs.length c4) := cell_of LL.out 11
          by_cases hlt : k < m.certs.length
          · obtain ⟨ad, e, B, d, B', d', rfl, he, p0, p1, p2, s1, s2⟩ := crt_at (HC.out.below HB.out) hlt
            have HE := Lib.hid he
            have HQ := Lib.hid (brief_c s2)
            clear he s1 s2
            by_cases hb : (e.pre.body.length : Int) ≤ 500
            · have F := Lib.hid (show few1 e = brf e.votes by unfold few1; rw [decide_eq_true hb, Bool.true_and])
              cases hv : brf e.votes
              · replace EA := Lib.hid (EA.out.trans (all_no HE.out (F.out.trans hv)))
                rw [hv] at HQ
                go_wp2_with fail
                refine HQ.out.mono ?_
                rintro e1 w4 ⟨rfl, hb1⟩
                have HB1 := Lib.hid (below_self HB.out hb1)
                clear hb1
                go_wp2_with fail
                go_ret
                rw [EA.out]
                exact ⟨rfl, HB1.out⟩
              · rw [hv] at HQ
                replace F := Lib.hid (F.out.trans hv)
                go_wp2_with fail
                refine HQ.out.mono ?_
                rintro e1 w4 ⟨rfl, hb1⟩
                have HB1 := Lib.hid (below_self HB.out hb1)
                have LL1 := Lib.hid (LL.out.below hb1)
                clear hb1
                go_wp2_with fail
                go_roundw
                case rel =>
                  refine ⟨k + 1, by omega, by go_num, fun j x hj hx => ?_, HB1.out, LL1.out⟩
                  rcases Nat.lt_or_ge j k with h | h
                  · exact HP.out j x h hx
                  · obtain rfl : j = k := by omega
                    rw [HE.out] at hx
                    injection hx with hx
                    rw [← hx]
                    exact F.out
                case measure => simp [intOf]; omega
            · replace EA := Lib.hid (EA.out.trans (all_no HE.out (by unfold few1; rw [decide_eq_false hb]; rfl)))
              go_wp2_with fail
              go_ret
              rw [EA.out]
              exact ⟨rfl, HB.out⟩
          · replace EA := Lib.hid (EA.out.trans (all_yes fun j x hj hx => HP.out j x (by omega) hx))
            go_wp2_with fail
            go_ret
            rw [EA.out]
            exact ⟨rfl, HB.out⟩
      · replace EA := Lib.hid (EA.out.trans (by rw [hpr, decide_eq_false hce]; rfl : _ = false))
        go_wp2_with fail
        go_ret
        rw [EA.out]
        exact ⟨rfl, B2.out⟩
end
end Go.Proofs.Ytplpmhlakiikgaa
