/- Package message, walked: Check. -/
import Derived.Test.YtplpmhlakiikgaaM2
namespace Go.Proofs.Ytplpmhlakiikgaa
open Go.RowKit
set_option linter.unusedVariables false
section
variable {ok : Nat → Prop} {w : World}
def ored (a : Int) : Bool := !(Go.bits .and .i64 a 32 == 0)
def noRes (m : Msg) : Bool := m.code == 0 && m.stage == 0
def chkB (m : Msg) (a b c d : Int) : Bool :=
  inB a 1 m.view b 1099511627776 && inB a 2 m.seq c 1099511627776 && inB a 4 m.client 0 1099511627776 && inB a 4 m.stamp 1 1099511627776 &&
  (inB a 64 m.batch.length 0 d && inB a 128 m.pres.length 0 8 && inB a 256 m.certs.length 0 8) &&
  (inB a 8 m.digest.length 0 m.digest.length && inB a 16 m.data.length 0 m.data.length && (ored a || noRes m)) &&
  (!(m.kind == 1) || decide ((m.data.length : Int) ≤ 4096)) && (!(m.kind == 10) || (m.certs.length : Int) == 1) && !m.certs.any many
def chk (m : Msg) : Bool := match shp m.kind with | none => false | some (a, b, c, d) => chkB m a b c d
def errOf (b : Bool) : Int := if b then 0 else 120
/-- two variables of the call's own, that nobody writes -/
def Loc2 (N N1 : Nat) (t t1 : TypeId) (cm cs : Array Value) (W : World) : Prop := W.heap[N]? = some (.cells cm t (0, 0)) ∧ W.heap[N1]? = some (.cells cs t1 (0, 0))
theorem Loc2.below {N N1 : Nat} {t t1 : TypeId} {cm cs : Array Value} {W W' : World} (h : Loc2 N N1 t t1 cm cs W) (hb : Below W.heap.size W W') : Loc2 N N1 t t1 cm cs W' :=
  ⟨(hb.block _ (lt_of_heap h.1)).trans h.1, (hb.block _ (lt_of_heap h.2)).trans h.2⟩
set_option maxHeartbeats 4000000 in
theorem check_c {cs : List Value} {m : Msg} (h : kMsg.R ok w cs m) : Calls Try.prog 10 #[.agg cs.toArray] w (Ret w (.int .i64 (errOf (chk m)))) := by
  obtain ⟨A1, c1, A2, c2, A3, c3, A4, c4, rfl, h1, h2, h3, h4⟩ := msg_open h
  have HS := Lib.hid (fun W => shapeOf_c (w := W) m.kind)
  have HC := Lib.hid h4
  have B0 := Lib.hid (show Below w.heap.size w (w.alloc (.cells #[.int .i64 m.kind, .int .i64 m.view, .int .i64 m.seq, .int .i64 m.client, .int .i64 m.stamp, .string ⟨m.digest.toArray⟩, .slice A1 m.data.length c1, .int .i64 m.code, .int .i64 m.stage, .slice A2 m.batch.length c2, .slice A3 m.pres.length c3, .slice A4 m.certs.length c4] 30)) from (Below.refl _ _).alloc (Nat.le_refl _) _)
  have L0 := Lib.hid (heap_new w (.cells #[.int .i64 m.kind, .int .i64 m.view, .int .i64 m.seq, .int .i64 m.client, .int .i64 m.stamp, .string ⟨m.digest.toArray⟩, .slice A1 m.data.length c1, .int .i64 m.code, .int .i64 m.stage, .slice A2 m.batch.length c2, .slice A3 m.pres.length c3, .slice A4 m.certs.length c4] 30))
  clear h h1 h2 h3 h4
  go_enter Try.func10, Try.ntmps10
  go_wp2_with fail
  refine (HS.out _).mono ?_
  rintro e w1 ⟨⟨a, b, c, d, rfl, hq⟩, hb1⟩
  have HQ := Lib.hid hq
  have HB := Lib.hid (show Below w.heap.size w (w1.alloc (.cells #[.int .i64 a, .int .i64 b, .int .i64 c, .int .i64 d] 49)) from (below_self B0.out (hb1.mono (by simp))).alloc (below_self B0.out (hb1.mono (by simp))).size _)
  have LC := Lib.hid (show Loc2 w.heap.size w1.heap.size 30 49 #[.int .i64 m.kind, .int .i64 m.view, .int .i64 m.seq, .int .i64 m.client, .int .i64 m.stamp, .string ⟨m.digest.toArray⟩, .slice A1 m.data.length c1, .int .i64 m.code, .int .i64 m.stage, .slice A2 m.batch.length c2, .slice A3 m.pres.length c3, .slice A4 m.certs.length c4] #[.int .i64 a, .int .i64 b, .int .i64 c, .int .i64 d] (w1.alloc (.cells #[.int .i64 a, .int .i64 b, .int .i64 c, .int .i64 d] 49)) from
    ⟨(Below.heap_alloc _ _ _ (Nat.lt_of_lt_of_le (by simp) hb1.size)).trans ((hb1.block _ (by simp)).trans L0.out), heap_new _ _⟩)
  have L1 := Lib.hid ((hb1.block _ (by simp)).trans L0.out)
  clear hq HS
  have m0 : w1.cell? ⟨w.heap.size, 0, none⟩ = some (.int .i64 m.kind) := cell_of L1.out 0
  have m1 : w1.cell? ⟨w.heap.size, 1, none⟩ = some (.int .i64 m.view) := cell_of L1.out 1
  have m2 : w1.cell? ⟨w.heap.size, 2, none⟩ = some (.int .i64 m.seq) := cell_of L1.out 2
  have m3 : w1.cell? ⟨w.heap.size, 3, none⟩ = some (.int .i64 m.client) := cell_of L1.out 3
  have m4 : w1.cell? ⟨w.heap.size, 4, none⟩ = some (.int .i64 m.stamp) := cell_of L1.out 4
  have m5 : w1.cell? ⟨w.heap.size, 5, none⟩ = some (.string ⟨m.digest.toArray⟩) := cell_of L1.out 5
  have m6 : w1.cell? ⟨w.heap.size, 6, none⟩ = some (.slice A1 m.data.length c1) := cell_of L1.out 6
  have m7 : w1.cell? ⟨w.heap.size, 7, none⟩ = some (.int .i64 m.code) := cell_of L1.out 7
  have m8 : w1.cell? ⟨w.heap.size, 8, none⟩ = some (.int .i64 m.stage) := cell_of L1.out 8
  have m9 : w1.cell? ⟨w.heap.size, 9, none⟩ = some (.slice A2 m.batch.length c2) := cell_of L1.out 9
  have m10 : w1.cell? ⟨w.heap.size, 10, none⟩ = some (.slice A3 m.pres.length c3) := cell_of L1.out 10
  have m11 : w1.cell? ⟨w.heap.size, 11, none⟩ = some (.slice A4 m.certs.length c4) := cell_of L1.out 11
  have hz := Nat.lt_of_lt_of_le (show w.heap.size < (w.alloc (.cells #[.int .i64 m.kind, .int .i64 m.view, .int .i64 m.seq, .int .i64 m.client, .int .i64 m.stamp, .string ⟨m.digest.toArray⟩, .slice A1 m.data.length c1, .int .i64 m.code, .int .i64 m.stage, .slice A2 m.batch.length c2, .slice A3 m.pres.length c3, .slice A4 m.certs.length c4] 30)).heap.size by simp) hb1.size
  clear hb1 B0 L0
  cases hsome : (shp m.kind).isSome
  · have E := Lib.hid (show chk m = false by unfold chk; cases hx : shp m.kind with | none => rfl | some q => rw [hx] at hsome; cases hsome)
    go_wp2_with fail
    go_ret
    exact ⟨by rw [E.out]; rfl, HB.out⟩
  · have E := Lib.hid (show chk m = chkB m a b c d by
      unfold chk
      cases hx : shp m.kind with
      | none => rw [hx] at hsome; cases hsome
      | some q => rw [HQ.out q hx])
    go_wp2_with (first
      | (go_at_call 25; refine (in_c _ _ _ _ _ _ _ _).mono ?_; rintro e w' ⟨rfl, hb⟩; have HB := Lib.hid (below_self HB.out hb); have LC := Lib.hid (LC.out.below hb); (try clear m0 m1 m2 m3 m4 m5 m6 m7 m8 m9 m10 m11); (try clear s0 s1 s2 s3); clear hb; have m0 : w'.cell? ⟨w.heap.size, 0, none⟩ = some (.int .i64 m.kind) := cell_of LC.out.1 0; have m1 : w'.cell? ⟨w.heap.size, 1, none⟩ = some (.int .i64 m.view) := cell_of LC.out.1 1; have m2 : w'.cell? ⟨w.heap.size, 2, none⟩ = some (.int .i64 m.seq) := cell_of LC.out.1 2; have m3 : w'.cell? ⟨w.heap.size, 3, none⟩ = some (.int .i64 m.client) := cell_of LC.out.1 3; have m4 : w'.cell? ⟨w.heap.size, 4, none⟩ = some (.int .i64 m.stamp) := cell_of LC.out.1 4; have m5 : w'.cell? ⟨w.heap.size, 5, none⟩ = some (.string ⟨m.digest.toArray⟩) := cell_of LC.out.1 5; have m6 : w'.cell? ⟨w.heap.size, 6, none⟩ = some (.slice A1 m.data.length c1) := cell_of LC.out.1 6; have m7 : w'.cell? ⟨w.heap.size, 7, none⟩ = some (.int .i64 m.code) := cell_of LC.out.1 7; have m8 : w'.cell? ⟨w.heap.size, 8, none⟩ = some (.int .i64 m.stage) := cell_of LC.out.1 8; have m9 : w'.cell? ⟨w.heap.size, 9, none⟩ = some (.slice A2 m.batch.length c2) := cell_of LC.out.1 9; have m10 : w'.cell? ⟨w.heap.size, 10, none⟩ = some (.slice A3 m.pres.length c3) := cell_of LC.out.1 10; have m11 : w'.cell? ⟨w.heap.size, 11, none⟩ = some (.slice A4 m.certs.length c4) := cell_of LC.out.1 11; have s0 : w'.cell? ⟨w1.heap.size, 0, none⟩ = some (.int .i64 a) := cell_of LC.out.2 0; have s1 : w'.cell? ⟨w1.heap.size, 1, none⟩ = some (.int .i64 b) := cell_of LC.out.2 1; have s2 : w'.cell? ⟨w1.heap.size, 2, none⟩ = some (.int .i64 c) := cell_of LC.out.2 2; have s3 : w'.cell? ⟨w1.heap.size, 3, none⟩ = some (.int .i64 d) := cell_of LC.out.2 3)
      | (go_at_call 26; refine (contains_c (HC.out.below HB.out)).mono ?_; rintro e w' ⟨rfl, hb⟩; have HB := Lib.hid (below_self HB.out hb); clear hb))
    all_goals
      go_ret
      refine ⟨?_, HB.out⟩
      have hE := E.out
      show Ending.returned (Value.int .i64 _) = Ending.returned (Value.int .i64 _)
      rw [hE]
      simp [chkB, ored, noRes, errOf, *]
      try first
        | (intro hq; omega)
        | (rw [show (1 : Int) = (m.certs.length : Int) by symm; assumption]; assumption)
end
end Go.Proofs.Ytplpmhlakiikgaa
