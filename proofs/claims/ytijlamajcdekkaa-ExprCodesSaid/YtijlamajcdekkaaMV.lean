/- Texts that go together. -/
import Derived.Test.YtijlamajcdekkaaMG
import Derived.Test.YtijlamajcdekkaaMC
import Derived.Test.YtijlamajcdekkaaMW
/- The laws' own small functions, walked: long; and the reference's Same of expressions. -/
namespace Go.Proofs.Ytijlamajcdekkaa
open Go.RowKit
set_option linter.unusedVariables false
set_option linter.unusedSimpArgs false
/-- has an expression a text of more than 200 bytes? -/
def lngE : Nat → Exp → Bool
  | 0, _ => false
  | n + 1, e => (decide (200 < e.name.length) || decide (200 < e.val.text.length)) || e.kids.any (lngE n)
section
variable {w : World}
set_option maxHeartbeats 2000000 in
theorem long_c {ok : Nat → Prop} : ∀ (n : Nat) (w : World) (cs : List Value) (e : Exp), (kExp n).R ok w cs e →
    Calls Try.prog 20 #[.agg cs.toArray] w (Ret w (.bool (lngE n e))) := by
  intro n
  induction n with
  | zero => intro w cs e h; exact h.elim
  | succ n ih =>
    intro w cs e h
    obtain ⟨k, A, c, hk, rfl, hs⟩ := exp_open h
    obtain rfl : n = k := by omega
    have SF := store_f64
    have E := Lib.hid (show lngE (n + 1) e = ((decide (200 < e.name.length) || decide (200 < e.val.text.length)) || e.kids.any (lngE n)) from rfl)
    have IH := Lib.hid ih
    clear ih
    have hmax := hs.len.2.2.1
    have hnc := hs.len.2.1
    have B0 := Lib.hid (show Below w.heap.size w (w.alloc (.cells #[.int .i64 e.op, .slice A e.kids.length c, .string ⟨e.name.toArray⟩, .int .i64 e.val.kind, .int .i64 e.val.int, .bool e.val.bool, .string ⟨e.val.text.toArray⟩, .float .f64 e.val.num] 27)) from (Below.refl _ _).alloc (Nat.le_refl _) _)
    have L0 := Lib.hid (show Loc1 w.heap.size 27 #[.int .i64 e.op, .slice A e.kids.length c, .string ⟨e.name.toArray⟩, .int .i64 e.val.kind, .int .i64 e.val.int, .bool e.val.bool, .string ⟨e.val.text.toArray⟩, .float .f64 e.val.num] (w.alloc (.cells #[.int .i64 e.op, .slice A e.kids.length c, .string ⟨e.name.toArray⟩, .int .i64 e.val.kind, .int .i64 e.val.int, .bool e.val.bool, .string ⟨e.val.text.toArray⟩, .float .f64 e.val.num] 27)) from heap_new _ _)
    have HS := Lib.hid hs
    clear h hs
    generalize lngE (n + 1) e = r at *
    by_cases h1 : (200 : Int) < (e.name.length : Int)
    · have E2 := Lib.hid (show r = true by rw [E.out, decide_eq_true (show 200 < e.name.length by omega)]; simp)
      go_enter Try.func20, Try.ntmps20
      go_wp2_with fail
      go_ret
      rw [E2.out]
      exact ⟨rfl, B0.out⟩
    by_cases h2 : (200 : Int) < (e.val.text.length : Int)
    · have E2 := Lib.hid (show r = true by rw [E.out, decide_eq_true (show 200 < e.val.text.length by omega)]; simp)
      go_enter Try.func20, Try.ntmps20
      go_wp2_with fail
      go_ret
      rw [E2.out]
      exact ⟨rfl, B0.out⟩
    replace E := Lib.hid (show r = e.kids.any (lngE n) by rw [E.out, decide_eq_false (show ¬ 200 < e.name.length by omega), decide_eq_false (show ¬ 200 < e.val.text.length by omega)]; rfl)
    go_enter Try.func20, Try.ntmps20
    go_wp2_with fail
    go_loopw [3] (fun v5 wr => ∃ i : Nat, i ≤ e.kids.length ∧ v5 = .int .i64 i ∧ (∀ (j : Nat) (x : Exp), j < i → e.kids[j]? = some x → lngE n x = false) ∧ Below w.heap.size w wr ∧ Loc1 w.heap.size 27 #[.int .i64 e.op, .slice A e.kids.length c, .string ⟨e.name.toArray⟩, .int .i64 e.val.kind, .int .i64 e.val.int, .bool e.val.bool, .string ⟨e.val.text.toArray⟩, .float .f64 e.val.num] wr) (fun v5 _ => e.kids.length - (intOf v5).toNat)
    case atStart => exact ⟨0, Nat.zero_le _, rfl, fun j x hj => absurd hj (Nat.not_lt_zero _), B0.out, L0.out⟩
    case round =>
      obtain ⟨i, hi, rfl, hp, hb, hl⟩ := hrel
      have HP := Lib.hid hp
      have HB := Lib.hid hb
      have HL := Lib.hid hl
      clear hp hb hl B0 L0
      obtain ⟨q0, q1, -⟩ := cells8 HL.out
      have hzl := lt_of_heap HL.out
      by_cases hlt : i < e.kids.length
      · obtain ⟨ad, x, k', B, d', rfl, he, hk', hs', c0, c1, c2, c3, c4, c5, c6, c7⟩ := exp_at (HS.out.below HB.out) hlt
        have HE := Lib.hid he
        have HC := Lib.hid (IH.out wr _ x (hk' ▸ exp_mk hs'))
        clear he hs'
        go_wp2_with fail
        refine HC.out.mono ?_
        rintro e1 w2 ⟨rfl, hb⟩
        have B2 := Lib.hid (below_self HB.out hb)
        have L2 := Lib.hid (HL.out.below hb)
        clear HC hb c0 c1 c2 c3 c4 c5 c6 c7
        cases hu : lngE n x
        · have HU := Lib.hid hu
          go_wp2_with fail
          go_roundw
          case rel =>
            refine ⟨i + 1, by omega, by go_num, fun j y hj hy => ?_, B2.out, L2.out⟩
            rcases Nat.lt_or_ge j i with h | h
            · exact HP.out j y h hy
            · obtain rfl : j = i := by omega
              rw [HE.out] at hy
              injection hy with hy
              rw [← hy]
              exact HU.out
          case measure => simp [intOf]; omega
        · have E2 := Lib.hid (show r = true by rw [E.out]; exact any_yes HE.out hu)
          go_wp2_with fail
          go_ret
          rw [E2.out]
          exact ⟨rfl, B2.out⟩
      · have E2 := Lib.hid (show r = false by rw [E.out]; exact any_no (n := i) (by omega) HP.out)
        go_wp2_with fail
        go_ret
        rw [E2.out]
        exact ⟨rfl, HB.out⟩
end
/-- two expressions that are the same, by their values' codes -/
inductive EqX : Exp → Exp → Prop
  | mk {o : Int} {ks js : List Exp} {nm : List UInt8} {v u : Val} : sameV v u = true → ks.length = js.length → (∀ (i : Nat) (x y : Exp), ks[i]? = some x → js[i]? = some y → EqX x y) → EqX (.mk o ks nm v) (.mk o js nm u)
theorem EqX.open {e f : Exp} (h : EqX e f) : f.op = e.op ∧ f.name = e.name ∧ sameV e.val f.val = true ∧ f.kids.length = e.kids.length ∧ ∀ (i : Nat) (x y : Exp), e.kids[i]? = some x → f.kids[i]? = some y → EqX x y := by
  cases h with
  | mk a b c => exact ⟨rfl, rfl, a, b.symm, c⟩
section
variable {w : World}
theorem keepX {w W : World} {a : Addr} {v : Value} (h : w.cell? a = some v) (hW : Below w.heap.size w W) : W.cell? a = some v := (hW.cell (cell_lt h)).trans h
set_option maxRecDepth 20000 in
set_option maxHeartbeats 4000000 in
theorem rsameX_c {ok ok' : Nat → Prop} : ∀ (n m : Nat) (w : World) (cs ds : List Value) (e f : Exp), (kExp n).R ok w cs e → (kExp m).R ok' w ds f → EqX e f →
    Calls Try.prog 27 #[.agg cs.toArray, .agg ds.toArray] w (Ret w (.bool true)) := by
  intro n
  induction n with
  | zero => intro m w cs ds e f h; exact h.elim
  | succ n ih =>
    intro m w cs ds e f h h' hq
    obtain ⟨k, A, c, hk, rfl, hs⟩ := exp_open h
    obtain rfl : n = k := by omega
    obtain ⟨k', A', c', hk', rfl, hs'⟩ := exp_open h'
    obtain ⟨q1, q2, q3, q4, q5⟩ := hq.open
    rw [q4] at hs'
    rw [q1, q2, q4]
    have SF := store_f64
    have IH := Lib.hid ih
    have HQ := Lib.hid q5
    have HV := Lib.hid q3
    have hmax := hs.len.2.2.1
    have hnc := hs.len.2.1
    have hnc' := hs'.len.2.1
    have hmax' := hs'.len.2.2.1
    have HS := Lib.hid hs
    have HS' := Lib.hid hs'
    clear ih q5 hq h h' q3 hk hk' hs hs' q4 q1 q2
    have B0 : Below w.heap.size w ((w.alloc (.cells #[.int .i64 e.op, .slice A e.kids.length c, .string ⟨e.name.toArray⟩, .int .i64 e.val.kind, .int .i64 e.val.int, .bool e.val.bool, .string ⟨e.val.text.toArray⟩, .float .f64 e.val.num] 27)).alloc (.cells #[.int .i64 e.op, .slice A' e.kids.length c', .string ⟨e.name.toArray⟩, .int .i64 f.val.kind, .int .i64 f.val.int, .bool f.val.bool, .string ⟨f.val.text.toArray⟩, .float .f64 f.val.num] 27)) := bW
    have L1 : Loc1 w.heap.size 27 #[.int .i64 e.op, .slice A e.kids.length c, .string ⟨e.name.toArray⟩, .int .i64 e.val.kind, .int .i64 e.val.int, .bool e.val.bool, .string ⟨e.val.text.toArray⟩, .float .f64 e.val.num] ((w.alloc (.cells #[.int .i64 e.op, .slice A e.kids.length c, .string ⟨e.name.toArray⟩, .int .i64 e.val.kind, .int .i64 e.val.int, .bool e.val.bool, .string ⟨e.val.text.toArray⟩, .float .f64 e.val.num] 27)).alloc (.cells #[.int .i64 e.op, .slice A' e.kids.length c', .string ⟨e.name.toArray⟩, .int .i64 f.val.kind, .int .i64 f.val.int, .bool f.val.bool, .string ⟨f.val.text.toArray⟩, .float .f64 f.val.num] 27)) := (Loc1.new _ _ _).al _
    have L2 : Loc1 (w.heap.size + 1) 27 #[.int .i64 e.op, .slice A' e.kids.length c', .string ⟨e.name.toArray⟩, .int .i64 f.val.kind, .int .i64 f.val.int, .bool f.val.bool, .string ⟨f.val.text.toArray⟩, .float .f64 f.val.num] ((w.alloc (.cells #[.int .i64 e.op, .slice A e.kids.length c, .string ⟨e.name.toArray⟩, .int .i64 e.val.kind, .int .i64 e.val.int, .bool e.val.bool, .string ⟨e.val.text.toArray⟩, .float .f64 e.val.num] 27)).alloc (.cells #[.int .i64 e.op, .slice A' e.kids.length c', .string ⟨e.name.toArray⟩, .int .i64 f.val.kind, .int .i64 f.val.int, .bool f.val.bool, .string ⟨f.val.text.toArray⟩, .float .f64 f.val.num] 27)) := Loc1.newE _ _ _ (by simp)
    have HB := Lib.hid B0
    have K1 := Lib.hid (fun (W : World) (hW : Below ((w.alloc (.cells #[.int .i64 e.op, .slice A e.kids.length c, .string ⟨e.name.toArray⟩, .int .i64 e.val.kind, .int .i64 e.val.int, .bool e.val.bool, .string ⟨e.val.text.toArray⟩, .float .f64 e.val.num] 27)).alloc (.cells #[.int .i64 e.op, .slice A' e.kids.length c', .string ⟨e.name.toArray⟩, .int .i64 f.val.kind, .int .i64 f.val.int, .bool f.val.bool, .string ⟨f.val.text.toArray⟩, .float .f64 f.val.num] 27)).heap.size ((w.alloc (.cells #[.int .i64 e.op, .slice A e.kids.length c, .string ⟨e.name.toArray⟩, .int .i64 e.val.kind, .int .i64 e.val.int, .bool e.val.bool, .string ⟨e.val.text.toArray⟩, .float .f64 e.val.num] 27)).alloc (.cells #[.int .i64 e.op, .slice A' e.kids.length c', .string ⟨e.name.toArray⟩, .int .i64 f.val.kind, .int .i64 f.val.int, .bool f.val.bool, .string ⟨f.val.text.toArray⟩, .float .f64 f.val.num] 27)) W) => L1.bel hW)
    have K2 := Lib.hid (fun (W : World) (hW : Below ((w.alloc (.cells #[.int .i64 e.op, .slice A e.kids.length c, .string ⟨e.name.toArray⟩, .int .i64 e.val.kind, .int .i64 e.val.int, .bool e.val.bool, .string ⟨e.val.text.toArray⟩, .float .f64 e.val.num] 27)).alloc (.cells #[.int .i64 e.op, .slice A' e.kids.length c', .string ⟨e.name.toArray⟩, .int .i64 f.val.kind, .int .i64 f.val.int, .bool f.val.bool, .string ⟨f.val.text.toArray⟩, .float .f64 f.val.num] 27)).heap.size ((w.alloc (.cells #[.int .i64 e.op, .slice A e.kids.length c, .string ⟨e.name.toArray⟩, .int .i64 e.val.kind, .int .i64 e.val.int, .bool e.val.bool, .string ⟨e.val.text.toArray⟩, .float .f64 e.val.num] 27)).alloc (.cells #[.int .i64 e.op, .slice A' e.kids.length c', .string ⟨e.name.toArray⟩, .int .i64 f.val.kind, .int .i64 f.val.int, .bool f.val.bool, .string ⟨f.val.text.toArray⟩, .float .f64 f.val.num] 27)) W) => L2.bel hW)
    clear B0 L1 L2
    go_enter Try.func27, Try.ntmps27
    go_wp2_with fail
    refine (same4_c e.val f.val).mono ?_
    rintro x9 w1 ⟨rfl, hb1⟩
    have L1 := K1.out w1 hb1
    have L2 := K2.out w1 hb1
    replace HB := Lib.hid (below_self HB.out hb1)
    clear K1 K2 hb1
    rw [HV.out]
    obtain ⟨a0, a1, a2, a3, a4, a5, a6, a7⟩ := cells8 L1
    obtain ⟨b0, b1, b2, b3, b4, b5, b6, b7⟩ := cells8 L2
    go_wp2_with fail
    clear a0 a1 a2 a3 a4 a5 a6 a7 b0 b1 b2 b3 b4 b5 b6 b7
    have M1 := Lib.hid L1
    have M2 := Lib.hid L2
    clear L1 L2
    go_loopw [5] (fun v5 wr => ∃ i : Nat, i ≤ e.kids.length ∧ v5 = .int .i64 i ∧ Below w.heap.size w wr ∧ Loc1 w.heap.size 27 #[.int .i64 e.op, .slice A e.kids.length c, .string ⟨e.name.toArray⟩, .int .i64 e.val.kind, .int .i64 e.val.int, .bool e.val.bool, .string ⟨e.val.text.toArray⟩, .float .f64 e.val.num] wr ∧ Loc1 (w.heap.size + 1) 27 #[.int .i64 e.op, .slice A' e.kids.length c', .string ⟨e.name.toArray⟩, .int .i64 f.val.kind, .int .i64 f.val.int, .bool f.val.bool, .string ⟨f.val.text.toArray⟩, .float .f64 f.val.num] wr) (fun v5 _ => e.kids.length - (intOf v5).toNat)
    case atStart => exact ⟨0, Nat.zero_le _, rfl, HB.out, M1.out, M2.out⟩
    case round =>
      obtain ⟨i, hi, rfl, hb, hl1, hl2⟩ := hrel
      clear M1 M2 HB
      have HB := Lib.hid hb
      have HL1 := Lib.hid hl1
      have HL2 := Lib.hid hl2
      obtain ⟨-, a1, -⟩ := cells8 hl1
      obtain ⟨-, b1, -⟩ := cells8 hl2
      have hz1 := lt_of_heap hl1
      have hz2 := lt_of_heap hl2
      clear hb hl1 hl2
      by_cases hlt : i < e.kids.length
      · obtain ⟨ad, x, kx, B, d, rfl, he, hkx, hsx, c0, c1, c2, c3, c4, c5, c6, c7⟩ := exp_at (HS.out.below HB.out) hlt
        obtain ⟨ad', y, ky, B', d', rfl, he', hky, hsy, d0, d1, d2, d3, d4, d5, d6, d7⟩ := exp_at (HS'.out.below HB.out) hlt
        have HC := Lib.hid (fun (W : World) (hW : Below wr.heap.size wr W) => IH.out k' W _ _ x y (hkx ▸ exp_mk (hsx.below hW)) (hky ▸ exp_mk (hsy.below hW)) (HQ.out i x y he he'))
        have KR := Lib.hid (show ∀ W : World, Below wr.heap.size wr W → W.cell? ⟨w.heap.size, 1, none⟩ = some (.slice (some ad) e.kids.length c) ∧ W.cell? ⟨w.heap.size + 1, 1, none⟩ = some (.slice (some ad') e.kids.length c') ∧ W.cell? (ad.add (i * 8)) = some (.int .i64 x.op) ∧ W.cell? ⟨(ad.add (i * 8)).block, (ad.add (i * 8)).off + 1, none⟩ = some (.slice B x.kids.length d) ∧ W.cell? ⟨(ad.add (i * 8)).block, (ad.add (i * 8)).off + 2, none⟩ = some (.string ⟨x.name.toArray⟩) ∧ W.cell? ⟨(ad.add (i * 8)).block, (ad.add (i * 8)).off + 3, none⟩ = some (.int .i64 x.val.kind) ∧ W.cell? ⟨(ad.add (i * 8)).block, (ad.add (i * 8)).off + 4, none⟩ = some (.int .i64 x.val.int) ∧ W.cell? ⟨(ad.add (i * 8)).block, (ad.add (i * 8)).off + 5, none⟩ = some (.bool x.val.bool) ∧ W.cell? ⟨(ad.add (i * 8)).block, (ad.add (i * 8)).off + 6, none⟩ = some (.string ⟨x.val.text.toArray⟩) ∧ W.cell? ⟨(ad.add (i * 8)).block, (ad.add (i * 8)).off + 7, none⟩ = some (.float .f64 x.val.num) ∧ W.cell? (ad'.add (i * 8)) = some (.int .i64 y.op) ∧ W.cell? ⟨(ad'.add (i * 8)).block, (ad'.add (i * 8)).off + 1, none⟩ = some (.slice B' y.kids.length d') ∧ W.cell? ⟨(ad'.add (i * 8)).block, (ad'.add (i * 8)).off + 2, none⟩ = some (.string ⟨y.name.toArray⟩) ∧ W.cell? ⟨(ad'.add (i * 8)).block, (ad'.add (i * 8)).off + 3, none⟩ = some (.int .i64 y.val.kind) ∧ W.cell? ⟨(ad'.add (i * 8)).block, (ad'.add (i * 8)).off + 4, none⟩ = some (.int .i64 y.val.int) ∧ W.cell? ⟨(ad'.add (i * 8)).block, (ad'.add (i * 8)).off + 5, none⟩ = some (.bool y.val.bool) ∧ W.cell? ⟨(ad'.add (i * 8)).block, (ad'.add (i * 8)).off + 6, none⟩ = some (.string ⟨y.val.text.toArray⟩) ∧ W.cell? ⟨(ad'.add (i * 8)).block, (ad'.add (i * 8)).off + 7, none⟩ = some (.float .f64 y.val.num) from fun W hW => ⟨keepX a1 hW, keepX b1 hW, keepX c0 hW, keepX c1 hW, keepX c2 hW, keepX c3 hW, keepX c4 hW, keepX c5 hW, keepX c6 hW, keepX c7 hW, keepX d0 hW, keepX d1 hW, keepX d2 hW, keepX d3 hW, keepX d4 hW, keepX d5 hW, keepX d6 hW, keepX d7 hW⟩)
        clear he hsx he' hsy
        go_upto_region 6 with (fail)
        clear c0 c1 c2 c3 c4 c5 c6 c7 d0 d1 d2 d3 d4 d5 d6 d7 a1 b1
        go_region_held3 (fun W => W.cell? ⟨w.heap.size, 1, none⟩ = some (.slice (some ad) e.kids.length c) ∧ W.cell? ⟨w.heap.size + 1, 1, none⟩ = some (.slice (some ad') e.kids.length c') ∧ W.cell? (ad.add (i * 8)) = some (.int .i64 x.op) ∧ W.cell? ⟨(ad.add (i * 8)).block, (ad.add (i * 8)).off + 1, none⟩ = some (.slice B x.kids.length d) ∧ W.cell? ⟨(ad.add (i * 8)).block, (ad.add (i * 8)).off + 2, none⟩ = some (.string ⟨x.name.toArray⟩) ∧ W.cell? ⟨(ad.add (i * 8)).block, (ad.add (i * 8)).off + 3, none⟩ = some (.int .i64 x.val.kind) ∧ W.cell? ⟨(ad.add (i * 8)).block, (ad.add (i * 8)).off + 4, none⟩ = some (.int .i64 x.val.int) ∧ W.cell? ⟨(ad.add (i * 8)).block, (ad.add (i * 8)).off + 5, none⟩ = some (.bool x.val.bool) ∧ W.cell? ⟨(ad.add (i * 8)).block, (ad.add (i * 8)).off + 6, none⟩ = some (.string ⟨x.val.text.toArray⟩) ∧ W.cell? ⟨(ad.add (i * 8)).block, (ad.add (i * 8)).off + 7, none⟩ = some (.float .f64 x.val.num) ∧ W.cell? (ad'.add (i * 8)) = some (.int .i64 y.op) ∧ W.cell? ⟨(ad'.add (i * 8)).block, (ad'.add (i * 8)).off + 1, none⟩ = some (.slice B' y.kids.length d') ∧ W.cell? ⟨(ad'.add (i * 8)).block, (ad'.add (i * 8)).off + 2, none⟩ = some (.string ⟨y.name.toArray⟩) ∧ W.cell? ⟨(ad'.add (i * 8)).block, (ad'.add (i * 8)).off + 3, none⟩ = some (.int .i64 y.val.kind) ∧ W.cell? ⟨(ad'.add (i * 8)).block, (ad'.add (i * 8)).off + 4, none⟩ = some (.int .i64 y.val.int) ∧ W.cell? ⟨(ad'.add (i * 8)).block, (ad'.add (i * 8)).off + 5, none⟩ = some (.bool y.val.bool) ∧ W.cell? ⟨(ad'.add (i * 8)).block, (ad'.add (i * 8)).off + 6, none⟩ = some (.string ⟨y.val.text.toArray⟩) ∧ W.cell? ⟨(ad'.add (i * 8)).block, (ad'.add (i * 8)).off + 7, none⟩ = some (.float .f64 y.val.num)) (exact KR.out _ bW)
          (first
          | (go_at_call 27; refine (HC.out _ bW).mono ?_; rintro e1 w2 ⟨rfl, hb⟩))
        have hb2 : Below wr.heap.size wr w2 := bW
        have B2 := Lib.hid (below_self HB.out hb2)
        have L1 := Lib.hid (HL1.out.below hb2)
        have L2 := Lib.hid (HL2.out.below hb2)
        clear HC hb KR
        go_wp2_with fail
        go_roundw
        case rel => exact ⟨i + 1, by omega, by go_num, B2.out, L1.out, L2.out⟩
        case measure => simp [intOf]; omega
      · go_wp2_with fail
        go_ret
        exact ⟨rfl, HB.out⟩
end
end Go.Proofs.Ytijlamajcdekkaa

/- Chapter 5: a small expression without long texts may be put, and is short then. -/
namespace Go.Proofs.Ytijlamajcdekkaa
open Go.RowKit
set_option linter.unusedVariables false
set_option linter.unusedSimpArgs false
theorem bVal_le3 {v : Val} (h : v.text.length ≤ 200) : (bVal v).length ≤ 212 := by
  unfold bVal
  rw [List.length_append, bInt_len]
  repeat' split
  all_goals first | (rw [bInt_len]; omega) | (rw [bBytes_len]; omega) | (rw [be_len]; omega) | simp
theorem spD_lt : ∀ (d : Nat) (e : Exp) (N M : Int), spD d e N = (true, M) → M + e.kids.length < N
  | 0, e, N, M, hs => by simp [spD] at hs
  | d + 1, e, N, M, hs => by
    rw [spD] at hs
    by_cases hN : N - 1 < 0
    · rw [if_pos hN] at hs; simp at hs
    rw [if_neg hN] at hs
    have key : ∀ (l : List Exp) (a b : Int), l.foldl (spF d) (true, a) = (true, b) → b + l.length ≤ a := by
      intro l
      induction l with
      | nil => intro a b h; simp at h; simp [h]
      | cons x l ih =>
        intro a b h
        rw [List.foldl_cons] at h
        have e1 : spF d (true, a) x = spD d x a := rfl
        rw [e1] at h
        cases hq : spD d x a with
        | mk t q =>
          rw [hq] at h
          cases t with
          | false => rw [spF_no] at h; simp at h
          | true =>
            have h1 := spD_lt d x a q hq
            have h3 := ih q b h
            rw [List.length_cons]
            omega
    have := key e.kids (N - 1) M hs
    omega
theorem lng_put : ∀ (d n : Nat) (e : Exp) (N M : Int), ExpI e → lngE n e = false → spD d e N = (true, M) → N ≤ 4294967295 → ExpW n e ∧ ((bX n e).length : Int) ≤ 428 * (N - M)
  | 0, n, e, N, M, hi, hl, hs, _ => by simp [spD] at hs
  | d + 1, 0, e, N, M, hi, hl, hs, _ => by
    have := spD_le (d + 1) e N M hs
    refine ⟨trivial, ?_⟩
    show (([] : List UInt8).length : Int) ≤ _
    simp
    omega
  | d + 1, n + 1, e, N, M, hi, hl, hs, hm => by
    have hlt := spD_lt (d + 1) e N M hs
    have hM := spD_le (d + 1) e N M hs
    have hl : ((decide (200 < e.name.length) || decide (200 < e.val.text.length)) || e.kids.any (lngE n)) = false := hl
    simp only [Bool.or_eq_false_iff, decide_eq_false_iff_not, List.any_eq_false] at hl
    obtain ⟨⟨hn, ht⟩, hkk⟩ := hl
    rw [spD] at hs
    by_cases hN : N - 1 < 0
    · rw [if_pos hN] at hs; simp at hs
    rw [if_neg hN] at hs
    have key : ∀ (l : List Exp) (a b : Int), a ≤ N → (∀ x ∈ l, ExpI x) → (∀ x ∈ l, lngE n x = false) → l.foldl (spF d) (true, a) = (true, b) → (∀ x ∈ l, ExpW n x) ∧ (((l.map (bX n)).flatten).length : Int) ≤ 428 * (a - b) := by
      intro l
      induction l with
      | nil => intro a b h0 _ _ h; simp at h; simp [h]
      | cons x l ih =>
        intro a b h0 hx hy h
        rw [List.foldl_cons] at h
        have e1 : spF d (true, a) x = spD d x a := rfl
        rw [e1] at h
        cases hq : spD d x a with
        | mk t q =>
          rw [hq] at h
          cases t with
          | false => rw [spF_no] at h; simp at h
          | true =>
            have h2 := spD_le d x a q hq
            have h1 := lng_put d n x a q (hx x (by simp)) (hy x (by simp)) hq (by omega)
            have h3 := ih q b (by omega) (fun y hy => hx y (by simp [hy])) (fun z hz => hy z (by simp [hz])) h
            refine ⟨fun z hz => ?_, ?_⟩
            · rcases List.mem_cons.1 hz with rfl | hz
              · exact h1.1
              · exact h3.1 z hz
            rw [List.map_cons, List.flatten_cons, List.length_append]
            have := h1.2
            have := h3.2
            omega
    obtain ⟨ho, hk, hv⟩ : i64 e.op ∧ (∀ k ∈ e.kids, ExpI k) ∧ ValI e.val := by cases hi with | mk a b c => exact ⟨a, b, c⟩
    obtain ⟨k1, k2⟩ := key e.kids (N - 1) M (by omega) hk (fun x hx => by simpa using hkk x hx) hs
    refine ⟨⟨ho, ⟨hv.kind, hv.int, hv.num, by omega⟩, by omega, by omega, k1⟩, ?_⟩
    show ((bInt e.op ++ (bCount e.kids.length ++ (bBytes e.name ++ (bVal e.val ++ (e.kids.map (bX n)).flatten)))).length : Int) ≤ _
    have h2 := bVal_le3 (v := e.val) (by omega)
    simp only [List.length_append, bInt_len, bCount_len, bBytes_len]
    omega
theorem codes_le {n : Nat} {e : Exp} (hi : ExpI e) (hl : (small e && lngE (n + 1) e) = false) : (small e = true → ExpW (n + 1) e) ∧ (bE n e).length ≤ 10272 := by
  cases hs : small e with
  | false => exact ⟨fun h => (by cases h), by unfold bE; rw [hs]; simp⟩
  | true =>
    rw [hs] at hl
    have hl : lngE (n + 1) e = false := hl
    have h' := hs
    unfold small at h'
    cases hr : spD 6 e 24 with
    | mk b M =>
      rw [hr] at h'
      have h' : b = true := h'
      subst h'
      have h1 := lng_put 6 (n + 1) e 24 M hi hl hr (by omega)
      have h2 := spD_le 6 e 24 M hr
      refine ⟨fun _ => h1.1, ?_⟩
      unfold bE
      rw [hs]
      show (bX (n + 1) e).length ≤ _
      have := h1.2
      omega
/-- what is put and read again is the same -/
theorem codeB_two (b : Nat) : codeB (codeB b) = codeB b := by
  unfold codeB
  split
  · have := nan_one; simp [this]
  · rename_i h; simp [h]
theorem sameV_self (v : Val) : sameV v v = true := by unfold sameV; simp
theorem sameV_nV (v : Val) : sameV v (nV v) = true := by unfold sameV nV; simp [codeB_two]
theorem eqX_self : ∀ e : Exp, EqX e e
  | .mk o ks nm v => .mk (sameV_self v) rfl fun i x y hx hy => by
    have : x = y := by rw [hx] at hy; injection hy
    have hm := List.mem_of_getElem? hx
    rw [← this]
    exact eqX_self x
theorem eqX_nE : ∀ (n : Nat) (e : Exp), EqX e (nE n e)
  | 0, e => eqX_self e
  | n + 1, e => by
    obtain ⟨o, ks, nm, v⟩ := e
    show EqX (.mk o ks nm v) (.mk o (ks.map (nE n)) nm (nV v))
    refine .mk (sameV_nV v) (List.length_map ..).symm fun i x y hx hy => ?_
    have hy : (ks.map (nE n))[i]? = some y := hy
    rw [List.getElem?_map, hx] at hy
    injection hy with hy
    rw [← hy]
    exact eqX_nE n x
end Go.Proofs.Ytijlamajcdekkaa

/- Chapter 5: what is put of a checked expression is read again. -/
namespace Go.Proofs.Ytijlamajcdekkaa
open Go.RowKit
set_option linter.unusedVariables false
set_option linter.unusedSimpArgs false
theorem chkE_ok2 {fl : List Fld} {n : Nat} {e : Exp} (hd : Dp n e) (h : (chkE fl n e).2 = 0) : small e = true ∧ kE fl n e = .ok (chkE fl n e).1 := by
  unfold chkE at *
  by_cases hs : small e = true
  · rw [if_pos hs] at h ⊢
    cases hk : kE fl n e with
    | error x =>
      rw [hk] at h
      have h : x = 0 := h
      subst h
      exact absurd hk (kE_err n e hd)
    | ok k => exact ⟨hs, rfl⟩
  · rw [if_neg hs] at h
    cases h
theorem spD_nE : ∀ (d n : Nat) (e : Exp) (N : Int), spD d (nE n e) N = spD d e N
  | 0, n, e, N => rfl
  | d + 1, 0, e, N => rfl
  | d + 1, n + 1, e, N => by
    obtain ⟨o, ks, nm, v⟩ := e
    rw [spD_suc, spD_suc]
    have hk : (nE (n + 1) (.mk o ks nm v)).kids = ks.map (nE n) := rfl
    rw [hk]
    have : ∀ (l : List Exp) (r : Bool × Int), (l.map (nE n)).foldl (spF d) r = l.foldl (spF d) r := by
      intro l
      induction l with
      | nil => intro r; rfl
      | cons x l ih =>
        intro r
        rw [List.map_cons, List.foldl_cons, List.foldl_cons, ih]
        have : spF d r (nE n x) = spF d r x := by unfold spF; rw [spD_nE d n x]
        rw [this]
    rw [this]
    rfl
theorem small_nE (n : Nat) (e : Exp) : small (nE n e) = small e := by unfold small; rw [spD_nE]
/-- what is checked, put, and read -/
theorem back_plain {fl : List Fld} {n : Nat} {e : Exp} (hf : ∀ f ∈ fl, f.name.length ≤ 16) (hi : ExpI e) (hd : Dp (n + 1) e) (h : (chkE fl (n + 1) e).2 = 0) :
    (small e = true → ExpW (n + 1) e) ∧ (bE n e).length ≤ 1824 ∧ small (nE (n + 1) e) = true ∧ EqX e (nE (n + 1) e) ∧ ∀ t, gE (bE n e ++ t, 0) = .ok (nE (n + 1) e, (t, 0)) := by
  obtain ⟨hs, hk⟩ := chkE_ok2 hd h
  have ho := kE_okN hf (n + 1) hi hk
  have hv := kE_vd hf (n + 1) hi hk
  refine ⟨fun _ => ExpOk.w _ ho, bE_le hs ho, by rw [small_nE]; exact hs, eqX_nE _ _, fun t => ?_⟩
  unfold bE
  rw [if_pos hs]
  exact gE_put hv hs t
end Go.Proofs.Ytijlamajcdekkaa
