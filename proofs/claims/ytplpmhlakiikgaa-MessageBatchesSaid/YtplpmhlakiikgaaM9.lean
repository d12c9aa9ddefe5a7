/- Package message, walked: Decode. -/
import Derived.Test.YtplpmhlakiikgaaM8
namespace Go.Proofs.Ytplpmhlakiikgaa
open Go.RowKit
set_option linter.unusedVariables false
section
variable {ok : Nat → Prop} {w : World}
set_option maxRecDepth 10000 in
set_option maxHeartbeats 4000000 in
theorem decode_c {A : Option Addr} {n c : Nat} {b : List UInt8} (h : Sl kU8 ok w (.slice A n c) b) (hn : n ≤ 1099511627776) : Calls Try.prog 11 #[.slice A n c] w (RetMsg ok w (dec b)) := by
  have hl := h.len.1
  by_cases hbig : 16777216 < n
  · have E := Lib.hid (show dec b = (msg0 0, 11) by unfold dec; rw [if_pos (by omega)])
    go_enter Try.func11, Try.ntmps11
    go_wp2_with fail
    have k0 := cell_of (heap_new w (.cells #[.int .i64 0, .int .i64 0, .int .i64 0, .int .i64 0, .int .i64 0, .string ⟨#[]⟩, .slice none 0 0, .int .i64 0, .int .i64 0, .slice none 0 0, .slice none 0 0, .slice none 0 0] 30)) 0
    have k1 := cell_of (heap_new w (.cells #[.int .i64 0, .int .i64 0, .int .i64 0, .int .i64 0, .int .i64 0, .string ⟨#[]⟩, .slice none 0 0, .int .i64 0, .int .i64 0, .slice none 0 0, .slice none 0 0, .slice none 0 0] 30)) 1
    have k2 := cell_of (heap_new w (.cells #[.int .i64 0, .int .i64 0, .int .i64 0, .int .i64 0, .int .i64 0, .string ⟨#[]⟩, .slice none 0 0, .int .i64 0, .int .i64 0, .slice none 0 0, .slice none 0 0, .slice none 0 0] 30)) 2
    have k3 := cell_of (heap_new w (.cells #[.int .i64 0, .int .i64 0, .int .i64 0, .int .i64 0, .int .i64 0, .string ⟨#[]⟩, .slice none 0 0, .int .i64 0, .int .i64 0, .slice none 0 0, .slice none 0 0, .slice none 0 0] 30)) 3
    have k4 := cell_of (heap_new w (.cells #[.int .i64 0, .int .i64 0, .int .i64 0, .int .i64 0, .int .i64 0, .string ⟨#[]⟩, .slice none 0 0, .int .i64 0, .int .i64 0, .slice none 0 0, .slice none 0 0, .slice none 0 0] 30)) 4
    have k5 := cell_of (heap_new w (.cells #[.int .i64 0, .int .i64 0, .int .i64 0, .int .i64 0, .int .i64 0, .string ⟨#[]⟩, .slice none 0 0, .int .i64 0, .int .i64 0, .slice none 0 0, .slice none 0 0, .slice none 0 0] 30)) 5
    have k6 := cell_of (heap_new w (.cells #[.int .i64 0, .int .i64 0, .int .i64 0, .int .i64 0, .int .i64 0, .string ⟨#[]⟩, .slice none 0 0, .int .i64 0, .int .i64 0, .slice none 0 0, .slice none 0 0, .slice none 0 0] 30)) 6
    have k7 := cell_of (heap_new w (.cells #[.int .i64 0, .int .i64 0, .int .i64 0, .int .i64 0, .int .i64 0, .string ⟨#[]⟩, .slice none 0 0, .int .i64 0, .int .i64 0, .slice none 0 0, .slice none 0 0, .slice none 0 0] 30)) 7
    have k8 := cell_of (heap_new w (.cells #[.int .i64 0, .int .i64 0, .int .i64 0, .int .i64 0, .int .i64 0, .string ⟨#[]⟩, .slice none 0 0, .int .i64 0, .int .i64 0, .slice none 0 0, .slice none 0 0, .slice none 0 0] 30)) 8
    have k9 := cell_of (heap_new w (.cells #[.int .i64 0, .int .i64 0, .int .i64 0, .int .i64 0, .int .i64 0, .string ⟨#[]⟩, .slice none 0 0, .int .i64 0, .int .i64 0, .slice none 0 0, .slice none 0 0, .slice none 0 0] 30)) 9
    have k10 := cell_of (heap_new w (.cells #[.int .i64 0, .int .i64 0, .int .i64 0, .int .i64 0, .int .i64 0, .string ⟨#[]⟩, .slice none 0 0, .int .i64 0, .int .i64 0, .slice none 0 0, .slice none 0 0, .slice none 0 0] 30)) 10
    have k11 := cell_of (heap_new w (.cells #[.int .i64 0, .int .i64 0, .int .i64 0, .int .i64 0, .int .i64 0, .string ⟨#[]⟩, .slice none 0 0, .int .i64 0, .int .i64 0, .slice none 0 0, .slice none 0 0, .slice none 0 0] 30)) 11
    simp only [List.getElem?_toArray, List.getElem?_cons_zero, List.getElem?_cons_succ] at k0 k1 k2 k3 k4 k5 k6 k7 k8 k9 k10 k11
    refine bodyPost_ret (v := .tuple #[.agg #[.int .i64 0, .int .i64 0, .int .i64 0, .int .i64 0, .int .i64 0, .string ⟨#[]⟩, .slice none 0 0, .int .i64 0, .int .i64 0, .slice none 0 0, .slice none 0 0, .slice none 0 0], .int .i64 11]) (by simp [results, Try.results11, go_sem, k0, k1, k2, k3, k4, k5, k6, k7, k8, k9, k10, k11]) rfl ?_
    rw [E.out]
    exact ⟨_, rfl, msg0_mk _ _ _, (Below.refl _ _).alloc (Nat.le_refl _) _⟩
  · have E := Lib.hid (show dec b = decS n (rInt (b, 0)) by unfold dec; rw [if_neg (by omega), hl])
    have hn0 : (n : Int) ≤ 16777216 := by omega
    have B0 := Lib.hid (show Below w.heap.size w (w.alloc (.cells #[.int .i64 0, .int .i64 0, .int .i64 0, .int .i64 0, .int .i64 0, .string ⟨#[]⟩, .slice none 0 0, .int .i64 0, .int .i64 0, .slice none 0 0, .slice none 0 0, .slice none 0 0] 30)) from (Below.refl _ _).alloc (Nat.le_refl _) _)
    have L0 := Lib.hid (heap_new w (.cells #[.int .i64 0, .int .i64 0, .int .i64 0, .int .i64 0, .int .i64 0, .string ⟨#[]⟩, .slice none 0 0, .int .i64 0, .int .i64 0, .slice none 0 0, .slice none 0 0, .slice none 0 0] 30))
    have HN := Lib.hid (new_c (ok := fun _ => True) ((h.below B0.out).weak fun _ _ => trivial) (fun _ _ => trivial) hn)
    clear h
    go_enter Try.func11, Try.ntmps11
    go_wp2_with fail
    refine HN.out.mono ?_
    rintro e w1 ⟨g, rfl, hg, hr, hb⟩
    have HR := Lib.hid hr
    have BS := Lib.hid (show Below w1.heap.size w1 (w1.alloc (.cells #[.pointer (some ⟨g, 0, none⟩)] 64)) from (Below.refl _ _).alloc (Nat.le_refl _) _)
    have HN := Lib.hid (numr_c (ok := fun k => True ∧ k < w1.heap.size) g (b, 0) (hr.bound.below BS.out))
    have hgl := hr.lt
    have B1 := Lib.hid (below_self B0.out hb)
    have L1 := Lib.hid ((hb.block _ (by simp)).trans L0.out)
    have hz : w.heap.size < w1.heap.size := lt_of_heap L1.out
    have hgw : w.heap.size < g := lt_of_alloc hg
    clear hr hb L0 B0 hg
    go_wp2_with fail
    refine HN.out.mono ?_
    rintro e w2 ⟨rfl, hr, hx⟩
    generalize rInt (b, 0) = S at *
    obtain ⟨kind, S⟩ := S
    simp only at hr
    have HR := Lib.hid hr
    have B2 := Lib.hid (show Below w.heap.size w w2 from (below_self B1.out BS.out).trans (below_of_ext_ne hx (by omega) (by simp; omega)))
    have L2 := Lib.hid ((hx.block _ (by simp; omega) (by omega)).trans ((Below.heap_alloc _ _ _ hz).trans L1.out))
    have S2 := Lib.hid ((hx.block w1.heap.size (by simp) (by omega)).trans (heap_new _ _))
    have hz2 : w1.heap.size < w2.heap.size := lt_of_heap S2.out
    have HSh := Lib.hid (fun (W : World) => shapeOf_c (w := W) kind)
    have BM := Lib.hid (show Below w2.heap.size w2 (w2.alloc (.cells #[.int .i64 kind, .int .i64 0, .int .i64 0, .int .i64 0, .int .i64 0, .string ⟨#[]⟩, .slice none 0 0, .int .i64 0, .int .i64 0, .slice none 0 0, .slice none 0 0, .slice none 0 0] 30)) from (Below.refl _ _).alloc (Nat.le_refl _) _)
    have M0 := Lib.hid (heap_new w2 (.cells #[.int .i64 kind, .int .i64 0, .int .i64 0, .int .i64 0, .int .i64 0, .string ⟨#[]⟩, .slice none 0 0, .int .i64 0, .int .i64 0, .slice none 0 0, .slice none 0 0, .slice none 0 0] 30))
    clear hr hx HN L1 B1 BS
    go_wp2_with fail
    refine (HSh.out _).mono ?_
    rintro e w3 ⟨⟨a, b', c', d', rfl, hq⟩, hb⟩
    have M3 := Lib.hid ((hb.block _ (by simp)).trans M0.out)
    have B3 := Lib.hid (show Below w2.heap.size w2 w3 from below_self BM.out hb)
    have hz3 : w2.heap.size < w3.heap.size := lt_of_heap M3.out
    clear hb M0 BM HSh
    have HE := Lib.hid (show dec b = decS n (kind, S) from E.out)
    have BH := Lib.hid (show Below w3.heap.size w3 (w3.alloc (.cells #[.int .i64 a, .int .i64 b', .int .i64 c', .int .i64 d'] 49)) from (Below.refl _ _).alloc (Nat.le_refl _) _)
    have H4 := Lib.hid (heap_new w3 (.cells #[.int .i64 a, .int .i64 b', .int .i64 c', .int .i64 d'] 49))
    have S4 := Lib.hid (((B3.out.trans (BH.out.mono (by omega))).block _ hz2).trans S2.out)
    have L4 := Lib.hid (((B3.out.trans (BH.out.mono (by omega))).block _ (by omega)).trans L2.out)
    have M4 := Lib.hid ((BH.out.block _ hz3).trans M3.out)
    have R4 := Lib.hid (HR.out.below (B3.out.trans (BH.out.mono (by omega))))
    have B4 := Lib.hid (show Below w.heap.size w (w3.alloc (.cells #[.int .i64 a, .int .i64 b', .int .i64 c', .int .i64 d'] 49)) from (below_self B2.out B3.out).trans (BH.out.mono (by omega)))
    have hz4 : w3.heap.size < (w3.alloc (.cells #[.int .i64 a, .int .i64 b', .int .i64 c', .int .i64 d'] 49)).heap.size := by simp
    clear HR B2 L2 S2 M3 B3 BH E
    cases hs : shp kind with
    | none =>
      have e0 : (shp kind).isSome = false := by rw [hs]; rfl
      go_wp2_with fail
      go_loopw [8] (fun v8 wr => v8 = .int .i64 1 ∧ wr = w3.alloc (.cells #[.int .i64 a, .int .i64 b', .int .i64 c', .int .i64 d'] 49)) (fun _ _ => 0)
      case atStart => exact ⟨rfl, rfl⟩
      case round =>
        obtain ⟨rfl, rfl⟩ := hrel
        have p0 : (w3.alloc (.cells #[.int .i64 a, .int .i64 b', .int .i64 c', .int .i64 d'] 49)).cell? ⟨w1.heap.size, 0, none⟩ = some (.pointer (some ⟨g, 0, none⟩)) := cell_of S4.out 0
        go_wp2_with fail
        refine (end_c g S R4.out).mono ?_
        rintro e w5 ⟨rfl, hr, hx⟩
        have L5 := Lib.hid ((hx.block _ (by simp; omega) (by omega)).trans L4.out)
        have hz5 := lt_of_heap L5.out
        have B5 := Lib.hid (B4.out.trans (below_of_ext_ne hx (by omega) (by simp; omega)))
        clear hr hx R4 B4
        have t0 : w5.cell? ⟨w.heap.size, 0, none⟩ = some (.int .i64 0) := cell_of L5.out 0
        have t1 : w5.cell? ⟨w.heap.size, 1, none⟩ = some (.int .i64 0) := cell_of L5.out 1
        have t2 : w5.cell? ⟨w.heap.size, 2, none⟩ = some (.int .i64 0) := cell_of L5.out 2
        have t3 : w5.cell? ⟨w.heap.size, 3, none⟩ = some (.int .i64 0) := cell_of L5.out 3
        have t4 : w5.cell? ⟨w.heap.size, 4, none⟩ = some (.int .i64 0) := cell_of L5.out 4
        have t5 : w5.cell? ⟨w.heap.size, 5, none⟩ = some (.string ⟨#[]⟩) := cell_of L5.out 5
        have t6 : w5.cell? ⟨w.heap.size, 6, none⟩ = some (.slice none 0 0) := cell_of L5.out 6
        have t7 : w5.cell? ⟨w.heap.size, 7, none⟩ = some (.int .i64 0) := cell_of L5.out 7
        have t8 : w5.cell? ⟨w.heap.size, 8, none⟩ = some (.int .i64 0) := cell_of L5.out 8
        have t9 : w5.cell? ⟨w.heap.size, 9, none⟩ = some (.slice none 0 0) := cell_of L5.out 9
        have t10 : w5.cell? ⟨w.heap.size, 10, none⟩ = some (.slice none 0 0) := cell_of L5.out 10
        have t11 : w5.cell? ⟨w.heap.size, 11, none⟩ = some (.slice none 0 0) := cell_of L5.out 11
        have u0 : w5.frozen? ⟨w.heap.size, 0, none⟩ = false := free_of L5.out 0
        have u1 : w5.frozen? ⟨w.heap.size, 1, none⟩ = false := free_of L5.out 1
        have u2 : w5.frozen? ⟨w.heap.size, 2, none⟩ = false := free_of L5.out 2
        have u3 : w5.frozen? ⟨w.heap.size, 3, none⟩ = false := free_of L5.out 3
        have u4 : w5.frozen? ⟨w.heap.size, 4, none⟩ = false := free_of L5.out 4
        have u5 : w5.frozen? ⟨w.heap.size, 5, none⟩ = false := free_of L5.out 5
        have u6 : w5.frozen? ⟨w.heap.size, 6, none⟩ = false := free_of L5.out 6
        have u7 : w5.frozen? ⟨w.heap.size, 7, none⟩ = false := free_of L5.out 7
        have u8 : w5.frozen? ⟨w.heap.size, 8, none⟩ = false := free_of L5.out 8
        have u9 : w5.frozen? ⟨w.heap.size, 9, none⟩ = false := free_of L5.out 9
        have u10 : w5.frozen? ⟨w.heap.size, 10, none⟩ = false := free_of L5.out 10
        have u11 : w5.frozen? ⟨w.heap.size, 11, none⟩ = false := free_of L5.out 11
        go_wp2_with fail
        have KH := set12_heap (.int .i64 0) (.int .i64 0) (.int .i64 0) (.int .i64 0) (.int .i64 0) (.string ⟨#[]⟩) (.slice none 0 0) (.int .i64 0) (.int .i64 0) (.slice none 0 0) (.slice none 0 0) (.slice none 0 0) L5.out
        have X5 := set12_ext w5 w.heap.size (.int .i64 0) (.int .i64 0) (.int .i64 0) (.int .i64 0) (.int .i64 0) (.string ⟨#[]⟩) (.slice none 0 0) (.int .i64 0) (.int .i64 0) (.slice none 0 0) (.slice none 0 0) (.slice none 0 0)
        have k0 := cell_of KH 0
        have k1 := cell_of KH 1
        have k2 := cell_of KH 2
        have k3 := cell_of KH 3
        have k4 := cell_of KH 4
        have k5 := cell_of KH 5
        have k6 := cell_of KH 6
        have k7 := cell_of KH 7
        have k8 := cell_of KH 8
        have k9 := cell_of KH 9
        have k10 := cell_of KH 10
        have k11 := cell_of KH 11
        simp only [List.getElem?_toArray, List.getElem?_cons_zero, List.getElem?_cons_succ] at k0 k1 k2 k3 k4 k5 k6 k7 k8 k9 k10 k11
        unfold set12 at k0 k1 k2 k3 k4 k5 k6 k7 k8 k9 k10 k11 X5
        refine bodyPost_ret (v := .tuple #[.agg #[.int .i64 0, .int .i64 0, .int .i64 0, .int .i64 0, .int .i64 0, .string ⟨#[]⟩, .slice none 0 0, .int .i64 0, .int .i64 0, .slice none 0 0, .slice none 0 0, .slice none 0 0], .int .i64 12]) (by simp [results, Try.results11, go_sem, k0, k1, k2, k3, k4, k5, k6, k7, k8, k9, k10, k11]) rfl ?_
        rw [HE.out]
        unfold decS
        rw [hs]
        exact ⟨_, rfl, msg0_mk _ _ _, B5.out.trans (below_of_ext_ne X5 (Nat.le_refl _) (by omega))⟩
    | some q =>
      obtain rfl := hq q hs
      have e0 : (shp kind).isSome = true := by rw [hs]; rfl
      have D0 := Lib.hid (show DS w.heap.size w1.heap.size w2.heap.size w3.heap.size g a b' c' d' w [.int .i64 kind, .int .i64 0, .int .i64 0, .int .i64 0, .int .i64 0, .string ⟨#[]⟩, .slice none 0 0, .int .i64 0, .int .i64 0, .slice none 0 0, .slice none 0 0, .slice none 0 0] (msg0 kind) S (w3.alloc (.cells #[.int .i64 a, .int .i64 b', .int .i64 c', .int .i64 d'] 49)) from
        ⟨msg0_mk _ _ _, ⟨L4.out, S4.out, M4.out, H4.out, by omega, by omega, by omega, by omega, by omega, by omega, by omega⟩, R4.out, B4.out, by omega, by omega, by omega, Nat.le_refl _⟩)
      have HE2 := Lib.hid (show dec b = if (rEnd (dcTo a n kind S 9).2).2 = 0 ∧ chk (dcTo a n kind S 9).1 = true then ((dcTo a n kind S 9).1, 0) else (msg0 0, 12) by rw [HE.out]; unfold decS; simp only; rw [hs])
      clear hq HE L4 S4 M4 H4 R4 B4
      go_wp2_with fail
      go_loopw [8] (fun v8 wr => ∃ i : Nat, i ≤ 9 ∧ v8 = .int .i64 (fv i) ∧ ∃ cs, DS w.heap.size w1.heap.size w2.heap.size w3.heap.size g a b' c' d' w cs (dcTo a n kind S i).1 (dcTo a n kind S i).2 wr) (fun v8 _ => 512 - (intOf v8).toNat)
      case atStart => exact ⟨0, by decide, rfl, _, D0.out⟩
      case round =>
        obtain ⟨i, hi, rfl, cs, hd⟩ := hrel
        clear D0
        have HD := Lib.hid (show i < 9 → dcTo a n kind S (i + 1) = if had a (fv i) then stp n (dcTo a n kind S i).1 (dcTo a n kind S i).2 i else dcTo a n kind S i from fun _ => rfl)
        generalize hT : dcTo a n kind S i = T at *
        obtain ⟨m, R⟩ := T
        simp only at hd HD
        have p0 := hd.dl.own
        have p1 := hd.dl.has
        obtain ⟨A1, c1, A2, c2, A3, c3, A4, c4, rfl, -⟩ := msg_open hd.msg
        have D := Lib.hid hd
        have hgr := hd.rd.lt
        clear hd
        rcases (show i = 9 ∨ i = 0 ∨ i = 1 ∨ i = 2 ∨ i = 3 ∨ i = 4 ∨ i = 5 ∨ i = 6 ∨ i = 7 ∨ i = 8 by omega) with rfl | rfl | rfl | rfl | rfl | rfl | rfl | rfl | rfl | rfl
        · rw [show fv 9 = 512 from rfl]
          go_wp2_with fail
          refine (end_c (ok := fun k => True ∧ k < w1.heap.size) g R D.out.rd).mono ?_
          rintro e w5 ⟨rfl, hr, hx⟩
          have E5 := Lib.hid (D.out.call hr hx)
          have RES := E5.out.dl.res
          have p2 := E5.out.dl.own
          clear hr hx D
          have t0 : w5.cell? ⟨w.heap.size, 0, none⟩ = some (.int .i64 0) := cell_of RES 0
          have t1 : w5.cell? ⟨w.heap.size, 1, none⟩ = some (.int .i64 0) := cell_of RES 1
          have t2 : w5.cell? ⟨w.heap.size, 2, none⟩ = some (.int .i64 0) := cell_of RES 2
          have t3 : w5.cell? ⟨w.heap.size, 3, none⟩ = some (.int .i64 0) := cell_of RES 3
          have t4 : w5.cell? ⟨w.heap.size, 4, none⟩ = some (.int .i64 0) := cell_of RES 4
          have t5 : w5.cell? ⟨w.heap.size, 5, none⟩ = some (.string ⟨#[]⟩) := cell_of RES 5
          have t6 : w5.cell? ⟨w.heap.size, 6, none⟩ = some (.slice none 0 0) := cell_of RES 6
          have t7 : w5.cell? ⟨w.heap.size, 7, none⟩ = some (.int .i64 0) := cell_of RES 7
          have t8 : w5.cell? ⟨w.heap.size, 8, none⟩ = some (.int .i64 0) := cell_of RES 8
          have t9 : w5.cell? ⟨w.heap.size, 9, none⟩ = some (.slice none 0 0) := cell_of RES 9
          have t10 : w5.cell? ⟨w.heap.size, 10, none⟩ = some (.slice none 0 0) := cell_of RES 10
          have t11 : w5.cell? ⟨w.heap.size, 11, none⟩ = some (.slice none 0 0) := cell_of RES 11
          have u0 : w5.frozen? ⟨w.heap.size, 0, none⟩ = false := free_of RES 0
          have u1 : w5.frozen? ⟨w.heap.size, 1, none⟩ = false := free_of RES 1
          have u2 : w5.frozen? ⟨w.heap.size, 2, none⟩ = false := free_of RES 2
          have u3 : w5.frozen? ⟨w.heap.size, 3, none⟩ = false := free_of RES 3
          have u4 : w5.frozen? ⟨w.heap.size, 4, none⟩ = false := free_of RES 4
          have u5 : w5.frozen? ⟨w.heap.size, 5, none⟩ = false := free_of RES 5
          have u6 : w5.frozen? ⟨w.heap.size, 6, none⟩ = false := free_of RES 6
          have u7 : w5.frozen? ⟨w.heap.size, 7, none⟩ = false := free_of RES 7
          have u8 : w5.frozen? ⟨w.heap.size, 8, none⟩ = false := free_of RES 8
          have u9 : w5.frozen? ⟨w.heap.size, 9, none⟩ = false := free_of RES 9
          have u10 : w5.frozen? ⟨w.heap.size, 10, none⟩ = false := free_of RES 10
          have u11 : w5.frozen? ⟨w.heap.size, 11, none⟩ = false := free_of RES 11
          have m0 : w5.cell? ⟨w2.heap.size, 0, none⟩ = some (.int .i64 m.kind) := E5.out.dl.at_ 0
          have m1 : w5.cell? ⟨w2.heap.size, 1, none⟩ = some (.int .i64 m.view) := E5.out.dl.at_ 1
          have m2 : w5.cell? ⟨w2.heap.size, 2, none⟩ = some (.int .i64 m.seq) := E5.out.dl.at_ 2
          have m3 : w5.cell? ⟨w2.heap.size, 3, none⟩ = some (.int .i64 m.client) := E5.out.dl.at_ 3
          have m4 : w5.cell? ⟨w2.heap.size, 4, none⟩ = some (.int .i64 m.stamp) := E5.out.dl.at_ 4
          have m5 : w5.cell? ⟨w2.heap.size, 5, none⟩ = some (.string ⟨m.digest.toArray⟩) := E5.out.dl.at_ 5
          have m6 : w5.cell? ⟨w2.heap.size, 6, none⟩ = some (.slice A1 m.data.length c1) := E5.out.dl.at_ 6
          have m7 : w5.cell? ⟨w2.heap.size, 7, none⟩ = some (.int .i64 m.code) := E5.out.dl.at_ 7
          have m8 : w5.cell? ⟨w2.heap.size, 8, none⟩ = some (.int .i64 m.stage) := E5.out.dl.at_ 8
          have m9 : w5.cell? ⟨w2.heap.size, 9, none⟩ = some (.slice A2 m.batch.length c2) := E5.out.dl.at_ 9
          have m10 : w5.cell? ⟨w2.heap.size, 10, none⟩ = some (.slice A3 m.pres.length c3) := E5.out.dl.at_ 10
          have m11 : w5.cell? ⟨w2.heap.size, 11, none⟩ = some (.slice A4 m.certs.length c4) := E5.out.dl.at_ 11
          have hz5 := lt_of_heap RES
          have hz6 := lt_of_heap E5.out.dl.msg
          have HC := Lib.hid (err_c (ok := fun k => True ∧ k < w1.heap.size) g (rEnd R) E5.out.rd)
          go_wp2_with fail
          refine HC.out.mono ?_
          rintro e w' ⟨rfl, rfl⟩
          clear HC
          generalize hRE : rEnd R = RE at *
          obtain ⟨rs, er⟩ := RE
          simp only at *
          by_cases hze : er = 0
          · subst hze
            have HK := Lib.hid (check_c E5.out.msg)
            go_wp2_with fail
            refine HK.out.mono ?_
            rintro e w6 ⟨rfl, hb6⟩
            have RES6 := (hb6.block _ hz5).trans RES
            have MSG6 := (hb6.block _ hz6).trans E5.out.dl.msg
            have B6 := Lib.hid (E5.out.bel.trans (hb6.mono (by omega)))
            have MS := Lib.hid (Kd.below E5.out.msg hb6)
            clear HK E5 RES p0 p1 p2 hb6
            clear t0 u0 m0 t1 u1 m1 t2 u2 m2 t3 u3 m3 t4 u4 m4 t5 u5 m5 t6 u6 m6 t7 u7 m7 t8 u8 m8 t9 u9 m9 t10 u10 m10 t11 u11 m11
            have RES := RES6
            clear RES6
            have t0 : w6.cell? ⟨w.heap.size, 0, none⟩ = some (.int .i64 0) := cell_of RES 0
            have t1 : w6.cell? ⟨w.heap.size, 1, none⟩ = some (.int .i64 0) := cell_of RES 1
            have t2 : w6.cell? ⟨w.heap.size, 2, none⟩ = some (.int .i64 0) := cell_of RES 2
            have t3 : w6.cell? ⟨w.heap.size, 3, none⟩ = some (.int .i64 0) := cell_of RES 3
            have t4 : w6.cell? ⟨w.heap.size, 4, none⟩ = some (.int .i64 0) := cell_of RES 4
            have t5 : w6.cell? ⟨w.heap.size, 5, none⟩ = some (.string ⟨#[]⟩) := cell_of RES 5
            have t6 : w6.cell? ⟨w.heap.size, 6, none⟩ = some (.slice none 0 0) := cell_of RES 6
            have t7 : w6.cell? ⟨w.heap.size, 7, none⟩ = some (.int .i64 0) := cell_of RES 7
            have t8 : w6.cell? ⟨w.heap.size, 8, none⟩ = some (.int .i64 0) := cell_of RES 8
            have t9 : w6.cell? ⟨w.heap.size, 9, none⟩ = some (.slice none 0 0) := cell_of RES 9
            have t10 : w6.cell? ⟨w.heap.size, 10, none⟩ = some (.slice none 0 0) := cell_of RES 10
            have t11 : w6.cell? ⟨w.heap.size, 11, none⟩ = some (.slice none 0 0) := cell_of RES 11
            have u0 : w6.frozen? ⟨w.heap.size, 0, none⟩ = false := free_of RES 0
            have u1 : w6.frozen? ⟨w.heap.size, 1, none⟩ = false := free_of RES 1
            have u2 : w6.frozen? ⟨w.heap.size, 2, none⟩ = false := free_of RES 2
            have u3 : w6.frozen? ⟨w.heap.size, 3, none⟩ = false := free_of RES 3
            have u4 : w6.frozen? ⟨w.heap.size, 4, none⟩ = false := free_of RES 4
            have u5 : w6.frozen? ⟨w.heap.size, 5, none⟩ = false := free_of RES 5
            have u6 : w6.frozen? ⟨w.heap.size, 6, none⟩ = false := free_of RES 6
            have u7 : w6.frozen? ⟨w.heap.size, 7, none⟩ = false := free_of RES 7
            have u8 : w6.frozen? ⟨w.heap.size, 8, none⟩ = false := free_of RES 8
            have u9 : w6.frozen? ⟨w.heap.size, 9, none⟩ = false := free_of RES 9
            have u10 : w6.frozen? ⟨w.heap.size, 10, none⟩ = false := free_of RES 10
            have u11 : w6.frozen? ⟨w.heap.size, 11, none⟩ = false := free_of RES 11
            have m0 : w6.cell? ⟨w2.heap.size, 0, none⟩ = some (.int .i64 m.kind) := cell_of MSG6 0
            have m1 : w6.cell? ⟨w2.heap.size, 1, none⟩ = some (.int .i64 m.view) := cell_of MSG6 1
            have m2 : w6.cell? ⟨w2.heap.size, 2, none⟩ = some (.int .i64 m.seq) := cell_of MSG6 2
            have m3 : w6.cell? ⟨w2.heap.size, 3, none⟩ = some (.int .i64 m.client) := cell_of MSG6 3
            have m4 : w6.cell? ⟨w2.heap.size, 4, none⟩ = some (.int .i64 m.stamp) := cell_of MSG6 4
            have m5 : w6.cell? ⟨w2.heap.size, 5, none⟩ = some (.string ⟨m.digest.toArray⟩) := cell_of MSG6 5
            have m6 : w6.cell? ⟨w2.heap.size, 6, none⟩ = some (.slice A1 m.data.length c1) := cell_of MSG6 6
            have m7 : w6.cell? ⟨w2.heap.size, 7, none⟩ = some (.int .i64 m.code) := cell_of MSG6 7
            have m8 : w6.cell? ⟨w2.heap.size, 8, none⟩ = some (.int .i64 m.stage) := cell_of MSG6 8
            have m9 : w6.cell? ⟨w2.heap.size, 9, none⟩ = some (.slice A2 m.batch.length c2) := cell_of MSG6 9
            have m10 : w6.cell? ⟨w2.heap.size, 10, none⟩ = some (.slice A3 m.pres.length c3) := cell_of MSG6 10
            have m11 : w6.cell? ⟨w2.heap.size, 11, none⟩ = some (.slice A4 m.certs.length c4) := cell_of MSG6 11
            have hz7 := lt_of_heap RES
            cases hck : chk m
            · have e1 : errOf false = 120 := rfl
              go_wp2_with fail
              have KH := set12_heap (.int .i64 0) (.int .i64 0) (.int .i64 0) (.int .i64 0) (.int .i64 0) (.string ⟨#[]⟩) (.slice none 0 0) (.int .i64 0) (.int .i64 0) (.slice none 0 0) (.slice none 0 0) (.slice none 0 0) RES
              have X5 := set12_ext w6 w.heap.size (.int .i64 0) (.int .i64 0) (.int .i64 0) (.int .i64 0) (.int .i64 0) (.string ⟨#[]⟩) (.slice none 0 0) (.int .i64 0) (.int .i64 0) (.slice none 0 0) (.slice none 0 0) (.slice none 0 0)
              have k0 := cell_of KH 0
              have k1 := cell_of KH 1
              have k2 := cell_of KH 2
              have k3 := cell_of KH 3
              have k4 := cell_of KH 4
              have k5 := cell_of KH 5
              have k6 := cell_of KH 6
              have k7 := cell_of KH 7
              have k8 := cell_of KH 8
              have k9 := cell_of KH 9
              have k10 := cell_of KH 10
              have k11 := cell_of KH 11
              simp only [List.getElem?_toArray, List.getElem?_cons_zero, List.getElem?_cons_succ] at k0 k1 k2 k3 k4 k5 k6 k7 k8 k9 k10 k11
              unfold set12 at k0 k1 k2 k3 k4 k5 k6 k7 k8 k9 k10 k11 X5
              refine bodyPost_ret (v := .tuple #[.agg #[.int .i64 0, .int .i64 0, .int .i64 0, .int .i64 0, .int .i64 0, .string ⟨#[]⟩, .slice none 0 0, .int .i64 0, .int .i64 0, .slice none 0 0, .slice none 0 0, .slice none 0 0], .int .i64 12]) (by simp [results, Try.results11, go_sem, k0, k1, k2, k3, k4, k5, k6, k7, k8, k9, k10, k11]) rfl ?_
              rw [HE2.out, hT, if_neg (by simp [hck])]
              exact ⟨_, rfl, msg0_mk _ _ _, B6.out.trans (below_of_ext_ne X5 (Nat.le_refl _) (by omega))⟩
            · have e1 : errOf true = 0 := rfl
              go_wp2_with fail
              have KH := set12_heap (.int .i64 m.kind) (.int .i64 m.view) (.int .i64 m.seq) (.int .i64 m.client) (.int .i64 m.stamp) (.string ⟨m.digest.toArray⟩) (.slice A1 m.data.length c1) (.int .i64 m.code) (.int .i64 m.stage) (.slice A2 m.batch.length c2) (.slice A3 m.pres.length c3) (.slice A4 m.certs.length c4) RES
              have X5 := set12_ext w6 w.heap.size (.int .i64 m.kind) (.int .i64 m.view) (.int .i64 m.seq) (.int .i64 m.client) (.int .i64 m.stamp) (.string ⟨m.digest.toArray⟩) (.slice A1 m.data.length c1) (.int .i64 m.code) (.int .i64 m.stage) (.slice A2 m.batch.length c2) (.slice A3 m.pres.length c3) (.slice A4 m.certs.length c4)
              have k0 := cell_of KH 0
              have k1 := cell_of KH 1
              have k2 := cell_of KH 2
              have k3 := cell_of KH 3
              have k4 := cell_of KH 4
              have k5 := cell_of KH 5
              have k6 := cell_of KH 6
              have k7 := cell_of KH 7
              have k8 := cell_of KH 8
              have k9 := cell_of KH 9
              have k10 := cell_of KH 10
              have k11 := cell_of KH 11
              simp only [List.getElem?_toArray, List.getElem?_cons_zero, List.getElem?_cons_succ] at k0 k1 k2 k3 k4 k5 k6 k7 k8 k9 k10 k11
              unfold set12 at k0 k1 k2 k3 k4 k5 k6 k7 k8 k9 k10 k11 X5
              refine bodyPost_ret (v := .tuple #[.agg #[.int .i64 m.kind, .int .i64 m.view, .int .i64 m.seq, .int .i64 m.client, .int .i64 m.stamp, .string ⟨m.digest.toArray⟩, .slice A1 m.data.length c1, .int .i64 m.code, .int .i64 m.stage, .slice A2 m.batch.length c2, .slice A3 m.pres.length c3, .slice A4 m.certs.length c4], .int .i64 0]) (by simp [results, Try.results11, go_sem, k0, k1, k2, k3, k4, k5, k6, k7, k8, k9, k10, k11]) rfl ?_
              rw [HE2.out, hT, if_pos (by simp [hRE, hck])]
              exact ⟨_, rfl, kMsg.weak (Kd.ext MS.out (X5.weak fun k _ hk => by have := hk.1; omega)) fun k hk => Nat.le_of_lt hk.1, B6.out.trans (below_of_ext_ne X5 (Nat.le_refl _) (by omega))⟩
          · have hze' : (er == 0) = false := by simpa using hze
            go_wp2_with fail
            have KH := set12_heap (.int .i64 0) (.int .i64 0) (.int .i64 0) (.int .i64 0) (.int .i64 0) (.string ⟨#[]⟩) (.slice none 0 0) (.int .i64 0) (.int .i64 0) (.slice none 0 0) (.slice none 0 0) (.slice none 0 0) RES
            have X5 := set12_ext w5 w.heap.size (.int .i64 0) (.int .i64 0) (.int .i64 0) (.int .i64 0) (.int .i64 0) (.string ⟨#[]⟩) (.slice none 0 0) (.int .i64 0) (.int .i64 0) (.slice none 0 0) (.slice none 0 0) (.slice none 0 0)
            have k0 := cell_of KH 0
            have k1 := cell_of KH 1
            have k2 := cell_of KH 2
            have k3 := cell_of KH 3
            have k4 := cell_of KH 4
            have k5 := cell_of KH 5
            have k6 := cell_of KH 6
            have k7 := cell_of KH 7
            have k8 := cell_of KH 8
            have k9 := cell_of KH 9
            have k10 := cell_of KH 10
            have k11 := cell_of KH 11
            simp only [List.getElem?_toArray, List.getElem?_cons_zero, List.getElem?_cons_succ] at k0 k1 k2 k3 k4 k5 k6 k7 k8 k9 k10 k11
            unfold set12 at k0 k1 k2 k3 k4 k5 k6 k7 k8 k9 k10 k11 X5
            refine bodyPost_ret (v := .tuple #[.agg #[.int .i64 0, .int .i64 0, .int .i64 0, .int .i64 0, .int .i64 0, .string ⟨#[]⟩, .slice none 0 0, .int .i64 0, .int .i64 0, .slice none 0 0, .slice none 0 0, .slice none 0 0], .int .i64 12]) (by simp [results, Try.results11, go_sem, k0, k1, k2, k3, k4, k5, k6, k7, k8, k9, k10, k11]) rfl ?_
            rw [HE2.out, hT, if_neg (by simp only [hRE]; intro hh; exact hze hh.1)]
            exact ⟨_, rfl, msg0_mk _ _ _, E5.out.bel.trans (below_of_ext_ne X5 (Nat.le_refl _) (by omega))⟩
        · rw [show fv 0 = 1 from rfl] at *
          have HD := Lib.hid (HD.out (by decide))
          have SH : Op.shift .shl .i64 1 .i64 1 = pure (Value.int .i64 2) := rfl
          cases hh : (Go.bits .and .i64 a 1 == 0)
          · have h1 : had a 1 = true := by unfold had; rw [hh]; rfl
            go_wp2_with fail
            refine (numr_c (ok := fun k => True ∧ k < w1.heap.size) g R D.out.rd).mono ?_
            rintro e w5 ⟨rfl, hr, hx⟩
            have E0 := D.out.call hr hx
            have X0 := Lib.hid (E0.put 1 (.int .i64 (rInt R).1) (msg_set1 E0.msg _))
            have t0 : w5.cell? ⟨w2.heap.size, 1, none⟩ = some (.int .i64 m.view) := E0.dl.at_ 1
            have f0 := E0.dl.free 1
            have hz0' := lt_of_heap E0.dl.msg
            clear hr hx E0
            go_wp2_with fail
            go_roundw
            case rel => exact ⟨1, by decide, rfl, _, by rw [HD.out, if_pos h1]; exact X0.out⟩
            case measure => decide
          · have h1 : had a 1 = false := by unfold had; rw [hh]; rfl
            go_wp2_with fail
            go_roundw
            case rel => exact ⟨1, by decide, rfl, _, by rw [HD.out, if_neg (by rw [h1]; decide)]; exact D.out⟩
            case measure => decide
        · rw [show fv 1 = 2 from rfl] at *
          have HD := Lib.hid (HD.out (by decide))
          have SH : Op.shift .shl .i64 2 .i64 1 = pure (Value.int .i64 4) := rfl
          cases hh : (Go.bits .and .i64 a 2 == 0)
          · have h1 : had a 2 = true := by unfold had; rw [hh]; rfl
            go_wp2_with fail
            refine (numr_c (ok := fun k => True ∧ k < w1.heap.size) g R D.out.rd).mono ?_
            rintro e w5 ⟨rfl, hr, hx⟩
            have E0 := D.out.call hr hx
            have X0 := Lib.hid (E0.put 2 (.int .i64 (rInt R).1) (msg_set2 E0.msg _))
            have t0 : w5.cell? ⟨w2.heap.size, 2, none⟩ = some (.int .i64 m.seq) := E0.dl.at_ 2
            have f0 := E0.dl.free 2
            have hz0' := lt_of_heap E0.dl.msg
            clear hr hx E0
            go_wp2_with fail
            go_roundw
            case rel => exact ⟨2, by decide, rfl, _, by rw [HD.out, if_pos h1]; exact X0.out⟩
            case measure => decide
          · have h1 : had a 2 = false := by unfold had; rw [hh]; rfl
            go_wp2_with fail
            go_roundw
            case rel => exact ⟨2, by decide, rfl, _, by rw [HD.out, if_neg (by rw [h1]; decide)]; exact D.out⟩
            case measure => decide
        · rw [show fv 2 = 4 from rfl] at *
          have HD := Lib.hid (HD.out (by decide))
          have SH : Op.shift .shl .i64 4 .i64 1 = pure (Value.int .i64 8) := rfl
          cases hh : (Go.bits .and .i64 a 4 == 0)
          · have h1 : had a 4 = true := by unfold had; rw [hh]; rfl
            go_wp2_with fail
            refine (numr_c (ok := fun k => True ∧ k < w1.heap.size) g R D.out.rd).mono ?_
            rintro e w5 ⟨rfl, hr, hx⟩
            have E0 := D.out.call hr hx
            have X0 := Lib.hid (E0.put 3 (.int .i64 (rInt R).1) (msg_set3 E0.msg _))
            have t0 : w5.cell? ⟨w2.heap.size, 3, none⟩ = some (.int .i64 m.client) := E0.dl.at_ 3
            have f0 := E0.dl.free 3
            have hz0' := lt_of_heap E0.dl.msg
            have p2 := E0.dl.own
            have p3 := X0.out.dl.own
            have hy := lt_of_heap E0.dl.src
            clear hr hx E0
            go_wp2_with fail
            refine (numr_c (ok := fun k => True ∧ k < w1.heap.size) g (rInt R).2 X0.out.rd).mono ?_
            rintro e w6 ⟨rfl, hr, hx⟩
            have E1 := X0.out.call hr hx
            have X1 := Lib.hid (E1.put 4 (.int .i64 (rInt (rInt R).2).1) (msg_set4 E1.msg _))
            have t1 : w6.cell? ⟨w2.heap.size, 4, none⟩ = some (.int .i64 m.stamp) := E1.dl.at_ 4
            have f1 := E1.dl.free 4
            have hz1' := lt_of_heap E1.dl.msg
            clear hr hx E1
            go_wp2_with fail
            go_roundw
            case rel => exact ⟨3, by decide, rfl, _, by rw [HD.out, if_pos h1]; exact X1.out⟩
            case measure => decide
          · have h1 : had a 4 = false := by unfold had; rw [hh]; rfl
            go_wp2_with fail
            go_roundw
            case rel => exact ⟨3, by decide, rfl, _, by rw [HD.out, if_neg (by rw [h1]; decide)]; exact D.out⟩
            case measure => decide
        · rw [show fv 3 = 8 from rfl] at *
          have HD := Lib.hid (HD.out (by decide))
          have SH : Op.shift .shl .i64 8 .i64 1 = pure (Value.int .i64 16) := rfl
          cases hh : (Go.bits .and .i64 a 8 == 0)
          · have h1 : had a 8 = true := by unfold had; rw [hh]; rfl
            go_wp2_with fail
            refine (bytes_c (ok := fun k => True ∧ k < w1.heap.size) g n R D.out.rd).mono ?_
            rintro e w5 ⟨v, rfl, ho, hr, hx⟩
            have E0 := D.out.call hr hx
            have hv := (own_any ho).sl D.out.fresh
            obtain ⟨Av, nv, cv, rfl, -⟩ := ho.form'
            have CV := conv_bs (P := Try.prog) hv 23 22 5 Try.underlying23 Try.underlying5 Try.underlying22
            have X0 := Lib.hid (E0.put 5 (.string ⟨(rBytes n R).1.toArray⟩) (msg_set5 E0.msg _))
            clear hv ho
            have t0 : w5.cell? ⟨w2.heap.size, 5, none⟩ = some (.string ⟨m.digest.toArray⟩) := E0.dl.at_ 5
            have f0 := E0.dl.free 5
            have hz0' := lt_of_heap E0.dl.msg
            clear hr hx E0
            go_wp2_with fail
            go_roundw
            case rel => exact ⟨4, by decide, rfl, _, by rw [HD.out, if_pos h1]; exact X0.out⟩
            case measure => decide
          · have h1 : had a 8 = false := by unfold had; rw [hh]; rfl
            go_wp2_with fail
            go_roundw
            case rel => exact ⟨4, by decide, rfl, _, by rw [HD.out, if_neg (by rw [h1]; decide)]; exact D.out⟩
            case measure => decide
        · rw [show fv 4 = 16 from rfl] at *
          have HD := Lib.hid (HD.out (by decide))
          have SH : Op.shift .shl .i64 16 .i64 1 = pure (Value.int .i64 32) := rfl
          cases hh : (Go.bits .and .i64 a 16 == 0)
          · have h1 : had a 16 = true := by unfold had; rw [hh]; rfl
            go_wp2_with fail
            refine (bytes_c (ok := fun k => True ∧ k < w1.heap.size) g n R D.out.rd).mono ?_
            rintro e w5 ⟨v, rfl, ho, hr, hx⟩
            have E0 := D.out.call hr hx
            have hv := (own_any ho).sl D.out.fresh
            obtain ⟨Av, nv, cv, rfl, -⟩ := ho.form'
            have X0 := Lib.hid (E0.put 6 (.slice Av nv cv) (msg_set6 E0.msg hv))
            clear hv ho
            have t0 : w5.cell? ⟨w2.heap.size, 6, none⟩ = some (.slice A1 m.data.length c1) := E0.dl.at_ 6
            have f0 := E0.dl.free 6
            have hz0' := lt_of_heap E0.dl.msg
            clear hr hx E0
            go_wp2_with fail
            go_roundw
            case rel => exact ⟨5, by decide, rfl, _, by rw [HD.out, if_pos h1]; exact X0.out⟩
            case measure => decide
          · have h1 : had a 16 = false := by unfold had; rw [hh]; rfl
            go_wp2_with fail
            go_roundw
            case rel => exact ⟨5, by decide, rfl, _, by rw [HD.out, if_neg (by rw [h1]; decide)]; exact D.out⟩
            case measure => decide
        · rw [show fv 5 = 32 from rfl] at *
          have HD := Lib.hid (HD.out (by decide))
          have SH : Op.shift .shl .i64 32 .i64 1 = pure (Value.int .i64 64) := rfl
          cases hh : (Go.bits .and .i64 a 32 == 0)
          · have h1 : had a 32 = true := by unfold had; rw [hh]; rfl
            go_wp2_with fail
            refine (numr_c (ok := fun k => True ∧ k < w1.heap.size) g R D.out.rd).mono ?_
            rintro e w5 ⟨rfl, hr, hx⟩
            have E0 := D.out.call hr hx
            have X0 := Lib.hid (E0.put 7 (.int .i64 (rInt R).1) (msg_set7 E0.msg _))
            have t0 : w5.cell? ⟨w2.heap.size, 7, none⟩ = some (.int .i64 m.code) := E0.dl.at_ 7
            have f0 := E0.dl.free 7
            have hz0' := lt_of_heap E0.dl.msg
            have p2 := E0.dl.own
            have p3 := X0.out.dl.own
            have hy := lt_of_heap E0.dl.src
            clear hr hx E0
            go_wp2_with fail
            refine (numr_c (ok := fun k => True ∧ k < w1.heap.size) g (rInt R).2 X0.out.rd).mono ?_
            rintro e w6 ⟨rfl, hr, hx⟩
            have E1 := X0.out.call hr hx
            have X1 := Lib.hid (E1.put 8 (.int .i64 (rInt (rInt R).2).1) (msg_set8 E1.msg _))
            have t1 : w6.cell? ⟨w2.heap.size, 8, none⟩ = some (.int .i64 m.stage) := E1.dl.at_ 8
            have f1 := E1.dl.free 8
            have hz1' := lt_of_heap E1.dl.msg
            clear hr hx E1
            go_wp2_with fail
            go_roundw
            case rel => exact ⟨6, by decide, rfl, _, by rw [HD.out, if_pos h1]; exact X1.out⟩
            case measure => decide
          · have h1 : had a 32 = false := by unfold had; rw [hh]; rfl
            go_wp2_with fail
            go_roundw
            case rel => exact ⟨6, by decide, rfl, _, by rw [HD.out, if_neg (by rw [h1]; decide)]; exact D.out⟩
            case measure => decide
        · rw [show fv 6 = 64 from rfl] at *
          have HD := Lib.hid (HD.out (by decide))
          have SH : Op.shift .shl .i64 64 .i64 1 = pure (Value.int .i64 128) := rfl
          cases hh : (Go.bits .and .i64 a 64 == 0)
          · have h1 : had a 64 = true := by unfold had; rw [hh]; rfl
            go_wp2_with fail
            refine (listr_c (ok := fun k => True ∧ k < w1.heap.size) g R D.out.rd).mono ?_
            rintro e w5 ⟨v, rfl, ho, hr, hx⟩
            have E0 := D.out.call hr hx
            have hv := (ho.sl (ok := fun k => wr.heap.size ≤ k) (fun _ h => h)).weak (ok' := fun k => w.heap.size < k ∧ k ≠ g ∧ k ≠ w2.heap.size) fun k hk => D.out.fresh k hk
            obtain ⟨Av, nv, cv, rfl, -⟩ := ho.form'
            have X0 := Lib.hid (E0.put 9 (.slice Av nv cv) (msg_set9 E0.msg hv))
            clear hv ho
            have t0 : w5.cell? ⟨w2.heap.size, 9, none⟩ = some (.slice A2 m.batch.length c2) := E0.dl.at_ 9
            have f0 := E0.dl.free 9
            have hz0' := lt_of_heap E0.dl.msg
            clear hr hx E0
            go_wp2_with fail
            go_roundw
            case rel => exact ⟨7, by decide, rfl, _, by rw [HD.out, if_pos h1]; exact X0.out⟩
            case measure => decide
          · have h1 : had a 64 = false := by unfold had; rw [hh]; rfl
            go_wp2_with fail
            go_roundw
            case rel => exact ⟨7, by decide, rfl, _, by rw [HD.out, if_neg (by rw [h1]; decide)]; exact D.out⟩
            case measure => decide
        · rw [show fv 7 = 128 from rfl] at *
          have HD := Lib.hid (HD.out (by decide))
          have SH : Op.shift .shl .i64 128 .i64 1 = pure (Value.int .i64 256) := rfl
          cases hh : (Go.bits .and .i64 a 128 == 0)
          · have h1 : had a 128 = true := by unfold had; rw [hh]; rfl
            go_wp2_with fail
            refine (listr_c (ok := fun k => True ∧ k < w1.heap.size) g R D.out.rd).mono ?_
            rintro e w5 ⟨v, rfl, ho, hr, hx⟩
            have E0 := D.out.call hr hx
            have hv := (ho.sl (ok := fun k => wr.heap.size ≤ k) (fun _ h => h)).weak (ok' := fun k => w.heap.size < k ∧ k ≠ g ∧ k ≠ w2.heap.size) fun k hk => D.out.fresh k hk
            obtain ⟨Av, nv, cv, rfl, -⟩ := ho.form'
            have X0 := Lib.hid (E0.put 10 (.slice Av nv cv) (msg_set10 E0.msg hv))
            clear hv ho
            have t0 : w5.cell? ⟨w2.heap.size, 10, none⟩ = some (.slice A3 m.pres.length c3) := E0.dl.at_ 10
            have f0 := E0.dl.free 10
            have hz0' := lt_of_heap E0.dl.msg
            clear hr hx E0
            go_wp2_with fail
            go_roundw
            case rel => exact ⟨8, by decide, rfl, _, by rw [HD.out, if_pos h1]; exact X0.out⟩
            case measure => decide
          · have h1 : had a 128 = false := by unfold had; rw [hh]; rfl
            go_wp2_with fail
            go_roundw
            case rel => exact ⟨8, by decide, rfl, _, by rw [HD.out, if_neg (by rw [h1]; decide)]; exact D.out⟩
            case measure => decide
        · rw [show fv 8 = 256 from rfl] at *
          have HD := Lib.hid (HD.out (by decide))
          have SH : Op.shift .shl .i64 256 .i64 1 = pure (Value.int .i64 512) := rfl
          cases hh : (Go.bits .and .i64 a 256 == 0)
          · have h1 : had a 256 = true := by unfold had; rw [hh]; rfl
            go_wp2_with fail
            refine (certr_c (ok := fun k => True ∧ k < w1.heap.size) g R D.out.rd).mono ?_
            rintro e w5 ⟨v, rfl, ho, hr, hx⟩
            have E0 := D.out.call hr hx
            have hv := (ho.sl (ok := fun k => wr.heap.size ≤ k) (fun _ h => h)).weak (ok' := fun k => w.heap.size < k ∧ k ≠ g ∧ k ≠ w2.heap.size) fun k hk => D.out.fresh k hk
            obtain ⟨Av, nv, cv, rfl, -⟩ := ho.form'
            have X0 := Lib.hid (E0.put 11 (.slice Av nv cv) (msg_set11 E0.msg hv))
            clear hv ho
            have t0 : w5.cell? ⟨w2.heap.size, 11, none⟩ = some (.slice A4 m.certs.length c4) := E0.dl.at_ 11
            have f0 := E0.dl.free 11
            have hz0' := lt_of_heap E0.dl.msg
            clear hr hx E0
            go_wp2_with fail
            go_roundw
            case rel => exact ⟨9, by decide, rfl, _, by rw [HD.out, if_pos h1]; exact X0.out⟩
            case measure => decide
          · have h1 : had a 256 = false := by unfold had; rw [hh]; rfl
            go_wp2_with fail
            go_roundw
            case rel => exact ⟨9, by decide, rfl, _, by rw [HD.out, if_neg (by rw [h1]; decide)]; exact D.out⟩
            case measure => decide
end
end Go.Proofs.Ytplpmhlakiikgaa
