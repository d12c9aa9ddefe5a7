/- Texts that go together. -/
import Derived.Test.YtijlamajcdekkaaMS
import Derived.Test.YtijlamajcdekkaaRG
import Derived.Test.YtijlamajcdekkaaV1
import Derived.Test.YtijlamajcdekkaaMC
import Derived.Test.YtijlamajcdekkaaV3
/- The references' values, read. -/
namespace Go.Proofs.Ytijlamajcdekkaa
open Go.RowKit
set_option linter.unusedVariables false
set_option linter.unusedSimpArgs false
section
variable {ok ok' : Nat → Prop} {g : Nat} {w w' : World} {rest : List UInt8} {err : Int}
theorem RdQ.e (h : RdQ ok g w rest err) : w.cell? ⟨g, 2, none⟩ = some (.int .i64 err) := by
  obtain ⟨A, n, c, l, p, h, e⟩ := h
  exact h.cells.2.2.1
theorem RdQ.al (o : Obj) (h : RdQ ok g w rest err) : RdQ ok g (w.alloc o) rest err := h.below ((Below.refl _ _).alloc (Nat.le_refl _) o)
theorem RdQ.bound (h : RdQ ok g w rest err) : RdQ (fun k => ok k ∧ k < w.heap.size) g w rest err := by
  obtain ⟨A, n, c, l, p, h, e⟩ := h
  exact ⟨A, n, c, l, p, ⟨h.loc, h.row.bound.weak fun k hk => ⟨⟨hk.1.1, hk.2⟩, hk.1.2⟩, h.at_, h.len⟩, e⟩
theorem RdQ.weak (h : RdQ ok g w rest err) (hk : ∀ k, ok k → ok' k) : RdQ ok' g w rest err := by
  obtain ⟨A, n, c, l, p, h, e⟩ := h
  exact ⟨A, n, c, l, p, ⟨h.loc, h.row.weak fun k h => ⟨hk k h.1, h.2⟩, h.at_, h.len⟩, e⟩
theorem RdQ.off {b : Nat} (h : RdQ ok g w rest err) (hx : Ext (fun k => k ≠ b) w w') (hb : (g ≠ b ∧ ∀ k, ok k → k ≠ b)) : RdQ ok g w' rest err := by
  obtain ⟨A, n, c, l, p, h, e⟩ := h
  exact ⟨A, n, c, l, p, ⟨loc_ext hx hb.1 h.loc, h.row.ext (hx.weak fun k _ hk => hb.2 k hk.1), h.at_, h.len⟩, e⟩
end
section
variable {ok : Nat → Prop} {w : World}
theorem rdq_new {A : Option Addr} {n c : Nat} {l : List UInt8} (h : Sl kU8 ok w (.slice A n c) l) (hn : n ≤ 1099511627776) : RdQ ok w.heap.size (w.alloc (.cells #[.slice A n c, .int .i64 0, .int .i64 0] 57)) l 0 :=
  ⟨A, n, c, l, 0, ⟨Loc1.new _ _ _, (h.apart (Nat.le_refl _)).below bW, Nat.zero_le _, hn⟩, rfl⟩
theorem nan4_c : Calls Try.prog 51 #[] w (Ret w (.float .f64 9221120237041090561)) := by
  have SF := store_f64
  have hL : Loc1 w.heap.size 5 #[.int .u8 127, .int .u8 248, .int .u8 0, .int .u8 0, .int .u8 0, .int .u8 0, .int .u8 0, .int .u8 1] (w.alloc (.cells #[.int .u8 127, .int .u8 248, .int .u8 0, .int .u8 0, .int .u8 0, .int .u8 0, .int .u8 0, .int .u8 1] 5)) := Loc1.new _ _ _
  have hs : Sl kU8 (fun _ => True) (w.alloc (.cells #[.int .u8 127, .int .u8 248, .int .u8 0, .int .u8 0, .int .u8 0, .int .u8 0, .int .u8 0, .int .u8 1] 5)) (.slice (some ⟨w.heap.size, 0, none⟩) 8 8) ([127, 248, 0, 0, 0, 0, 0, 1] : List UInt8) := sl_row hL trivial (Rps.scalar _) rfl (by unfold maxLen; omega)
  have hr := rdq_new hs (by omega)
  have hz : (w.alloc (.cells #[.int .u8 127, .int .u8 248, .int .u8 0, .int .u8 0, .int .u8 0, .int .u8 0, .int .u8 0, .int .u8 1] 5)).heap.size = w.heap.size + 1 := by simp
  rw [hz] at hr
  have HC := Lib.hid (qNum_c _ ([127, 248, 0, 0, 0, 0, 0, 1], 0) hr)
  have e : (rNum ([127, 248, 0, 0, 0, 0, 0, 1], 0)).1 = 9221120237041090561 := by decide +kernel
  rw [e] at HC
  clear hr hs hL hz e
  go_enter Try.func51, Try.ntmps51
  go_wp2_with fail
  refine HC.out.mono ?_
  rintro x9 w1 ⟨rfl, hr1, hx1⟩
  have hb : Below w.heap.size w w1 := Below.trans (by exact bW) (below_of_ext_ne hx1 (B := w.heap.size) (by omega) (by simp; omega))
  clear hr1 hx1 HC
  go_wp2_with fail
  go_ret
  exact ⟨rfl, hb⟩
/-- what the references' Get answers -/
def RetGq (ok : Nat → Prop) (g : Nat) (w : World) (p : (Val × Int) × RS) (e : Ending) (w' : World) : Prop :=
  e = .returned (.tuple #[.agg #[.int .i64 p.1.1.kind, .int .i64 p.1.1.int, .bool p.1.1.bool, .string ⟨p.1.1.text.toArray⟩, .float .f64 p.1.1.num], .int .i64 p.1.2]) ∧ RdQ ok g w' p.2.1 p.2.2 ∧ Ext (fun k => k ≠ g) w w'
theorem qNum4_c (n : Nat) (hn : nanB n = true → n = 9221120237041090561) : Calls Try.prog 34 #[.float .f64 n] w (Ret w (.agg #[.int .i64 4, .int .i64 0, .bool false, .string ⟨#[]⟩, .float .f64 n])) := by
  cases hb : nanB n
  · exact rNum_c n hb
  have SF := store_f64
  obtain rfl := hn hb
  have hn' : (FloatKind.f64.format.order 9221120237041090561 9221120237041090561 != some Ordering.eq) = true := hb
  have LB : Loc1 w.heap.size 25 #[.int .i64 0, .int .i64 0, .bool false, .string ⟨#[]⟩, .float .f64 0] (w.alloc (.cells #[.int .i64 0, .int .i64 0, .bool false, .string ⟨#[]⟩, .float .f64 0] 25)) := Loc1.new _ _ _
  have B0 : Below w.heap.size w (w.alloc (.cells #[.int .i64 0, .int .i64 0, .bool false, .string ⟨#[]⟩, .float .f64 0] 25)) := bW
  clear hn
  go_enter Try.func34, Try.ntmps34
  go_wp2_with fail
  refine nan4_c.mono ?_
  rintro x9 w1 ⟨rfl, hb1⟩
  have LB1 := LB.bel hb1
  have hb2 := Below.trans B0 (hb1.mono (by simp))
  clear hb1 LB B0
  obtain ⟨c0, c1, c2, c3, c4⟩ := cells5 LB1
  obtain ⟨y0, y1, y2, y3, y4⟩ := frees5 LB1
  have hz := lt_of_heap LB1
  have KH := set5_heap (.int .i64 4) (.int .i64 0) (.bool false) (.string ⟨#[]⟩) (.float .f64 9221120237041090561) LB1
  have X5 := below_of_ext_ne (set5_ext w1 w.heap.size (.int .i64 4) (.int .i64 0) (.bool false) (.string ⟨#[]⟩) (.float .f64 9221120237041090561)) (Nat.le_refl _) hb2.size
  have HX := Lib.hid (hb2.trans X5)
  obtain ⟨q0, q1, q2, q3, q4⟩ := cells5 KH
  unfold set5 at q0 q1 q2 q3 q4 HX
  clear KH X5 LB1 hb2
  go_wp2_with fail
  all_goals exact bodyPost_ret (v := .agg #[.int .i64 4, .int .i64 0, .bool false, .string ⟨#[]⟩, .float .f64 9221120237041090561]) (by simp [results, Try.results34, go_sem, q0, q1, q2, q3, q4]) rfl ⟨rfl, HX.out⟩
theorem rNum_nan (s : RS) (h : nanB (rNum s).1 = true) : (rNum s).1 = 9221120237041090561 := by
  unfold rNum at h ⊢
  have h0 : nanB 0 = false := by decide +kernel
  split at h
  · simp [h0] at h
  · split at h
    · simp [h0] at h
    · split at h
      · simp [h0] at h
      · rename_i h1 h2 h3
        rw [if_neg h1, if_neg h2, if_neg h3]
        simp only at h ⊢
        refine Classical.byContradiction fun hn => h3 ?_
        unfold floatE
        rw [if_pos ⟨h, hn⟩]
set_option maxRecDepth 20000 in
set_option maxHeartbeats 8000000 in
theorem qget_c (g : Nat) (s : RS) (h : RdQ ok g w s.1 s.2) : Calls Try.prog 92 #[.pointer (some ⟨g, 0, none⟩)] w (RetGq ok g w (gVal s)) := by
  have SF := store_f64
  have hgw := h.lt
  have hB := h.bound
  have LB : Loc1 w.heap.size 25 #[.int .i64 0, .int .i64 0, .bool false, .string ⟨#[]⟩, .float .f64 0] (w.alloc (.cells #[.int .i64 0, .int .i64 0, .bool false, .string ⟨#[]⟩, .float .f64 0] 25)) := Loc1.new _ _ _
  have hw0 : (w.alloc (.cells #[.int .i64 0, .int .i64 0, .bool false, .string ⟨#[]⟩, .float .f64 0] 25)).heap.size = w.heap.size + 1 := by simp
  have hI := Lib.hid (qInt_c g s (hB.al (.cells #[.int .i64 0, .int .i64 0, .bool false, .string ⟨#[]⟩, .float .f64 0] 25)))
  have EG := Lib.hid (show gVal s = if (rInt s).2.2 ≠ 0 then ((zeroV, (rInt s).2.2), (rInt s).2) else if (rInt s).1 < 1 ∨ 4 < (rInt s).1 then ((zeroV, 12), (rInt s).2) else if (gPart (rInt s).1 (rInt s).2).2.2 ≠ 0 then ((zeroV, (gPart (rInt s).1 (rInt s).2).2.2), (gPart (rInt s).1 (rInt s).2).2) else (((gPart (rInt s).1 (rInt s).2).1, 0), (gPart (rInt s).1 (rInt s).2).2) from rfl)
  generalize gVal s = r at *
  generalize rInt s = p at *
  obtain ⟨k, s1⟩ := p
  replace EG := Lib.hid (show r = if s1.2 ≠ 0 then ((zeroV, s1.2), s1) else if k < 1 ∨ 4 < k then ((zeroV, 12), s1) else if (gPart k s1).2.2 ≠ 0 then ((zeroV, (gPart k s1).2.2), (gPart k s1).2) else (((gPart k s1).1, 0), (gPart k s1).2) from EG.out)
  replace hI := Lib.hid (show Calls Try.prog 65 #[.pointer (some ⟨g, 0, none⟩)] _ (Rq (fun k => ok k ∧ k < w.heap.size) g _ (.int .i64 k) s1) from hI.out)
  clear h hB
  go_enter Try.func92, Try.ntmps92
  go_upto_region 1 with (fail)
  have hx0 := ext_al g w (.cells #[.int .i64 0, .int .i64 0, .bool false, .string ⟨#[]⟩, .float .f64 0] 25)
  generalize (w.alloc (.cells #[.int .i64 0, .int .i64 0, .bool false, .string ⟨#[]⟩, .float .f64 0] 25)) = w0 at *
  go_wp2_with fail
  refine hI.out.mono ?_
  rintro x9 w1 ⟨rfl, hr1, hx1⟩
  have hs1 := hx1.size
  have LB1 := loc_ext hx1 (by omega) LB
  clear hI LB
  go_upto_region 3 with (fail)
  have LV2 : Loc1 w1.heap.size 25 #[.int .i64 0, .int .i64 0, .bool false, .string ⟨#[]⟩, .float .f64 0] (w1.alloc (.cells #[.int .i64 0, .int .i64 0, .bool false, .string ⟨#[]⟩, .float .f64 0] 25)) := Loc1.new _ _ _
  have LB2 := LB1.al (.cells #[.int .i64 0, .int .i64 0, .bool false, .string ⟨#[]⟩, .float .f64 0] 25)
  have hr2 := hr1.al (.cells #[.int .i64 0, .int .i64 0, .bool false, .string ⟨#[]⟩, .float .f64 0] 25)
  have hx2 := hx0.trans (hx1.trans (ext_al g w1 (.cells #[.int .i64 0, .int .i64 0, .bool false, .string ⟨#[]⟩, .float .f64 0] 25)))
  have hs2 : w1.heap.size < (w1.alloc (.cells #[.int .i64 0, .int .i64 0, .bool false, .string ⟨#[]⟩, .float .f64 0] 25)).heap.size := by simp
  generalize (w1.alloc (.cells #[.int .i64 0, .int .i64 0, .bool false, .string ⟨#[]⟩, .float .f64 0] 25)) = w2 at *
  have hE2 := hr2.e
  have hg2 := hr1.lt
  clear LB1 hr1 hx0 hx1
  obtain ⟨m0, m1, m2, m3, m4⟩ := cells5 LV2
  obtain ⟨x0, x1, x2, x3, x4⟩ := cells5 LB2
  obtain ⟨y0, y1, y2, y3, y4⟩ := frees5 LB2
  have hz := lt_of_heap LB2
  by_cases he1 : s1.2 = 0
  rotate_left
  · have he1' : (s1.2 != 0) = true := by simpa using he1
    have E1 := Lib.hid (show r = ((zeroV, s1.2), s1) by rw [EG.out, if_pos he1])
    go_wp2_with fail
    go_region
    all_goals
      go_wp21
      have KH := set5_heap (.int .i64 0) (.int .i64 0) (.bool false) (.string ⟨#[]⟩) (.float .f64 0) LB2
      have X5 := set5_ext w2 w.heap.size (.int .i64 0) (.int .i64 0) (.bool false) (.string ⟨#[]⟩) (.float .f64 0)
      have R5 : RdQ (fun k => ok k ∧ k < w.heap.size) g (set5 w2 w.heap.size (.int .i64 0) (.int .i64 0) (.bool false) (.string ⟨#[]⟩) (.float .f64 0)) _ _ := RdQ.off hr2 X5 ⟨by omega, fun k hk => by have := hk.2; omega⟩
      have Y5 : Ext (fun k => k ≠ g) w (set5 w2 w.heap.size (.int .i64 0) (.int .i64 0) (.bool false) (.string ⟨#[]⟩) (.float .f64 0)) := ext_off hx2 X5 (Nat.le_refl _)
      obtain ⟨q0, q1, q2, q3, q4⟩ := cells5 KH
      unfold set5 at q0 q1 q2 q3 q4 R5 Y5
      rw [E1.out]
      exact bodyPost_ret (v := .tuple #[.agg #[.int .i64 0, .int .i64 0, .bool false, .string ⟨#[]⟩, .float .f64 0], .int .i64 s1.2]) (by simp [results, Try.results92, go_sem, q0, q1, q2, q3, q4]) rfl ⟨rfl, (R5.weak fun k hk => hk.1).below (Below.refl _ _).drew, Y5.trans (ext_drew _ _)⟩
  have he1' : (s1.2 != 0) = false := by simpa using he1
  replace EG := Lib.hid (show r = if k < 1 ∨ 4 < k then ((zeroV, 12), s1) else if (gPart k s1).2.2 ≠ 0 then ((zeroV, (gPart k s1).2.2), (gPart k s1).2) else (((gPart k s1).1, 0), (gPart k s1).2) by rw [EG.out, if_neg (by simpa using he1)])
  by_cases hk : k = 1 ∨ k = 2 ∨ k = 3 ∨ k = 4
  rotate_left
  · have E1 := Lib.hid (show r = ((zeroV, 12), s1) by rw [EG.out, if_pos (by omega)])
    have k1 : (k == 1) = false := by simp; omega
    have k2 : (k == 2) = false := by simp; omega
    have k3 : (k == 3) = false := by simp; omega
    have k4 : (k == 4) = false := by simp; omega
    go_wp2_with fail
    all_goals
      have KH := set5_heap (.int .i64 0) (.int .i64 0) (.bool false) (.string ⟨#[]⟩) (.float .f64 0) LB2
      have X5 := set5_ext w2 w.heap.size (.int .i64 0) (.int .i64 0) (.bool false) (.string ⟨#[]⟩) (.float .f64 0)
      have R5 : RdQ (fun k => ok k ∧ k < w.heap.size) g (set5 w2 w.heap.size (.int .i64 0) (.int .i64 0) (.bool false) (.string ⟨#[]⟩) (.float .f64 0)) _ _ := RdQ.off hr2 X5 ⟨by omega, fun k hk => by have := hk.2; omega⟩
      have Y5 : Ext (fun k => k ≠ g) w (set5 w2 w.heap.size (.int .i64 0) (.int .i64 0) (.bool false) (.string ⟨#[]⟩) (.float .f64 0)) := ext_off hx2 X5 (Nat.le_refl _)
      obtain ⟨q0, q1, q2, q3, q4⟩ := cells5 KH
      unfold set5 at q0 q1 q2 q3 q4 R5 Y5
      rw [E1.out]
      exact bodyPost_ret (v := .tuple #[.agg #[.int .i64 0, .int .i64 0, .bool false, .string ⟨#[]⟩, .float .f64 0], .int .i64 12]) (by simp [results, Try.results92, go_sem, q0, q1, q2, q3, q4]) rfl ⟨rfl, R5.weak fun k hk => hk.1, Y5⟩
  have E1 := Lib.hid (fun (h : (gPart k s1).2.2 ≠ 0) => show r = ((zeroV, (gPart k s1).2.2), (gPart k s1).2) by rw [EG.out, if_neg (by omega), if_pos h])
  have E2 := Lib.hid (fun (h : (gPart k s1).2.2 = 0) => show r = (((gPart k s1).1, 0), (gPart k s1).2) by rw [EG.out, if_neg (by omega), if_neg (by simpa using h)])
  clear EG he1
  rcases hk with rfl | rfl | rfl | rfl
  · skip
    have hC := Lib.hid (qInt_c g s1 hr2)
    replace E1 := Lib.hid (show (rInt s1).2.2 ≠ 0 → r = ((zeroV, (rInt s1).2.2), (rInt s1).2) from E1.out)
    replace E2 := Lib.hid (show (rInt s1).2.2 = 0 → r = (((⟨1, (rInt s1).1, false, [], 0⟩ : Val), 0), (rInt s1).2) from E2.out)
    generalize rInt s1 = r3 at *
    go_wp2_with fail
    refine hC.out.mono ?_
    rintro x9 w3 ⟨rfl, hr3, hx3⟩
    have LB3 := loc_ext hx3 (by omega) LB2
    have LV3 := loc_ext hx3 (by omega) LV2
    have hx3 := hx2.trans hx3
    have hs3 := hx3.size
    clear m0 m1 m2 m3 m4 x0 x1 x2 x3 x4 y0 y1 y2 y3 y4 hz hE2
    go_wp2_with fail
    refine (rInt_c r3.1).mono ?_
    rintro x9 w4 ⟨rfl, hb4⟩
    have LB4 := LB3.bel hb4
    have LV4 := LV3.bel hb4
    have hr4 := hr3.below hb4
    have hx4 := hx3.trans (Below.ext hb4 _)
    have hs4 := hb4.size
    have hz := lt_of_heap LV4
    have hzg := hr4.lt
    obtain ⟨u0, u1, u2, u3, u4⟩ := frees5 LV4
    obtain ⟨t0, t1, t2, t3, t4⟩ := cells5 LV4
    go_upto_region 15 with (fail)
    have LV5 := set5_heap (.int .i64 1) (.int .i64 r3.1) (.bool false) (.string ⟨#[]⟩) (.float .f64 0) LV4
    have Z5 := set5_ext w4 w1.heap.size (.int .i64 1) (.int .i64 r3.1) (.bool false) (.string ⟨#[]⟩) (.float .f64 0)
    have LB5 := loc_ext (g := w1.heap.size) Z5 (by omega) LB4
    have hr5 := RdQ.off hr4 Z5 ⟨by omega, fun k hk => by have := hk.2; omega⟩
    have hx5 : Ext (fun k => k ≠ g) w _ := ext_off hx4 Z5 (by omega)
    clear LB2 LV2 LB3 LV3 LB4 LV4 hx2 hx3 hr3 hr2 hx4 hr4 hb4 u0 u1 u2 u3 u4 t0 t1 t2 t3 t4 hz hzg Z5
    unfold set5 at LV5 LB5 hr5 hx5
    generalize (((((w4.setCell ⟨w1.heap.size, 0, none⟩ (.int .i64 1)).setCell ⟨w1.heap.size, 1, none⟩ (.int .i64 r3.1)).setCell ⟨w1.heap.size, 2, none⟩ (.bool false)).setCell ⟨w1.heap.size, 3, none⟩ (.string ⟨#[]⟩)).setCell ⟨w1.heap.size, 4, none⟩ (.float .f64 0)) = w5 at *
    have hE5 := hr5.e
    obtain ⟨m0, m1, m2, m3, m4⟩ := cells5 LV5
    obtain ⟨x0, x1, x2, x3, x4⟩ := cells5 LB5
    obtain ⟨y0, y1, y2, y3, y4⟩ := frees5 LB5
    have hz := lt_of_heap LB5
    have hzv := lt_of_heap LV5
    by_cases he3 : r3.2.2 = 0
    · have he3' : (r3.2.2 != 0) = false := by simpa using he3
      have E3 := Lib.hid (E2.out he3)
      go_wp2_with fail
      have KH := set5_heap (.int .i64 1) (.int .i64 r3.1) (.bool false) (.string ⟨#[]⟩) (.float .f64 0) LB5
      have X5 := set5_ext w5 w.heap.size (.int .i64 1) (.int .i64 r3.1) (.bool false) (.string ⟨#[]⟩) (.float .f64 0)
      have R5 : RdQ (fun k => ok k ∧ k < w.heap.size) g (set5 w5 w.heap.size (.int .i64 1) (.int .i64 r3.1) (.bool false) (.string ⟨#[]⟩) (.float .f64 0)) _ _ := RdQ.off hr5 X5 ⟨by omega, fun k hk => by have := hk.2; omega⟩
      have Y5 : Ext (fun k => k ≠ g) w (set5 w5 w.heap.size (.int .i64 1) (.int .i64 r3.1) (.bool false) (.string ⟨#[]⟩) (.float .f64 0)) := ext_off hx5 X5 (Nat.le_refl _)
      obtain ⟨q0, q1, q2, q3, q4⟩ := cells5 KH
      unfold set5 at q0 q1 q2 q3 q4 R5 Y5
      rw [E3.out]
      exact bodyPost_ret (v := .tuple #[.agg #[.int .i64 1, .int .i64 r3.1, .bool false, .string ⟨#[]⟩, .float .f64 0], .int .i64 0]) (by simp [results, Try.results92, go_sem, q0, q1, q2, q3, q4]) rfl ⟨rfl, R5.weak fun k hk => hk.1, Y5⟩
    · have he3' : (r3.2.2 != 0) = true := by simpa using he3
      have E3 := Lib.hid (E1.out he3)
      go_wp2_with fail
      go_region
      all_goals
        go_wp21
        have KH := set5_heap (.int .i64 0) (.int .i64 0) (.bool false) (.string ⟨#[]⟩) (.float .f64 0) LB5
        have X5 := set5_ext w5 w.heap.size (.int .i64 0) (.int .i64 0) (.bool false) (.string ⟨#[]⟩) (.float .f64 0)
        have R5 : RdQ (fun k => ok k ∧ k < w.heap.size) g (set5 w5 w.heap.size (.int .i64 0) (.int .i64 0) (.bool false) (.string ⟨#[]⟩) (.float .f64 0)) _ _ := RdQ.off hr5 X5 ⟨by omega, fun k hk => by have := hk.2; omega⟩
        have Y5 : Ext (fun k => k ≠ g) w (set5 w5 w.heap.size (.int .i64 0) (.int .i64 0) (.bool false) (.string ⟨#[]⟩) (.float .f64 0)) := ext_off hx5 X5 (Nat.le_refl _)
        obtain ⟨q0, q1, q2, q3, q4⟩ := cells5 KH
        unfold set5 at q0 q1 q2 q3 q4 R5 Y5
        rw [E3.out]
        exact bodyPost_ret (v := .tuple #[.agg #[.int .i64 0, .int .i64 0, .bool false, .string ⟨#[]⟩, .float .f64 0], .int .i64 r3.2.2]) (by simp [results, Try.results92, go_sem, q0, q1, q2, q3, q4]) rfl ⟨rfl, (R5.weak fun k hk => hk.1).below (Below.refl _ _).drew, Y5.trans (ext_drew _ _)⟩
  · skip
    have hC := Lib.hid (qBool_c g s1 hr2)
    replace E1 := Lib.hid (show (rBool s1).2.2 ≠ 0 → r = ((zeroV, (rBool s1).2.2), (rBool s1).2) from E1.out)
    replace E2 := Lib.hid (show (rBool s1).2.2 = 0 → r = (((⟨2, 0, (rBool s1).1, [], 0⟩ : Val), 0), (rBool s1).2) from E2.out)
    generalize rBool s1 = r3 at *
    go_wp2_with fail
    refine hC.out.mono ?_
    rintro x9 w3 ⟨rfl, hr3, hx3⟩
    have LB3 := loc_ext hx3 (by omega) LB2
    have LV3 := loc_ext hx3 (by omega) LV2
    have hx3 := hx2.trans hx3
    have hs3 := hx3.size
    clear m0 m1 m2 m3 m4 x0 x1 x2 x3 x4 y0 y1 y2 y3 y4 hz hE2
    go_wp2_with fail
    refine (rTruth_c r3.1).mono ?_
    rintro x9 w4 ⟨rfl, hb4⟩
    have LB4 := LB3.bel hb4
    have LV4 := LV3.bel hb4
    have hr4 := hr3.below hb4
    have hx4 := hx3.trans (Below.ext hb4 _)
    have hs4 := hb4.size
    have hz := lt_of_heap LV4
    have hzg := hr4.lt
    obtain ⟨u0, u1, u2, u3, u4⟩ := frees5 LV4
    obtain ⟨t0, t1, t2, t3, t4⟩ := cells5 LV4
    go_upto_region 15 with (fail)
    have LV5 := set5_heap (.int .i64 2) (.int .i64 0) (.bool r3.1) (.string ⟨#[]⟩) (.float .f64 0) LV4
    have Z5 := set5_ext w4 w1.heap.size (.int .i64 2) (.int .i64 0) (.bool r3.1) (.string ⟨#[]⟩) (.float .f64 0)
    have LB5 := loc_ext (g := w1.heap.size) Z5 (by omega) LB4
    have hr5 := RdQ.off hr4 Z5 ⟨by omega, fun k hk => by have := hk.2; omega⟩
    have hx5 : Ext (fun k => k ≠ g) w _ := ext_off hx4 Z5 (by omega)
    clear LB2 LV2 LB3 LV3 LB4 LV4 hx2 hx3 hr3 hr2 hx4 hr4 hb4 u0 u1 u2 u3 u4 t0 t1 t2 t3 t4 hz hzg Z5
    unfold set5 at LV5 LB5 hr5 hx5
    generalize (((((w4.setCell ⟨w1.heap.size, 0, none⟩ (.int .i64 2)).setCell ⟨w1.heap.size, 1, none⟩ (.int .i64 0)).setCell ⟨w1.heap.size, 2, none⟩ (.bool r3.1)).setCell ⟨w1.heap.size, 3, none⟩ (.string ⟨#[]⟩)).setCell ⟨w1.heap.size, 4, none⟩ (.float .f64 0)) = w5 at *
    have hE5 := hr5.e
    obtain ⟨m0, m1, m2, m3, m4⟩ := cells5 LV5
    obtain ⟨x0, x1, x2, x3, x4⟩ := cells5 LB5
    obtain ⟨y0, y1, y2, y3, y4⟩ := frees5 LB5
    have hz := lt_of_heap LB5
    have hzv := lt_of_heap LV5
    by_cases he3 : r3.2.2 = 0
    · have he3' : (r3.2.2 != 0) = false := by simpa using he3
      have E3 := Lib.hid (E2.out he3)
      go_wp2_with fail
      have KH := set5_heap (.int .i64 2) (.int .i64 0) (.bool r3.1) (.string ⟨#[]⟩) (.float .f64 0) LB5
      have X5 := set5_ext w5 w.heap.size (.int .i64 2) (.int .i64 0) (.bool r3.1) (.string ⟨#[]⟩) (.float .f64 0)
      have R5 : RdQ (fun k => ok k ∧ k < w.heap.size) g (set5 w5 w.heap.size (.int .i64 2) (.int .i64 0) (.bool r3.1) (.string ⟨#[]⟩) (.float .f64 0)) _ _ := RdQ.off hr5 X5 ⟨by omega, fun k hk => by have := hk.2; omega⟩
      have Y5 : Ext (fun k => k ≠ g) w (set5 w5 w.heap.size (.int .i64 2) (.int .i64 0) (.bool r3.1) (.string ⟨#[]⟩) (.float .f64 0)) := ext_off hx5 X5 (Nat.le_refl _)
      obtain ⟨q0, q1, q2, q3, q4⟩ := cells5 KH
      unfold set5 at q0 q1 q2 q3 q4 R5 Y5
      rw [E3.out]
      exact bodyPost_ret (v := .tuple #[.agg #[.int .i64 2, .int .i64 0, .bool r3.1, .string ⟨#[]⟩, .float .f64 0], .int .i64 0]) (by simp [results, Try.results92, go_sem, q0, q1, q2, q3, q4]) rfl ⟨rfl, R5.weak fun k hk => hk.1, Y5⟩
    · have he3' : (r3.2.2 != 0) = true := by simpa using he3
      have E3 := Lib.hid (E1.out he3)
      go_wp2_with fail
      go_region
      all_goals
        go_wp21
        have KH := set5_heap (.int .i64 0) (.int .i64 0) (.bool false) (.string ⟨#[]⟩) (.float .f64 0) LB5
        have X5 := set5_ext w5 w.heap.size (.int .i64 0) (.int .i64 0) (.bool false) (.string ⟨#[]⟩) (.float .f64 0)
        have R5 : RdQ (fun k => ok k ∧ k < w.heap.size) g (set5 w5 w.heap.size (.int .i64 0) (.int .i64 0) (.bool false) (.string ⟨#[]⟩) (.float .f64 0)) _ _ := RdQ.off hr5 X5 ⟨by omega, fun k hk => by have := hk.2; omega⟩
        have Y5 : Ext (fun k => k ≠ g) w (set5 w5 w.heap.size (.int .i64 0) (.int .i64 0) (.bool false) (.string ⟨#[]⟩) (.float .f64 0)) := ext_off hx5 X5 (Nat.le_refl _)
        obtain ⟨q0, q1, q2, q3, q4⟩ := cells5 KH
        unfold set5 at q0 q1 q2 q3 q4 R5 Y5
        rw [E3.out]
        exact bodyPost_ret (v := .tuple #[.agg #[.int .i64 0, .int .i64 0, .bool false, .string ⟨#[]⟩, .float .f64 0], .int .i64 r3.2.2]) (by simp [results, Try.results92, go_sem, q0, q1, q2, q3, q4]) rfl ⟨rfl, (R5.weak fun k hk => hk.1).below (Below.refl _ _).drew, Y5.trans (ext_drew _ _)⟩
  · skip
    have hC := Lib.hid (qBytes_c g 32 s1 hr2)
    replace E1 := Lib.hid (show (rBytes 32 s1).2.2 ≠ 0 → r = ((zeroV, (rBytes 32 s1).2.2), (rBytes 32 s1).2) from E1.out)
    replace E2 := Lib.hid (show (rBytes 32 s1).2.2 = 0 → r = (((⟨3, 0, false, (rBytes 32 s1).1, 0⟩ : Val), 0), (rBytes 32 s1).2) from E2.out)
    generalize rBytes 32 s1 = r3 at *
    go_wp2_with fail
    refine hC.out.mono ?_
    rintro x9 w4 ⟨v, rfl, ho3, hr3, hx3⟩
    obtain ⟨A3, n3, c3, rfl, -⟩ := ho3.form'
    have hcv := conv_vs (P := Try.prog) ((own_u8 (ok' := fun _ => True) ho3).sl (ok := fun _ => True) fun _ _ => trivial) 52 9 5 Try.underlying52 Try.underlying5 Try.underlying9
    have LB3 := loc_ext hx3 (by omega) LB2
    have LV3 := loc_ext hx3 (by omega) LV2
    have hx3 := hx2.trans hx3
    have hs3 := hx3.size
    clear m0 m1 m2 m3 m4 x0 x1 x2 x3 x4 y0 y1 y2 y3 y4 hz hE2 ho3
    have hb4 : Below w4.heap.size w4 w4 := Below.refl _ _
    have LB4 := LB3.bel hb4
    have LV4 := LV3.bel hb4
    have hr4 := hr3.below hb4
    have hx4 := hx3.trans (Below.ext hb4 _)
    have hs4 := hb4.size
    have hz := lt_of_heap LV4
    have hzg := hr4.lt
    obtain ⟨u0, u1, u2, u3, u4⟩ := frees5 LV4
    obtain ⟨t0, t1, t2, t3, t4⟩ := cells5 LV4
    go_upto_region 15 with (fail)
    have LV5 := set5_heap (.int .i64 3) (.int .i64 0) (.bool false) (.string ⟨r3.1.toArray⟩) (.float .f64 0) LV4
    have Z5 := set5_ext w4 w1.heap.size (.int .i64 3) (.int .i64 0) (.bool false) (.string ⟨r3.1.toArray⟩) (.float .f64 0)
    have LB5 := loc_ext (g := w1.heap.size) Z5 (by omega) LB4
    have hr5 := RdQ.off hr4 Z5 ⟨by omega, fun k hk => by have := hk.2; omega⟩
    have hx5 : Ext (fun k => k ≠ g) w _ := ext_off hx4 Z5 (by omega)
    clear LB2 LV2 LB3 LV3 LB4 LV4 hx2 hx3 hr3 hr2 hx4 hr4 hb4 u0 u1 u2 u3 u4 t0 t1 t2 t3 t4 hz hzg Z5
    unfold set5 at LV5 LB5 hr5 hx5
    generalize (((((w4.setCell ⟨w1.heap.size, 0, none⟩ (.int .i64 3)).setCell ⟨w1.heap.size, 1, none⟩ (.int .i64 0)).setCell ⟨w1.heap.size, 2, none⟩ (.bool false)).setCell ⟨w1.heap.size, 3, none⟩ (.string ⟨r3.1.toArray⟩)).setCell ⟨w1.heap.size, 4, none⟩ (.float .f64 0)) = w5 at *
    have hE5 := hr5.e
    obtain ⟨m0, m1, m2, m3, m4⟩ := cells5 LV5
    obtain ⟨x0, x1, x2, x3, x4⟩ := cells5 LB5
    obtain ⟨y0, y1, y2, y3, y4⟩ := frees5 LB5
    have hz := lt_of_heap LB5
    have hzv := lt_of_heap LV5
    by_cases he3 : r3.2.2 = 0
    · have he3' : (r3.2.2 != 0) = false := by simpa using he3
      have E3 := Lib.hid (E2.out he3)
      go_wp2_with fail
      have KH := set5_heap (.int .i64 3) (.int .i64 0) (.bool false) (.string ⟨r3.1.toArray⟩) (.float .f64 0) LB5
      have X5 := set5_ext w5 w.heap.size (.int .i64 3) (.int .i64 0) (.bool false) (.string ⟨r3.1.toArray⟩) (.float .f64 0)
      have R5 : RdQ (fun k => ok k ∧ k < w.heap.size) g (set5 w5 w.heap.size (.int .i64 3) (.int .i64 0) (.bool false) (.string ⟨r3.1.toArray⟩) (.float .f64 0)) _ _ := RdQ.off hr5 X5 ⟨by omega, fun k hk => by have := hk.2; omega⟩
      have Y5 : Ext (fun k => k ≠ g) w (set5 w5 w.heap.size (.int .i64 3) (.int .i64 0) (.bool false) (.string ⟨r3.1.toArray⟩) (.float .f64 0)) := ext_off hx5 X5 (Nat.le_refl _)
      obtain ⟨q0, q1, q2, q3, q4⟩ := cells5 KH
      unfold set5 at q0 q1 q2 q3 q4 R5 Y5
      rw [E3.out]
      exact bodyPost_ret (v := .tuple #[.agg #[.int .i64 3, .int .i64 0, .bool false, .string ⟨r3.1.toArray⟩, .float .f64 0], .int .i64 0]) (by simp [results, Try.results92, go_sem, q0, q1, q2, q3, q4]) rfl ⟨rfl, R5.weak fun k hk => hk.1, Y5⟩
    · have he3' : (r3.2.2 != 0) = true := by simpa using he3
      have E3 := Lib.hid (E1.out he3)
      go_wp2_with fail
      go_region
      all_goals
        go_wp21
        have KH := set5_heap (.int .i64 0) (.int .i64 0) (.bool false) (.string ⟨#[]⟩) (.float .f64 0) LB5
        have X5 := set5_ext w5 w.heap.size (.int .i64 0) (.int .i64 0) (.bool false) (.string ⟨#[]⟩) (.float .f64 0)
        have R5 : RdQ (fun k => ok k ∧ k < w.heap.size) g (set5 w5 w.heap.size (.int .i64 0) (.int .i64 0) (.bool false) (.string ⟨#[]⟩) (.float .f64 0)) _ _ := RdQ.off hr5 X5 ⟨by omega, fun k hk => by have := hk.2; omega⟩
        have Y5 : Ext (fun k => k ≠ g) w (set5 w5 w.heap.size (.int .i64 0) (.int .i64 0) (.bool false) (.string ⟨#[]⟩) (.float .f64 0)) := ext_off hx5 X5 (Nat.le_refl _)
        obtain ⟨q0, q1, q2, q3, q4⟩ := cells5 KH
        unfold set5 at q0 q1 q2 q3 q4 R5 Y5
        rw [E3.out]
        exact bodyPost_ret (v := .tuple #[.agg #[.int .i64 0, .int .i64 0, .bool false, .string ⟨#[]⟩, .float .f64 0], .int .i64 r3.2.2]) (by simp [results, Try.results92, go_sem, q0, q1, q2, q3, q4]) rfl ⟨rfl, (R5.weak fun k hk => hk.1).below (Below.refl _ _).drew, Y5.trans (ext_drew _ _)⟩
  · have hnn := rNum_nan s1
    have hC := Lib.hid (qNum_c g s1 hr2)
    replace E1 := Lib.hid (show (rNum s1).2.2 ≠ 0 → r = ((zeroV, (rNum s1).2.2), (rNum s1).2) from E1.out)
    replace E2 := Lib.hid (show (rNum s1).2.2 = 0 → r = (((⟨4, 0, false, [], (rNum s1).1⟩ : Val), 0), (rNum s1).2) from E2.out)
    generalize rNum s1 = r3 at *
    go_wp2_with fail
    refine hC.out.mono ?_
    rintro x9 w3 ⟨rfl, hr3, hx3⟩
    have LB3 := loc_ext hx3 (by omega) LB2
    have LV3 := loc_ext hx3 (by omega) LV2
    have hx3 := hx2.trans hx3
    have hs3 := hx3.size
    clear m0 m1 m2 m3 m4 x0 x1 x2 x3 x4 y0 y1 y2 y3 y4 hz hE2
    go_wp2_with fail
    refine (qNum4_c r3.1 hnn).mono ?_
    rintro x9 w4 ⟨rfl, hb4⟩
    have LB4 := LB3.bel hb4
    have LV4 := LV3.bel hb4
    have hr4 := hr3.below hb4
    have hx4 := hx3.trans (Below.ext hb4 _)
    have hs4 := hb4.size
    have hz := lt_of_heap LV4
    have hzg := hr4.lt
    obtain ⟨u0, u1, u2, u3, u4⟩ := frees5 LV4
    obtain ⟨t0, t1, t2, t3, t4⟩ := cells5 LV4
    go_upto_region 15 with (fail)
    have LV5 := set5_heap (.int .i64 4) (.int .i64 0) (.bool false) (.string ⟨#[]⟩) (.float .f64 r3.1) LV4
    have Z5 := set5_ext w4 w1.heap.size (.int .i64 4) (.int .i64 0) (.bool false) (.string ⟨#[]⟩) (.float .f64 r3.1)
    have LB5 := loc_ext (g := w1.heap.size) Z5 (by omega) LB4
    have hr5 := RdQ.off hr4 Z5 ⟨by omega, fun k hk => by have := hk.2; omega⟩
    have hx5 : Ext (fun k => k ≠ g) w _ := ext_off hx4 Z5 (by omega)
    clear LB2 LV2 LB3 LV3 LB4 LV4 hx2 hx3 hr3 hr2 hx4 hr4 hb4 u0 u1 u2 u3 u4 t0 t1 t2 t3 t4 hz hzg Z5
    unfold set5 at LV5 LB5 hr5 hx5
    generalize (((((w4.setCell ⟨w1.heap.size, 0, none⟩ (.int .i64 4)).setCell ⟨w1.heap.size, 1, none⟩ (.int .i64 0)).setCell ⟨w1.heap.size, 2, none⟩ (.bool false)).setCell ⟨w1.heap.size, 3, none⟩ (.string ⟨#[]⟩)).setCell ⟨w1.heap.size, 4, none⟩ (.float .f64 r3.1)) = w5 at *
    have hE5 := hr5.e
    obtain ⟨m0, m1, m2, m3, m4⟩ := cells5 LV5
    obtain ⟨x0, x1, x2, x3, x4⟩ := cells5 LB5
    obtain ⟨y0, y1, y2, y3, y4⟩ := frees5 LB5
    have hz := lt_of_heap LB5
    have hzv := lt_of_heap LV5
    by_cases he3 : r3.2.2 = 0
    · have he3' : (r3.2.2 != 0) = false := by simpa using he3
      have E3 := Lib.hid (E2.out he3)
      go_wp2_with fail
      have KH := set5_heap (.int .i64 4) (.int .i64 0) (.bool false) (.string ⟨#[]⟩) (.float .f64 r3.1) LB5
      have X5 := set5_ext w5 w.heap.size (.int .i64 4) (.int .i64 0) (.bool false) (.string ⟨#[]⟩) (.float .f64 r3.1)
      have R5 : RdQ (fun k => ok k ∧ k < w.heap.size) g (set5 w5 w.heap.size (.int .i64 4) (.int .i64 0) (.bool false) (.string ⟨#[]⟩) (.float .f64 r3.1)) _ _ := RdQ.off hr5 X5 ⟨by omega, fun k hk => by have := hk.2; omega⟩
      have Y5 : Ext (fun k => k ≠ g) w (set5 w5 w.heap.size (.int .i64 4) (.int .i64 0) (.bool false) (.string ⟨#[]⟩) (.float .f64 r3.1)) := ext_off hx5 X5 (Nat.le_refl _)
      obtain ⟨q0, q1, q2, q3, q4⟩ := cells5 KH
      unfold set5 at q0 q1 q2 q3 q4 R5 Y5
      rw [E3.out]
      exact bodyPost_ret (v := .tuple #[.agg #[.int .i64 4, .int .i64 0, .bool false, .string ⟨#[]⟩, .float .f64 r3.1], .int .i64 0]) (by simp [results, Try.results92, go_sem, q0, q1, q2, q3, q4]) rfl ⟨rfl, R5.weak fun k hk => hk.1, Y5⟩
    · have he3' : (r3.2.2 != 0) = true := by simpa using he3
      have E3 := Lib.hid (E1.out he3)
      go_wp2_with fail
      go_region
      all_goals
        go_wp21
        have KH := set5_heap (.int .i64 0) (.int .i64 0) (.bool false) (.string ⟨#[]⟩) (.float .f64 0) LB5
        have X5 := set5_ext w5 w.heap.size (.int .i64 0) (.int .i64 0) (.bool false) (.string ⟨#[]⟩) (.float .f64 0)
        have R5 : RdQ (fun k => ok k ∧ k < w.heap.size) g (set5 w5 w.heap.size (.int .i64 0) (.int .i64 0) (.bool false) (.string ⟨#[]⟩) (.float .f64 0)) _ _ := RdQ.off hr5 X5 ⟨by omega, fun k hk => by have := hk.2; omega⟩
        have Y5 : Ext (fun k => k ≠ g) w (set5 w5 w.heap.size (.int .i64 0) (.int .i64 0) (.bool false) (.string ⟨#[]⟩) (.float .f64 0)) := ext_off hx5 X5 (Nat.le_refl _)
        obtain ⟨q0, q1, q2, q3, q4⟩ := cells5 KH
        unfold set5 at q0 q1 q2 q3 q4 R5 Y5
        rw [E3.out]
        exact bodyPost_ret (v := .tuple #[.agg #[.int .i64 0, .int .i64 0, .bool false, .string ⟨#[]⟩, .float .f64 0], .int .i64 r3.2.2]) (by simp [results, Try.results92, go_sem, q0, q1, q2, q3, q4]) rfl ⟨rfl, (R5.weak fun k hk => hk.1).below (Below.refl _ _).drew, Y5.trans (ext_drew _ _)⟩
end
end Go.Proofs.Ytijlamajcdekkaa

/- The references' expressions, read: a value, or none. -/
namespace Go.Proofs.Ytijlamajcdekkaa
open Go.RowKit
set_option linter.unusedVariables false
set_option linter.unusedSimpArgs false
/-- what stays while something is read: the reader g; the result's block; nothing else has turned -/
structure QJ (ok : Nat → Prop) (w : World) (g : Nat) (T : TypeId) (z : Array Value) (s : RS) (W : World) : Prop where
  rd : RdQ (fun k => ok k ∧ k < w.heap.size) g W s.1 s.2
  res : Loc1 w.heap.size T z W
  ext : Ext (fun k => k ≠ g) w W
section
variable {ok : Nat → Prop} {w W W' : World} {g : Nat} {T : TypeId} {z : Array Value} {s s' : RS}
theorem QJ.start (h : RdQ ok g w s.1 s.2) : QJ ok w g T z s (w.alloc (.cells z T)) := ⟨h.bound.al _, Loc1.new _ _ _, ext_al g w _⟩
theorem QJ.lt (h : QJ ok w g T z s W) : w.heap.size < W.heap.size := lt_of_heap h.res
theorem QJ.below (h : QJ ok w g T z s W) (hb : Below W.heap.size W W') : QJ ok w g T z s W' := ⟨h.rd.below hb, h.res.below hb, h.ext.trans (Below.ext hb _)⟩
theorem QJ.call (h : QJ ok w g T z s W) (hr : RdQ (fun k => ok k ∧ k < w.heap.size) g W' s'.1 s'.2) (hx : Ext (fun k => k ≠ g) W W') (hg : g < w.heap.size) : QJ ok w g T z s' W' :=
  ⟨hr, loc_ext hx (by omega) h.res, h.ext.trans hx⟩
theorem QJ.off {b : Nat} (h : QJ ok w g T z s W) (hx : Ext (fun k => k ≠ b) W W') (hb : w.heap.size < b) (hg : g < w.heap.size) : QJ ok w g T z s W' :=
  ⟨h.rd.off hx ⟨by omega, fun k hk => by have := hk.2; omega⟩, loc_ext hx (by omega) h.res, ext_off h.ext hx (by omega)⟩
theorem QJ.fin (h : QJ ok w g T z s W) (hx : Ext (fun k => k ≠ w.heap.size) W W') (hg : g < w.heap.size) : RdQ ok g W' s.1 s.2 ∧ Ext (fun k => k ≠ g) w W' :=
  ⟨(h.rd.off hx ⟨by omega, fun k hk => by have := hk.2; omega⟩).weak fun k hk => hk.1, ext_off h.ext hx (Nat.le_refl _)⟩
theorem RdQ.grown {rest : List UInt8} {err : Int} {B : Nat} (h : RdQ ok g W rest err) (hx : Ext (fun k => k < B) W W') (hg : g < B) (hk : ∀ k, ok k → k < B) : RdQ ok g W' rest err := by
  obtain ⟨A, n, c, l, p, h, e⟩ := h
  exact ⟨A, n, c, l, p, ⟨(hx.block g h.lt hg).trans h.loc, h.row.ext (hx.weak fun k _ h => hk k h.1), h.at_, h.len⟩, e⟩
theorem QJ.grown {B : Nat} (h : QJ ok w g T z s W) (x : Ext (fun k => k < B) W W') (hB : w.heap.size < B) (hg : g < w.heap.size) : QJ ok w g T z s W' :=
  ⟨h.rd.grown x (by omega) (fun k hk => by have := hk.2; omega), (x.block _ h.lt hB).trans h.res,
    ⟨x.os.trans h.ext.os, x.tape.trans h.ext.tape, x.output.trans h.ext.output, Nat.le_trans h.ext.size x.size, fun k hk ho => (x.block k (Nat.lt_of_lt_of_le hk h.ext.size) (by omega)).trans (h.ext.block k hk ho)⟩⟩
theorem QJ.e (h : QJ ok w g T z s W) : W.cell? ⟨g, 2, none⟩ = some (.int .i64 s.2) := h.rd.e
end
section
variable {ok : Nat → Prop} {w : World}
/-- what Zero answers -/
def RetZq (ok : Nat → Prop) (g : Nat) (w : World) (r : Except Int (Val × RS)) (e : Ending) (w' : World) : Prop :=
  (match r with
    | .ok p => e = .returned (.tuple #[.agg #[.int .i64 p.1.kind, .int .i64 p.1.int, .bool p.1.bool, .string ⟨p.1.text.toArray⟩, .float .f64 p.1.num], .int .i64 0]) ∧ RdQ ok g w' p.2.1 p.2.2
    | .error x => e = .returned (.tuple #[.agg #[.int .i64 0, .int .i64 0, .bool false, .string ⟨#[]⟩, .float .f64 0], .int .i64 x])) ∧ Ext (fun k => k ≠ g) w w'
theorem gVal_err (s : RS) (h : ¬ (gVal s).1.2 = 0) : (gVal s).1.1 = zeroV := by
  unfold gVal at h ⊢
  split
  · rfl
  · split
    · rfl
    · split
      · rfl
      · exact absurd (by rw [if_neg (by assumption), if_neg (by assumption), if_neg (by assumption)]) h
set_option maxRecDepth 20000 in
set_option maxHeartbeats 8000000 in
theorem qzero_c (g : Nat) (s : RS) (h : RdQ ok g w s.1 s.2) : Calls Try.prog 68 #[.pointer (some ⟨g, 0, none⟩)] w (RetZq ok g w (vX s)) := by
  have SF := store_f64
  have hgw := h.lt
  have J0 : QJ ok w g 25 #[.int .i64 0, .int .i64 0, .bool false, .string ⟨#[]⟩, .float .f64 0] s (w.alloc (.cells #[.int .i64 0, .int .i64 0, .bool false, .string ⟨#[]⟩, .float .f64 0] 25)) := QJ.start h
  have hz0 : (w.alloc (.cells #[.int .i64 0, .int .i64 0, .bool false, .string ⟨#[]⟩, .float .f64 0] 25)).heap.size = w.heap.size + 1 := by simp
  have E := Lib.hid (show vX s = if (rInt s).1 = 0 ∧ (rInt s).2.2 = 0 then .ok (zeroV, (rInt s).2) else if (gVal s).1.2 = 0 then .ok ((gVal s).1.1, (gVal s).2) else .error (gVal s).1.2 from rfl)
  generalize vX s = r at *
  clear h
  go_enter Try.func68, Try.ntmps68
  go_upto_region 1 with (fail)
  generalize (w.alloc (.cells #[.int .i64 0, .int .i64 0, .bool false, .string ⟨#[]⟩, .float .f64 0] 25)) = w0 at *
  obtain ⟨A, n, c, l, p, hq, hrest⟩ := J0.rd
  obtain ⟨c0, c1, c2, f1, f2⟩ := hq.cells
  have J1 : QJ ok w g 25 #[.int .i64 0, .int .i64 0, .bool false, .string ⟨#[]⟩, .float .f64 0] s (w0.alloc (.cells #[.slice A n c, .int .i64 (p : Int), .int .i64 s.2] 57)).drew := J0.below bW
  have hq1 : Qr (fun k => ok k ∧ k < w.heap.size) g (w0.alloc (.cells #[.slice A n c, .int .i64 (p : Int), .int .i64 s.2] 57)).drew A n c p l s.2 := hq.below bW
  have hS : RdL (fun k => (ok k ∧ k < w.heap.size) ∧ k ≠ g) (w.heap.size + 1) (w0.alloc (.cells #[.slice A n c, .int .i64 (p : Int), .int .i64 s.2] 57)).drew A n c l s.1 s.2 := ⟨p, ⟨Loc1.dr (Loc1.newE _ _ _ hz0.symm), hq1.row.weak fun k hk => ⟨hk, by have := hk.1.2; omega⟩, hq.at_, hq.len⟩, hrest⟩
  have HC := Lib.hid (qInt_l (w.heap.size + 1) s hS)
  have hs0 : (rInt s).2.2 = 0 → s.2 = 0 := fun h => Decidable.byContradiction fun hn => by
    unfold rInt at h
    rw [if_pos hn] at h
    exact hn h
  generalize rInt s = P at *
  obtain ⟨k, s2⟩ := P
  replace HC := Lib.hid (show Calls Try.prog 65 #[.pointer (some ⟨w.heap.size + 1, 0, none⟩)] (w0.alloc (.cells #[.slice A n c, .int .i64 (p : Int), .int .i64 s.2] 57)).drew (Rl (fun k => (ok k ∧ k < w.heap.size) ∧ k ≠ g) (w.heap.size + 1) (w0.alloc (.cells #[.slice A n c, .int .i64 (p : Int), .int .i64 s.2] 57)).drew A n c l (.int .i64 k) s2) from HC.out)
  replace E := Lib.hid (show r = if k = 0 ∧ s2.2 = 0 then .ok (zeroV, s2) else if (gVal s).1.2 = 0 then .ok ((gVal s).1.1, (gVal s).2) else .error (gVal s).1.2 from E.out)
  simp only at hs0
  clear hS J0 hq
  go_region
  generalize (w0.alloc (.cells #[.slice A n c, .int .i64 (p : Int), .int .i64 s.2] 57)).drew = w1 at *
  clear c0 c1 c2 f1 f2 hz0
  go_wp2_with fail
  refine HC.out.mono ?_
  rintro x9 w2 ⟨rfl, ⟨p2, hq2, hr2⟩, hx2⟩
  have J2 := J1.off hx2 (by omega) hgw
  have hqg : Qr (fun k => ok k ∧ k < w.heap.size) g w2 A n c p l s.2 := ⟨loc_ext hx2 (by omega) hq1.loc, hq1.row.ext (hx2.weak fun k _ hk => by have := hk.1.2; omega), hq1.at_, hq1.len⟩
  clear HC J1 hq1 hx2
  obtain ⟨d0, d1, d2, e1, e2⟩ := hq2.cells
  have hp2 := hq2.at_
  have hzg := hqg.lt
  have hzs := hq2.lt
  by_cases hc : k = 0 ∧ s2.2 = 0
  · obtain ⟨rfl, he⟩ := hc
    have E1 := Lib.hid (show r = .ok (zeroV, s2) by rw [E.out, if_pos ⟨rfl, he⟩])
    have hz2 : (s2.2 == 0) = true := by simpa using he
    have hm := hqg.move p2 hp2
    rw [hs0 he] at hm
    have X3 : Ext (fun k => k ≠ g) w2 (w2.setCell ⟨g, 1, none⟩ (.int .i64 (p2 : Int))) := ext_set (fun e => e rfl) _
    have J3 : QJ ok w g 25 #[.int .i64 0, .int .i64 0, .bool false, .string ⟨#[]⟩, .float .f64 0] s2 (w2.setCell ⟨g, 1, none⟩ (.int .i64 (p2 : Int))) := J2.call ⟨A, n, c, l, p2, by rw [he]; exact hm, hr2⟩ X3 hgw
    obtain ⟨g0, g1, g2, h1, h2⟩ := hqg.cells
    clear hm X3 hqg J2 hq2 he hs0
    go_upto_region 4 with (fail)
    generalize (w2.setCell ⟨g, 1, none⟩ (.int .i64 (p2 : Int))) = w3 at *
    obtain ⟨q0, q1, q2, q3, q4, y0, y1, y2, y3, y4, hzq⟩ := op5 J3.res
    obtain ⟨LS1, XS1⟩ := st5 J3.res (.int .i64 0) (.int .i64 0) (.bool false) (.string ⟨#[]⟩) (.float .f64 0)
    obtain ⟨hR, hY⟩ := J3.fin XS1 hgw
    have HF := Lib.hid (And.intro hR hY)
    obtain ⟨v0, v1, v2, v3, v4⟩ := cells5 LS1
    clear LS1 XS1 hR hY d0 d1 d2 e1 e2 g0 g1 g2 h1 h2 J3
    go_wp21
    rw [E1.out]
    exact bodyPost_ret (v := .tuple #[.agg #[.int .i64 0, .int .i64 0, .bool false, .string ⟨#[]⟩, .float .f64 0], .int .i64 0]) (by simp [results, Try.results68, go_sem, v0, v1, v2, v3, v4]) rfl ⟨⟨rfl, HF.out.1⟩, HF.out.2⟩
  · have HG := Lib.hid (qget_c g s J2.rd)
    have hge := gVal_err s
    generalize gVal s = G at *
    obtain ⟨⟨v, x⟩, s3⟩ := G
    have E2 := Lib.hid (show r = if x = 0 then .ok (v, s3) else .error x by rw [E.out, if_neg hc])
    replace HG := Lib.hid (show Calls Try.prog 92 #[.pointer (some ⟨g, 0, none⟩)] w2 (fun e w' => e = .returned (.tuple #[.agg #[.int .i64 v.kind, .int .i64 v.int, .bool v.bool, .string ⟨v.text.toArray⟩, .float .f64 v.num], .int .i64 x]) ∧ RdQ (fun k => ok k ∧ k < w.heap.size) g w' s3.1 s3.2 ∧ Ext (fun k => k ≠ g) w2 w') from HG.out)
    simp only at hge
    have hn : (k == 0 && s2.2 == 0) = false := by simpa using hc
    clear hc
    cases h1 : (k == 0)
    all_goals
      first | (rw [h1, Bool.true_and] at hn) | skip
      go_wp2_with fail
      refine HG.out.mono ?_
      rintro x9 w3 ⟨rfl, hr3, hx3⟩
      have J3 := J2.call hr3 hx3 hgw
      obtain ⟨q0, q1, q2, q3, q4, y0, y1, y2, y3, y4, hzq⟩ := op5 J3.res
      obtain ⟨LS1, XS1⟩ := st5 J3.res (.int .i64 v.kind) (.int .i64 v.int) (.bool v.bool) (.string ⟨v.text.toArray⟩) (.float .f64 v.num)
      obtain ⟨hR, hY⟩ := J3.fin XS1 hgw
      have HF := Lib.hid (And.intro hR hY)
      obtain ⟨v0, v1, v2, v3, v4⟩ := cells5 LS1
      clear LS1 XS1 hR hY d0 d1 d2 e1 e2 J3 J2 hr3 hx3 hq2 hqg
      go_wp21
      rw [E2.out]
      by_cases hx : x = 0
      · rw [if_pos hx]
        subst hx
        exact bodyPost_ret (v := .tuple #[.agg #[.int .i64 v.kind, .int .i64 v.int, .bool v.bool, .string ⟨v.text.toArray⟩, .float .f64 v.num], .int .i64 0]) (by simp [results, Try.results68, go_sem, v0, v1, v2, v3, v4]) rfl ⟨⟨rfl, HF.out.1⟩, HF.out.2⟩
      · rw [if_neg hx]
        obtain rfl := hge hx
        exact bodyPost_ret (v := .tuple #[.agg #[.int .i64 zeroV.kind, .int .i64 zeroV.int, .bool zeroV.bool, .string ⟨zeroV.text.toArray⟩, .float .f64 zeroV.num], .int .i64 x]) (by simp [results, Try.results68, go_sem, v0, v1, v2, v3, v4]) rfl ⟨rfl, HF.out.2⟩
end
end Go.Proofs.Ytijlamajcdekkaa
