/- Package value, walked: Get. -/
import Derived.Test.YtijlamajcdekkaaMR
import Derived.Test.YtijlamajcdekkaaE9
import Derived.Test.YtijlamajcdekkaaMC
import Derived.Deep.CutRange
import Derived.Deep.DeepMust
namespace Go.Proofs.Ytijlamajcdekkaa
open Go.RowKit
set_option linter.unusedVariables false
set_option linter.unusedSimpArgs false
/-- a value read, or the error; and where the reader is then -/
def gPart (k : Int) (s : RS) : Val × RS :=
  if k = 1 then (⟨1, (rInt s).1, false, [], 0⟩, (rInt s).2) else if k = 2 then (⟨2, 0, (rBool s).1, [], 0⟩, (rBool s).2) else if k = 3 then (⟨3, 0, false, (rBytes 32 s).1, 0⟩, (rBytes 32 s).2) else (⟨4, 0, false, [], (rNum s).1⟩, (rNum s).2)
def gVal (s : RS) : (Val × Int) × RS :=
  if (rInt s).2.2 ≠ 0 then ((zeroV, (rInt s).2.2), (rInt s).2)
  else if (rInt s).1 < 1 ∨ 4 < (rInt s).1 then ((zeroV, 12), (rInt s).2)
  else if (gPart (rInt s).1 (rInt s).2).2.2 ≠ 0 then ((zeroV, (gPart (rInt s).1 (rInt s).2).2.2), (gPart (rInt s).1 (rInt s).2).2)
  else (((gPart (rInt s).1 (rInt s).2).1, 0), (gPart (rInt s).1 (rInt s).2).2)
theorem loc_ext {b g : Nat} {t : TypeId} {cm : Array Value} {w w' : World} (hx : Ext (fun k => k ≠ g) w w') (hne : b ≠ g) (h : Loc1 b t cm w) : Loc1 b t cm w' := (hx.block b (lt_of_heap h) hne).trans h
theorem Rd.al {ok : Nat → Prop} {g : Nat} {w : World} {rest : List UInt8} {err : Int} (o : Obj) (h : Rd ok g w rest err) : Rd ok g (w.alloc o) rest err := h.below ((Below.refl _ _).alloc (Nat.le_refl _) o)
theorem ext_al (g : Nat) (w : World) (o : Obj) : Ext (fun k => k ≠ g) w (w.alloc o) := Below.ext ((Below.refl _ _).alloc (Nat.le_refl _) o) _
theorem Rd.st {ok : Nat → Prop} {g b i : Nat} {w : World} {rest : List UInt8} {err : Int} {v : Value} (hb : w.heap.size ≤ b) (h : Rd ok g w rest err) : Rd ok g (w.setCell ⟨b, i, none⟩ v) rest err := h.below (bel_st hb (Below.refl _ _))
theorem conv_vs {P : Program} {ok : Nat → Prop} {w : World} {A : Option Addr} {n c : Nat} {l : List UInt8} (h : Sl kU8 ok w (.slice A n c) l) (src dst e : TypeId) (hs : P.underlying src = some (.slice e)) (he : P.underlying e = some (.int .u8)) (hd : P.underlying dst = some .string) : (convert src dst (.slice A n c)).run P w = .ok (.string ⟨l.toArray⟩) w := by
  have hl := h.len
  obtain ⟨rfl, h2, h3, h4⟩ := hl
  cases A with
  | some ad =>
    exact run_convert_bytes_back w src dst e ad c l hs he hd fun j hj => by
      obtain ⟨ad', x, hA, hx, hc⟩ := Sl.at1 (f := fun x : UInt8 => Value.int .u8 (x.toNat : Int)) (h1 := fun _ => rfl) h hj
      injection hA with hA
      subst hA
      rw [hc]
      have := (List.getElem?_eq_some_iff.1 hx).2
      rw [← this]
  | none =>
    have := h4 rfl
    have hl0 : l = [] := List.eq_nil_of_length_eq_zero (by omega)
    subst hl0
    rw [run_convert_bytes_string w src dst e none _ c hs he hd]
    simp [Conv.bytesToString]
    rfl
theorem Rd.bound {ok : Nat → Prop} {g : Nat} {w : World} {rest : List UInt8} {err : Int} (h : Rd ok g w rest err) : Rd (fun k => ok k ∧ k < w.heap.size) g w rest err := by
  obtain ⟨A, c, hh, hs, hl⟩ := h
  exact ⟨A, c, hh, hs.bound.weak fun k hk => ⟨⟨hk.1.1, hk.2⟩, hk.1.2⟩, hl⟩
theorem Rd.weak {ok ok' : Nat → Prop} {g : Nat} {w : World} {rest : List UInt8} {err : Int} (h : Rd ok g w rest err) (hk : ∀ k, ok k → ok' k) : Rd ok' g w rest err := by
  obtain ⟨A, c, hh, hs, hl⟩ := h
  exact ⟨A, c, hh, hs.weak fun k h => ⟨hk k h.1, h.2⟩, hl⟩
theorem rd_off {ok : Nat → Prop} {g b : Nat} {w w' : World} {rest : List UInt8} {err : Int} (h : Rd ok g w rest err) (hx : Ext (fun k => k ≠ b) w w') (hb : (g ≠ b ∧ ∀ k, ok k → k ≠ b)) : Rd ok g w' rest err := by
  obtain ⟨A, c, hh, hs, hl⟩ := h
  exact ⟨A, c, (hx.block g (lt_of_heap hh) hb.1).trans hh, hs.ext (hx.weak fun k _ hk => hb.2 k hk.1), hl⟩
theorem ext_off {g b : Nat} {w w1 w' : World} (hx : Ext (fun k => k ≠ g) w w1) (h5 : Ext (fun k => k ≠ b) w1 w') (hb : w.heap.size ≤ b) : Ext (fun k => k ≠ g) w w' :=
  ⟨h5.os.trans hx.os, h5.tape.trans hx.tape, h5.output.trans hx.output, Nat.le_trans hx.size h5.size, fun k hk ho => (h5.block k (Nat.lt_of_lt_of_le hk hx.size) (by omega)).trans (hx.block k hk ho)⟩
section
variable {ok : Nat → Prop} {w : World}
/-- what value.Get answers -/
def RetG (ok : Nat → Prop) (g : Nat) (w : World) (p : (Val × Int) × RS) (e : Ending) (w' : World) : Prop :=
  e = .returned (.tuple #[.agg #[.int .i64 p.1.1.kind, .int .i64 p.1.1.int, .bool p.1.1.bool, .string ⟨p.1.1.text.toArray⟩, .float .f64 p.1.1.num], .int .i64 p.1.2]) ∧ Rd ok g w' p.2.1 p.2.2 ∧ Ext (fun k => k ≠ g) w w'
set_option maxRecDepth 20000 in
set_option maxHeartbeats 8000000 in
theorem vget_c (g : Nat) (s : RS) (h : Rd ok g w s.1 s.2) : Calls Try.prog 90 #[.pointer (some ⟨g, 0, none⟩)] w (RetG ok g w (gVal s)) := by
  have SF := store_f64
  have hgw := h.lt
  have hB := h.bound
  have LB : Loc1 w.heap.size 25 #[.int .i64 0, .int .i64 0, .bool false, .string ⟨#[]⟩, .float .f64 0] (w.alloc (.cells #[.int .i64 0, .int .i64 0, .bool false, .string ⟨#[]⟩, .float .f64 0] 25)) := Loc1.new _ _ _
  have hw0 : (w.alloc (.cells #[.int .i64 0, .int .i64 0, .bool false, .string ⟨#[]⟩, .float .f64 0] 25)).heap.size = w.heap.size + 1 := by simp
  have hI := Lib.hid (int_c g s (hB.al (.cells #[.int .i64 0, .int .i64 0, .bool false, .string ⟨#[]⟩, .float .f64 0] 25)))
  have EG := Lib.hid (show gVal s = if (rInt s).2.2 ≠ 0 then ((zeroV, (rInt s).2.2), (rInt s).2) else if (rInt s).1 < 1 ∨ 4 < (rInt s).1 then ((zeroV, 12), (rInt s).2) else if (gPart (rInt s).1 (rInt s).2).2.2 ≠ 0 then ((zeroV, (gPart (rInt s).1 (rInt s).2).2.2), (gPart (rInt s).1 (rInt s).2).2) else (((gPart (rInt s).1 (rInt s).2).1, 0), (gPart (rInt s).1 (rInt s).2).2) from rfl)
  generalize gVal s = r at *
  generalize rInt s = p at *
  obtain ⟨k, s1⟩ := p
  replace EG := Lib.hid (show r = if s1.2 ≠ 0 then ((zeroV, s1.2), s1) else if k < 1 ∨ 4 < k then ((zeroV, 12), s1) else if (gPart k s1).2.2 ≠ 0 then ((zeroV, (gPart k s1).2.2), (gPart k s1).2) else (((gPart k s1).1, 0), (gPart k s1).2) from EG.out)
  replace hI := Lib.hid (show Calls Try.prog 61 #[.pointer (some ⟨g, 0, none⟩)] _ (Rv (fun k => ok k ∧ k < w.heap.size) g _ (.int .i64 k) s1) from hI.out)
  clear h hB
  go_enter Try.func90, Try.ntmps90
  go_upto_region 1 with (fail)
  have hx0 := ext_al g w (.cells #[.int .i64 0, .int .i64 0, .bool false, .string ⟨#[]⟩, .float .f64 0] 25)
  generalize (w.alloc (.cells #[.int .i64 0, .int .i64 0, .bool false, .string ⟨#[]⟩, .float .f64 0] 25)) = w0 at *
  go_wp2_with fail
  refine hI.out.mono ?_
  rintro x9 w1 ⟨rfl, hr1, hx1⟩
  have hs1 := hx1.size
  have LB1 := loc_ext hx1 (by omega) LB
  clear hI LB
  go_wp2_with fail
  refine (err_c g _ hr1).mono ?_
  rintro x9 w9 ⟨rfl, rfl⟩
  obtain ⟨x0, x1, x2, x3, x4⟩ := cells5 LB1
  obtain ⟨y0, y1, y2, y3, y4⟩ := frees5 LB1
  have hz := lt_of_heap LB1
  by_cases he1 : s1.2 = 0
  rotate_left
  · have he1' : (s1.2 != 0) = true := by simpa using he1
    have E1 := Lib.hid (show r = ((zeroV, s1.2), s1) by rw [EG.out, if_pos he1])
    go_wp2_with fail
    refine (err_c g _ hr1).mono ?_
    rintro x9 w9 ⟨rfl, rfl⟩
    go_wp2_with fail
    have KH := set5_heap (.int .i64 0) (.int .i64 0) (.bool false) (.string ⟨#[]⟩) (.float .f64 0) LB1
    have X5 := set5_ext w1 w.heap.size (.int .i64 0) (.int .i64 0) (.bool false) (.string ⟨#[]⟩) (.float .f64 0)
    have R5 : Rd (fun k => ok k ∧ k < w.heap.size) g (set5 w1 w.heap.size (.int .i64 0) (.int .i64 0) (.bool false) (.string ⟨#[]⟩) (.float .f64 0)) _ _ := rd_off hr1 X5 ⟨by omega, fun k hk => by have := hk.2; omega⟩
    have Y5 : Ext (fun k => k ≠ g) w (set5 w1 w.heap.size (.int .i64 0) (.int .i64 0) (.bool false) (.string ⟨#[]⟩) (.float .f64 0)) := ext_off (hx0.trans hx1) X5 (Nat.le_refl _)
    obtain ⟨q0, q1, q2, q3, q4⟩ := cells5 KH
    unfold set5 at q0 q1 q2 q3 q4 R5 Y5
    rw [E1.out]
    exact bodyPost_ret (v := .tuple #[.agg #[.int .i64 0, .int .i64 0, .bool false, .string ⟨#[]⟩, .float .f64 0], .int .i64 s1.2]) (by simp [results, Try.results90, go_sem, q0, q1, q2, q3, q4]) rfl ⟨rfl, R5.weak fun k hk => hk.1, Y5⟩
  have he1' : (s1.2 != 0) = false := by simpa using he1
  replace EG := Lib.hid (show r = if k < 1 ∨ 4 < k then ((zeroV, 12), s1) else if (gPart k s1).2.2 ≠ 0 then ((zeroV, (gPart k s1).2.2), (gPart k s1).2) else (((gPart k s1).1, 0), (gPart k s1).2) by rw [EG.out, if_neg (by simpa using he1)])
  by_cases hk1 : k < 1
  · have E1 := Lib.hid (show r = ((zeroV, 12), s1) by rw [EG.out, if_pos (.inl hk1)])
    go_wp2_with fail
    have KH := set5_heap (.int .i64 0) (.int .i64 0) (.bool false) (.string ⟨#[]⟩) (.float .f64 0) LB1
    have X5 := set5_ext w1 w.heap.size (.int .i64 0) (.int .i64 0) (.bool false) (.string ⟨#[]⟩) (.float .f64 0)
    have R5 : Rd (fun k => ok k ∧ k < w.heap.size) g (set5 w1 w.heap.size (.int .i64 0) (.int .i64 0) (.bool false) (.string ⟨#[]⟩) (.float .f64 0)) _ _ := rd_off hr1 X5 ⟨by omega, fun k hk => by have := hk.2; omega⟩
    have Y5 : Ext (fun k => k ≠ g) w (set5 w1 w.heap.size (.int .i64 0) (.int .i64 0) (.bool false) (.string ⟨#[]⟩) (.float .f64 0)) := ext_off (hx0.trans hx1) X5 (Nat.le_refl _)
    obtain ⟨q0, q1, q2, q3, q4⟩ := cells5 KH
    unfold set5 at q0 q1 q2 q3 q4 R5 Y5
    rw [E1.out]
    exact bodyPost_ret (v := .tuple #[.agg #[.int .i64 0, .int .i64 0, .bool false, .string ⟨#[]⟩, .float .f64 0], .int .i64 12]) (by simp [results, Try.results90, go_sem, q0, q1, q2, q3, q4]) rfl ⟨rfl, R5.weak fun k hk => hk.1, Y5⟩
  by_cases hk4 : 4 < k
  · have E1 := Lib.hid (show r = ((zeroV, 12), s1) by rw [EG.out, if_pos (.inr hk4)])
    go_wp2_with fail
    have KH := set5_heap (.int .i64 0) (.int .i64 0) (.bool false) (.string ⟨#[]⟩) (.float .f64 0) LB1
    have X5 := set5_ext w1 w.heap.size (.int .i64 0) (.int .i64 0) (.bool false) (.string ⟨#[]⟩) (.float .f64 0)
    have R5 : Rd (fun k => ok k ∧ k < w.heap.size) g (set5 w1 w.heap.size (.int .i64 0) (.int .i64 0) (.bool false) (.string ⟨#[]⟩) (.float .f64 0)) _ _ := rd_off hr1 X5 ⟨by omega, fun k hk => by have := hk.2; omega⟩
    have Y5 : Ext (fun k => k ≠ g) w (set5 w1 w.heap.size (.int .i64 0) (.int .i64 0) (.bool false) (.string ⟨#[]⟩) (.float .f64 0)) := ext_off (hx0.trans hx1) X5 (Nat.le_refl _)
    obtain ⟨q0, q1, q2, q3, q4⟩ := cells5 KH
    unfold set5 at q0 q1 q2 q3 q4 R5 Y5
    rw [E1.out]
    exact bodyPost_ret (v := .tuple #[.agg #[.int .i64 0, .int .i64 0, .bool false, .string ⟨#[]⟩, .float .f64 0], .int .i64 12]) (by simp [results, Try.results90, go_sem, q0, q1, q2, q3, q4]) rfl ⟨rfl, R5.weak fun k hk => hk.1, Y5⟩
  have E1 := Lib.hid (fun (h : (gPart k s1).2.2 ≠ 0) => show r = ((zeroV, (gPart k s1).2.2), (gPart k s1).2) by rw [EG.out, if_neg (by omega), if_pos h])
  have E2 := Lib.hid (fun (h : (gPart k s1).2.2 = 0) => show r = (((gPart k s1).1, 0), (gPart k s1).2) by rw [EG.out, if_neg (by omega), if_neg (by simpa using h)])
  clear EG he1
  have hkk : k = 1 ∨ k = 2 ∨ k = 3 ∨ k = 4 := by omega
  clear hk1 hk4
  rcases hkk with rfl | rfl | rfl | rfl
  · skip
    go_upto_region 9 with (fail)
    have LV2 : Loc1 w1.heap.size 25 #[.int .i64 1, .int .i64 0, .bool false, .string ⟨#[]⟩, .float .f64 0] (w1.alloc (.cells #[.int .i64 1, .int .i64 0, .bool false, .string ⟨#[]⟩, .float .f64 0] 25)) := Loc1.new _ _ _
    have LB2 := LB1.al (.cells #[.int .i64 1, .int .i64 0, .bool false, .string ⟨#[]⟩, .float .f64 0] 25)
    have hr2 := hr1.al (.cells #[.int .i64 1, .int .i64 0, .bool false, .string ⟨#[]⟩, .float .f64 0] 25)
    have hx2 := hx0.trans (hx1.trans (ext_al g w1 (.cells #[.int .i64 1, .int .i64 0, .bool false, .string ⟨#[]⟩, .float .f64 0] 25)))
    have hs2 : w1.heap.size < (w1.alloc (.cells #[.int .i64 1, .int .i64 0, .bool false, .string ⟨#[]⟩, .float .f64 0] 25)).heap.size := by simp
    generalize (w1.alloc (.cells #[.int .i64 1, .int .i64 0, .bool false, .string ⟨#[]⟩, .float .f64 0] 25)) = w2 at *
    clear LB1 hr1 hx0 hx1 x0 x1 x2 x3 x4 y0 y1 y2 y3 y4 hz
    have hC := Lib.hid (int_c g s1 hr2)
    replace E1 := Lib.hid (show (rInt s1).2.2 ≠ 0 → r = ((zeroV, (rInt s1).2.2), (rInt s1).2) from E1.out)
    replace E2 := Lib.hid (show (rInt s1).2.2 = 0 → r = (((⟨1, (rInt s1).1, false, [], 0⟩ : Val), 0), (rInt s1).2) from E2.out)
    generalize rInt s1 = r3 at *
    go_wp2_with fail
    refine hC.out.mono ?_
    rintro x9 w3 ⟨rfl, hr3, hx3⟩
    have LB3 := loc_ext hx3 (by omega) LB2
    have LV3 := loc_ext hx3 (by omega) LV2
    have HV3 := heap_set LV3 1 (.int .i64 r3.1)
    have hs3 := hx3.size
    obtain ⟨m0, m1, m2, m3, m4⟩ := cells5 LV3
    obtain ⟨u0, u1, u2, u3, u4⟩ := frees5 LV3
    have hz := lt_of_heap LV3
    have hzg := hr3.lt
    go_upto_region 16 with (fail)
    have LV4 : Loc1 w1.heap.size 25 #[.int .i64 1, .int .i64 r3.1, .bool false, .string ⟨#[]⟩, .float .f64 0] (w3.setCell ⟨w1.heap.size, 1, none⟩ (.int .i64 r3.1)) := by unfold Loc1; simpa using HV3
    have LB4 := LB3.st (i := 1) (v := .int .i64 r3.1) (show w.heap.size ≠ w1.heap.size by omega)
    have hr4 := rd_off hr3 (ext_set_ne (Ext.refl (fun k => k ≠ w1.heap.size) w3) 1 (.int .i64 r3.1)) ⟨by omega, fun k hk => by have := hk.2; omega⟩
    have hx4 : Ext (fun k => k ≠ g) w (w3.setCell ⟨w1.heap.size, 1, none⟩ (.int .i64 r3.1)) := ext_off (hx2.trans hx3) (ext_set_ne (Ext.refl (fun k => k ≠ w1.heap.size) w3) 1 (.int .i64 r3.1)) (by omega)
    clear LB2 LV2 LB3 LV3 HV3 hx2 hx3 hr3 hr2 m0 m1 m2 m3 m4 u0 u1 u2 u3 u4 hz hzg
    generalize (w3.setCell ⟨w1.heap.size, 1, none⟩ (.int .i64 r3.1)) = w4 at *
    go_wp2_with fail
    refine (err_c g _ hr4).mono ?_
    rintro x9 w5 ⟨rfl, rfl⟩
    obtain ⟨m0, m1, m2, m3, m4⟩ := cells5 LV4
    obtain ⟨x0, x1, x2, x3, x4⟩ := cells5 LB4
    obtain ⟨y0, y1, y2, y3, y4⟩ := frees5 LB4
    have hz := lt_of_heap LB4
    have hzv := lt_of_heap LV4
    by_cases he3 : r3.2.2 = 0
    · have he3' : (r3.2.2 != 0) = false := by simpa using he3
      have E3 := Lib.hid (E2.out he3)
      go_wp2_with fail
      have KH := set5_heap (.int .i64 1) (.int .i64 r3.1) (.bool false) (.string ⟨#[]⟩) (.float .f64 0) LB4
      have X5 := set5_ext w4 w.heap.size (.int .i64 1) (.int .i64 r3.1) (.bool false) (.string ⟨#[]⟩) (.float .f64 0)
      have R5 : Rd (fun k => ok k ∧ k < w.heap.size) g (set5 w4 w.heap.size (.int .i64 1) (.int .i64 r3.1) (.bool false) (.string ⟨#[]⟩) (.float .f64 0)) _ _ := rd_off hr4 X5 ⟨by omega, fun k hk => by have := hk.2; omega⟩
      have Y5 : Ext (fun k => k ≠ g) w (set5 w4 w.heap.size (.int .i64 1) (.int .i64 r3.1) (.bool false) (.string ⟨#[]⟩) (.float .f64 0)) := ext_off hx4 X5 (Nat.le_refl _)
      obtain ⟨q0, q1, q2, q3, q4⟩ := cells5 KH
      unfold set5 at q0 q1 q2 q3 q4 R5 Y5
      rw [E3.out]
      exact bodyPost_ret (v := .tuple #[.agg #[.int .i64 1, .int .i64 r3.1, .bool false, .string ⟨#[]⟩, .float .f64 0], .int .i64 0]) (by simp [results, Try.results90, go_sem, q0, q1, q2, q3, q4]) rfl ⟨rfl, R5.weak fun k hk => hk.1, Y5⟩
    · have he3' : (r3.2.2 != 0) = true := by simpa using he3
      have E3 := Lib.hid (E1.out he3)
      go_wp2_with fail
      have KH := set5_heap (.int .i64 0) (.int .i64 0) (.bool false) (.string ⟨#[]⟩) (.float .f64 0) LB4
      have X5 := set5_ext w4 w.heap.size (.int .i64 0) (.int .i64 0) (.bool false) (.string ⟨#[]⟩) (.float .f64 0)
      have R5 : Rd (fun k => ok k ∧ k < w.heap.size) g (set5 w4 w.heap.size (.int .i64 0) (.int .i64 0) (.bool false) (.string ⟨#[]⟩) (.float .f64 0)) _ _ := rd_off hr4 X5 ⟨by omega, fun k hk => by have := hk.2; omega⟩
      have Y5 : Ext (fun k => k ≠ g) w (set5 w4 w.heap.size (.int .i64 0) (.int .i64 0) (.bool false) (.string ⟨#[]⟩) (.float .f64 0)) := ext_off hx4 X5 (Nat.le_refl _)
      obtain ⟨q0, q1, q2, q3, q4⟩ := cells5 KH
      unfold set5 at q0 q1 q2 q3 q4 R5 Y5
      rw [E3.out]
      exact bodyPost_ret (v := .tuple #[.agg #[.int .i64 0, .int .i64 0, .bool false, .string ⟨#[]⟩, .float .f64 0], .int .i64 r3.2.2]) (by simp [results, Try.results90, go_sem, q0, q1, q2, q3, q4]) rfl ⟨rfl, R5.weak fun k hk => hk.1, Y5⟩
  · skip
    go_upto_region 11 with (fail)
    have LV2 : Loc1 w1.heap.size 25 #[.int .i64 2, .int .i64 0, .bool false, .string ⟨#[]⟩, .float .f64 0] (w1.alloc (.cells #[.int .i64 2, .int .i64 0, .bool false, .string ⟨#[]⟩, .float .f64 0] 25)) := Loc1.new _ _ _
    have LB2 := LB1.al (.cells #[.int .i64 2, .int .i64 0, .bool false, .string ⟨#[]⟩, .float .f64 0] 25)
    have hr2 := hr1.al (.cells #[.int .i64 2, .int .i64 0, .bool false, .string ⟨#[]⟩, .float .f64 0] 25)
    have hx2 := hx0.trans (hx1.trans (ext_al g w1 (.cells #[.int .i64 2, .int .i64 0, .bool false, .string ⟨#[]⟩, .float .f64 0] 25)))
    have hs2 : w1.heap.size < (w1.alloc (.cells #[.int .i64 2, .int .i64 0, .bool false, .string ⟨#[]⟩, .float .f64 0] 25)).heap.size := by simp
    generalize (w1.alloc (.cells #[.int .i64 2, .int .i64 0, .bool false, .string ⟨#[]⟩, .float .f64 0] 25)) = w2 at *
    clear LB1 hr1 hx0 hx1 x0 x1 x2 x3 x4 y0 y1 y2 y3 y4 hz
    have hC := Lib.hid (bool_c g s1 hr2)
    replace E1 := Lib.hid (show (rBool s1).2.2 ≠ 0 → r = ((zeroV, (rBool s1).2.2), (rBool s1).2) from E1.out)
    replace E2 := Lib.hid (show (rBool s1).2.2 = 0 → r = (((⟨2, 0, (rBool s1).1, [], 0⟩ : Val), 0), (rBool s1).2) from E2.out)
    generalize rBool s1 = r3 at *
    go_wp2_with fail
    refine hC.out.mono ?_
    rintro x9 w3 ⟨rfl, hr3, hx3⟩
    have LB3 := loc_ext hx3 (by omega) LB2
    have LV3 := loc_ext hx3 (by omega) LV2
    have HV3 := heap_set LV3 2 (.bool r3.1)
    have hs3 := hx3.size
    obtain ⟨m0, m1, m2, m3, m4⟩ := cells5 LV3
    obtain ⟨u0, u1, u2, u3, u4⟩ := frees5 LV3
    have hz := lt_of_heap LV3
    have hzg := hr3.lt
    go_upto_region 16 with (fail)
    have LV4 : Loc1 w1.heap.size 25 #[.int .i64 2, .int .i64 0, .bool r3.1, .string ⟨#[]⟩, .float .f64 0] (w3.setCell ⟨w1.heap.size, 2, none⟩ (.bool r3.1)) := by unfold Loc1; simpa using HV3
    have LB4 := LB3.st (i := 2) (v := .bool r3.1) (show w.heap.size ≠ w1.heap.size by omega)
    have hr4 := rd_off hr3 (ext_set_ne (Ext.refl (fun k => k ≠ w1.heap.size) w3) 2 (.bool r3.1)) ⟨by omega, fun k hk => by have := hk.2; omega⟩
    have hx4 : Ext (fun k => k ≠ g) w (w3.setCell ⟨w1.heap.size, 2, none⟩ (.bool r3.1)) := ext_off (hx2.trans hx3) (ext_set_ne (Ext.refl (fun k => k ≠ w1.heap.size) w3) 2 (.bool r3.1)) (by omega)
    clear LB2 LV2 LB3 LV3 HV3 hx2 hx3 hr3 hr2 m0 m1 m2 m3 m4 u0 u1 u2 u3 u4 hz hzg
    generalize (w3.setCell ⟨w1.heap.size, 2, none⟩ (.bool r3.1)) = w4 at *
    go_wp2_with fail
    refine (err_c g _ hr4).mono ?_
    rintro x9 w5 ⟨rfl, rfl⟩
    obtain ⟨m0, m1, m2, m3, m4⟩ := cells5 LV4
    obtain ⟨x0, x1, x2, x3, x4⟩ := cells5 LB4
    obtain ⟨y0, y1, y2, y3, y4⟩ := frees5 LB4
    have hz := lt_of_heap LB4
    have hzv := lt_of_heap LV4
    by_cases he3 : r3.2.2 = 0
    · have he3' : (r3.2.2 != 0) = false := by simpa using he3
      have E3 := Lib.hid (E2.out he3)
      go_wp2_with fail
      have KH := set5_heap (.int .i64 2) (.int .i64 0) (.bool r3.1) (.string ⟨#[]⟩) (.float .f64 0) LB4
      have X5 := set5_ext w4 w.heap.size (.int .i64 2) (.int .i64 0) (.bool r3.1) (.string ⟨#[]⟩) (.float .f64 0)
      have R5 : Rd (fun k => ok k ∧ k < w.heap.size) g (set5 w4 w.heap.size (.int .i64 2) (.int .i64 0) (.bool r3.1) (.string ⟨#[]⟩) (.float .f64 0)) _ _ := rd_off hr4 X5 ⟨by omega, fun k hk => by have := hk.2; omega⟩
      have Y5 : Ext (fun k => k ≠ g) w (set5 w4 w.heap.size (.int .i64 2) (.int .i64 0) (.bool r3.1) (.string ⟨#[]⟩) (.float .f64 0)) := ext_off hx4 X5 (Nat.le_refl _)
      obtain ⟨q0, q1, q2, q3, q4⟩ := cells5 KH
      unfold set5 at q0 q1 q2 q3 q4 R5 Y5
      rw [E3.out]
      exact bodyPost_ret (v := .tuple #[.agg #[.int .i64 2, .int .i64 0, .bool r3.1, .string ⟨#[]⟩, .float .f64 0], .int .i64 0]) (by simp [results, Try.results90, go_sem, q0, q1, q2, q3, q4]) rfl ⟨rfl, R5.weak fun k hk => hk.1, Y5⟩
    · have he3' : (r3.2.2 != 0) = true := by simpa using he3
      have E3 := Lib.hid (E1.out he3)
      go_wp2_with fail
      have KH := set5_heap (.int .i64 0) (.int .i64 0) (.bool false) (.string ⟨#[]⟩) (.float .f64 0) LB4
      have X5 := set5_ext w4 w.heap.size (.int .i64 0) (.int .i64 0) (.bool false) (.string ⟨#[]⟩) (.float .f64 0)
      have R5 : Rd (fun k => ok k ∧ k < w.heap.size) g (set5 w4 w.heap.size (.int .i64 0) (.int .i64 0) (.bool false) (.string ⟨#[]⟩) (.float .f64 0)) _ _ := rd_off hr4 X5 ⟨by omega, fun k hk => by have := hk.2; omega⟩
      have Y5 : Ext (fun k => k ≠ g) w (set5 w4 w.heap.size (.int .i64 0) (.int .i64 0) (.bool false) (.string ⟨#[]⟩) (.float .f64 0)) := ext_off hx4 X5 (Nat.le_refl _)
      obtain ⟨q0, q1, q2, q3, q4⟩ := cells5 KH
      unfold set5 at q0 q1 q2 q3 q4 R5 Y5
      rw [E3.out]
      exact bodyPost_ret (v := .tuple #[.agg #[.int .i64 0, .int .i64 0, .bool false, .string ⟨#[]⟩, .float .f64 0], .int .i64 r3.2.2]) (by simp [results, Try.results90, go_sem, q0, q1, q2, q3, q4]) rfl ⟨rfl, R5.weak fun k hk => hk.1, Y5⟩
  · skip
    go_upto_region 13 with (fail)
    have LV2 : Loc1 w1.heap.size 25 #[.int .i64 3, .int .i64 0, .bool false, .string ⟨#[]⟩, .float .f64 0] (w1.alloc (.cells #[.int .i64 3, .int .i64 0, .bool false, .string ⟨#[]⟩, .float .f64 0] 25)) := Loc1.new _ _ _
    have LB2 := LB1.al (.cells #[.int .i64 3, .int .i64 0, .bool false, .string ⟨#[]⟩, .float .f64 0] 25)
    have hr2 := hr1.al (.cells #[.int .i64 3, .int .i64 0, .bool false, .string ⟨#[]⟩, .float .f64 0] 25)
    have hx2 := hx0.trans (hx1.trans (ext_al g w1 (.cells #[.int .i64 3, .int .i64 0, .bool false, .string ⟨#[]⟩, .float .f64 0] 25)))
    have hs2 : w1.heap.size < (w1.alloc (.cells #[.int .i64 3, .int .i64 0, .bool false, .string ⟨#[]⟩, .float .f64 0] 25)).heap.size := by simp
    generalize (w1.alloc (.cells #[.int .i64 3, .int .i64 0, .bool false, .string ⟨#[]⟩, .float .f64 0] 25)) = w2 at *
    clear LB1 hr1 hx0 hx1 x0 x1 x2 x3 x4 y0 y1 y2 y3 y4 hz
    have hC := Lib.hid (bytes_c g 32 s1 hr2)
    replace E1 := Lib.hid (show (rBytes 32 s1).2.2 ≠ 0 → r = ((zeroV, (rBytes 32 s1).2.2), (rBytes 32 s1).2) from E1.out)
    replace E2 := Lib.hid (show (rBytes 32 s1).2.2 = 0 → r = (((⟨3, 0, false, (rBytes 32 s1).1, 0⟩ : Val), 0), (rBytes 32 s1).2) from E2.out)
    generalize rBytes 32 s1 = r3 at *
    go_wp2_with fail
    refine hC.out.mono ?_
    rintro x9 w3 ⟨v, rfl, ho, hr3, hx3⟩
    obtain ⟨Av, nv, cv, rfl, -⟩ := ho.form'
    have CV := conv_vs (P := Try.prog) ((ho.weak (ok' := fun _ => True) fun _ _ => trivial).sl fun _ _ => trivial) 52 9 5 Try.underlying52 Try.underlying5 Try.underlying9
    clear ho
    have LB3 := loc_ext hx3 (by omega) LB2
    have LV3 := loc_ext hx3 (by omega) LV2
    have HV3 := heap_set LV3 3 (.string ⟨r3.1.toArray⟩)
    have hs3 := hx3.size
    obtain ⟨m0, m1, m2, m3, m4⟩ := cells5 LV3
    obtain ⟨u0, u1, u2, u3, u4⟩ := frees5 LV3
    have hz := lt_of_heap LV3
    have hzg := hr3.lt
    go_upto_region 16 with (fail)
    have LV4 : Loc1 w1.heap.size 25 #[.int .i64 3, .int .i64 0, .bool false, .string ⟨r3.1.toArray⟩, .float .f64 0] (w3.setCell ⟨w1.heap.size, 3, none⟩ (.string ⟨r3.1.toArray⟩)) := by unfold Loc1; simpa using HV3
    have LB4 := LB3.st (i := 3) (v := .string ⟨r3.1.toArray⟩) (show w.heap.size ≠ w1.heap.size by omega)
    have hr4 := rd_off hr3 (ext_set_ne (Ext.refl (fun k => k ≠ w1.heap.size) w3) 3 (.string ⟨r3.1.toArray⟩)) ⟨by omega, fun k hk => by have := hk.2; omega⟩
    have hx4 : Ext (fun k => k ≠ g) w (w3.setCell ⟨w1.heap.size, 3, none⟩ (.string ⟨r3.1.toArray⟩)) := ext_off (hx2.trans hx3) (ext_set_ne (Ext.refl (fun k => k ≠ w1.heap.size) w3) 3 (.string ⟨r3.1.toArray⟩)) (by omega)
    clear LB2 LV2 LB3 LV3 HV3 hx2 hx3 hr3 hr2 m0 m1 m2 m3 m4 u0 u1 u2 u3 u4 hz hzg
    generalize (w3.setCell ⟨w1.heap.size, 3, none⟩ (.string ⟨r3.1.toArray⟩)) = w4 at *
    go_wp2_with fail
    refine (err_c g _ hr4).mono ?_
    rintro x9 w5 ⟨rfl, rfl⟩
    obtain ⟨m0, m1, m2, m3, m4⟩ := cells5 LV4
    obtain ⟨x0, x1, x2, x3, x4⟩ := cells5 LB4
    obtain ⟨y0, y1, y2, y3, y4⟩ := frees5 LB4
    have hz := lt_of_heap LB4
    have hzv := lt_of_heap LV4
    by_cases he3 : r3.2.2 = 0
    · have he3' : (r3.2.2 != 0) = false := by simpa using he3
      have E3 := Lib.hid (E2.out he3)
      go_wp2_with fail
      have KH := set5_heap (.int .i64 3) (.int .i64 0) (.bool false) (.string ⟨r3.1.toArray⟩) (.float .f64 0) LB4
      have X5 := set5_ext w4 w.heap.size (.int .i64 3) (.int .i64 0) (.bool false) (.string ⟨r3.1.toArray⟩) (.float .f64 0)
      have R5 : Rd (fun k => ok k ∧ k < w.heap.size) g (set5 w4 w.heap.size (.int .i64 3) (.int .i64 0) (.bool false) (.string ⟨r3.1.toArray⟩) (.float .f64 0)) _ _ := rd_off hr4 X5 ⟨by omega, fun k hk => by have := hk.2; omega⟩
      have Y5 : Ext (fun k => k ≠ g) w (set5 w4 w.heap.size (.int .i64 3) (.int .i64 0) (.bool false) (.string ⟨r3.1.toArray⟩) (.float .f64 0)) := ext_off hx4 X5 (Nat.le_refl _)
      obtain ⟨q0, q1, q2, q3, q4⟩ := cells5 KH
      unfold set5 at q0 q1 q2 q3 q4 R5 Y5
      rw [E3.out]
      exact bodyPost_ret (v := .tuple #[.agg #[.int .i64 3, .int .i64 0, .bool false, .string ⟨r3.1.toArray⟩, .float .f64 0], .int .i64 0]) (by simp [results, Try.results90, go_sem, q0, q1, q2, q3, q4]) rfl ⟨rfl, R5.weak fun k hk => hk.1, Y5⟩
    · have he3' : (r3.2.2 != 0) = true := by simpa using he3
      have E3 := Lib.hid (E1.out he3)
      go_wp2_with fail
      have KH := set5_heap (.int .i64 0) (.int .i64 0) (.bool false) (.string ⟨#[]⟩) (.float .f64 0) LB4
      have X5 := set5_ext w4 w.heap.size (.int .i64 0) (.int .i64 0) (.bool false) (.string ⟨#[]⟩) (.float .f64 0)
      have R5 : Rd (fun k => ok k ∧ k < w.heap.size) g (set5 w4 w.heap.size (.int .i64 0) (.int .i64 0) (.bool false) (.string ⟨#[]⟩) (.float .f64 0)) _ _ := rd_off hr4 X5 ⟨by omega, fun k hk => by have := hk.2; omega⟩
      have Y5 : Ext (fun k => k ≠ g) w (set5 w4 w.heap.size (.int .i64 0) (.int .i64 0) (.bool false) (.string ⟨#[]⟩) (.float .f64 0)) := ext_off hx4 X5 (Nat.le_refl _)
      obtain ⟨q0, q1, q2, q3, q4⟩ := cells5 KH
      unfold set5 at q0 q1 q2 q3 q4 R5 Y5
      rw [E3.out]
      exact bodyPost_ret (v := .tuple #[.agg #[.int .i64 0, .int .i64 0, .bool false, .string ⟨#[]⟩, .float .f64 0], .int .i64 r3.2.2]) (by simp [results, Try.results90, go_sem, q0, q1, q2, q3, q4]) rfl ⟨rfl, R5.weak fun k hk => hk.1, Y5⟩
  · skip
    go_upto_region 15 with (fail)
    have LV2 : Loc1 w1.heap.size 25 #[.int .i64 4, .int .i64 0, .bool false, .string ⟨#[]⟩, .float .f64 0] (w1.alloc (.cells #[.int .i64 4, .int .i64 0, .bool false, .string ⟨#[]⟩, .float .f64 0] 25)) := Loc1.new _ _ _
    have LB2 := LB1.al (.cells #[.int .i64 4, .int .i64 0, .bool false, .string ⟨#[]⟩, .float .f64 0] 25)
    have hr2 := hr1.al (.cells #[.int .i64 4, .int .i64 0, .bool false, .string ⟨#[]⟩, .float .f64 0] 25)
    have hx2 := hx0.trans (hx1.trans (ext_al g w1 (.cells #[.int .i64 4, .int .i64 0, .bool false, .string ⟨#[]⟩, .float .f64 0] 25)))
    have hs2 : w1.heap.size < (w1.alloc (.cells #[.int .i64 4, .int .i64 0, .bool false, .string ⟨#[]⟩, .float .f64 0] 25)).heap.size := by simp
    generalize (w1.alloc (.cells #[.int .i64 4, .int .i64 0, .bool false, .string ⟨#[]⟩, .float .f64 0] 25)) = w2 at *
    clear LB1 hr1 hx0 hx1 x0 x1 x2 x3 x4 y0 y1 y2 y3 y4 hz
    have hC := Lib.hid (num_c g s1 hr2)
    replace E1 := Lib.hid (show (rNum s1).2.2 ≠ 0 → r = ((zeroV, (rNum s1).2.2), (rNum s1).2) from E1.out)
    replace E2 := Lib.hid (show (rNum s1).2.2 = 0 → r = (((⟨4, 0, false, [], (rNum s1).1⟩ : Val), 0), (rNum s1).2) from E2.out)
    generalize rNum s1 = r3 at *
    go_wp2_with fail
    refine hC.out.mono ?_
    rintro x9 w3 ⟨rfl, hr3, hx3⟩
    have LB3 := loc_ext hx3 (by omega) LB2
    have LV3 := loc_ext hx3 (by omega) LV2
    have HV3 := heap_set LV3 4 (.float .f64 r3.1)
    have hs3 := hx3.size
    obtain ⟨m0, m1, m2, m3, m4⟩ := cells5 LV3
    obtain ⟨u0, u1, u2, u3, u4⟩ := frees5 LV3
    have hz := lt_of_heap LV3
    have hzg := hr3.lt
    go_upto_region 16 with (fail)
    have LV4 : Loc1 w1.heap.size 25 #[.int .i64 4, .int .i64 0, .bool false, .string ⟨#[]⟩, .float .f64 r3.1] (w3.setCell ⟨w1.heap.size, 4, none⟩ (.float .f64 r3.1)) := by unfold Loc1; simpa using HV3
    have LB4 := LB3.st (i := 4) (v := .float .f64 r3.1) (show w.heap.size ≠ w1.heap.size by omega)
    have hr4 := rd_off hr3 (ext_set_ne (Ext.refl (fun k => k ≠ w1.heap.size) w3) 4 (.float .f64 r3.1)) ⟨by omega, fun k hk => by have := hk.2; omega⟩
    have hx4 : Ext (fun k => k ≠ g) w (w3.setCell ⟨w1.heap.size, 4, none⟩ (.float .f64 r3.1)) := ext_off (hx2.trans hx3) (ext_set_ne (Ext.refl (fun k => k ≠ w1.heap.size) w3) 4 (.float .f64 r3.1)) (by omega)
    clear LB2 LV2 LB3 LV3 HV3 hx2 hx3 hr3 hr2 m0 m1 m2 m3 m4 u0 u1 u2 u3 u4 hz hzg
    generalize (w3.setCell ⟨w1.heap.size, 4, none⟩ (.float .f64 r3.1)) = w4 at *
    go_wp2_with fail
    refine (err_c g _ hr4).mono ?_
    rintro x9 w5 ⟨rfl, rfl⟩
    obtain ⟨m0, m1, m2, m3, m4⟩ := cells5 LV4
    obtain ⟨x0, x1, x2, x3, x4⟩ := cells5 LB4
    obtain ⟨y0, y1, y2, y3, y4⟩ := frees5 LB4
    have hz := lt_of_heap LB4
    have hzv := lt_of_heap LV4
    by_cases he3 : r3.2.2 = 0
    · have he3' : (r3.2.2 != 0) = false := by simpa using he3
      have E3 := Lib.hid (E2.out he3)
      go_wp2_with fail
      have KH := set5_heap (.int .i64 4) (.int .i64 0) (.bool false) (.string ⟨#[]⟩) (.float .f64 r3.1) LB4
      have X5 := set5_ext w4 w.heap.size (.int .i64 4) (.int .i64 0) (.bool false) (.string ⟨#[]⟩) (.float .f64 r3.1)
      have R5 : Rd (fun k => ok k ∧ k < w.heap.size) g (set5 w4 w.heap.size (.int .i64 4) (.int .i64 0) (.bool false) (.string ⟨#[]⟩) (.float .f64 r3.1)) _ _ := rd_off hr4 X5 ⟨by omega, fun k hk => by have := hk.2; omega⟩
      have Y5 : Ext (fun k => k ≠ g) w (set5 w4 w.heap.size (.int .i64 4) (.int .i64 0) (.bool false) (.string ⟨#[]⟩) (.float .f64 r3.1)) := ext_off hx4 X5 (Nat.le_refl _)
      obtain ⟨q0, q1, q2, q3, q4⟩ := cells5 KH
      unfold set5 at q0 q1 q2 q3 q4 R5 Y5
      rw [E3.out]
      exact bodyPost_ret (v := .tuple #[.agg #[.int .i64 4, .int .i64 0, .bool false, .string ⟨#[]⟩, .float .f64 r3.1], .int .i64 0]) (by simp [results, Try.results90, go_sem, q0, q1, q2, q3, q4]) rfl ⟨rfl, R5.weak fun k hk => hk.1, Y5⟩
    · have he3' : (r3.2.2 != 0) = true := by simpa using he3
      have E3 := Lib.hid (E1.out he3)
      go_wp2_with fail
      have KH := set5_heap (.int .i64 0) (.int .i64 0) (.bool false) (.string ⟨#[]⟩) (.float .f64 0) LB4
      have X5 := set5_ext w4 w.heap.size (.int .i64 0) (.int .i64 0) (.bool false) (.string ⟨#[]⟩) (.float .f64 0)
      have R5 : Rd (fun k => ok k ∧ k < w.heap.size) g (set5 w4 w.heap.size (.int .i64 0) (.int .i64 0) (.bool false) (.string ⟨#[]⟩) (.float .f64 0)) _ _ := rd_off hr4 X5 ⟨by omega, fun k hk => by have := hk.2; omega⟩
      have Y5 : Ext (fun k => k ≠ g) w (set5 w4 w.heap.size (.int .i64 0) (.int .i64 0) (.bool false) (.string ⟨#[]⟩) (.float .f64 0)) := ext_off hx4 X5 (Nat.le_refl _)
      obtain ⟨q0, q1, q2, q3, q4⟩ := cells5 KH
      unfold set5 at q0 q1 q2 q3 q4 R5 Y5
      rw [E3.out]
      exact bodyPost_ret (v := .tuple #[.agg #[.int .i64 0, .int .i64 0, .bool false, .string ⟨#[]⟩, .float .f64 0], .int .i64 r3.2.2]) (by simp [results, Try.results90, go_sem, q0, q1, q2, q3, q4]) rfl ⟨rfl, R5.weak fun k hk => hk.1, Y5⟩
end
end Go.Proofs.Ytijlamajcdekkaa
