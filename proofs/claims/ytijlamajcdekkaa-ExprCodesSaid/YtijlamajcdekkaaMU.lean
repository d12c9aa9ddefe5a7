/- Texts that go together. -/
import Derived.Test.YtijlamajcdekkaaMT
import Derived.Test.YtijlamajcdekkaaV7e
import Derived.Test.YtijlamajcdekkaaV4
/- The references' expressions, read. -/
namespace Go.Proofs.Ytijlamajcdekkaa
open Go.RowKit
set_option linter.unusedVariables false
set_option linter.unusedSimpArgs false
def RetQX (ok : Nat → Prop) (g : Nat) (w : World) (d : Nat) (r : Except Int (Exp × Int × RS)) (e : Ending) (w' : World) : Prop :=
  (match r with
    | .ok p => ∃ cs : List Value, e = .returned (.tuple #[.agg cs.toArray, .int .i64 p.2.1, .int .i64 0]) ∧ (kExp d).R (fun k => w.heap.size ≤ k) w' cs p.1 ∧ RdQ ok g w' p.2.2.1 p.2.2.2
    | .error x => e = .returned (.tuple #[.agg #[.int .i64 0, .slice none 0 0, .string ⟨#[]⟩, .int .i64 0, .int .i64 0, .bool false, .string ⟨#[]⟩, .float .f64 0], .int .i64 0, .int .i64 x])) ∧ Ext (fun k => k ≠ g) w w'
abbrev QGetX (d : Nat) : Prop := ∀ (ok : Nat → Prop) (w : World) (g : Nat) (N : Int) (s : RS), RdQ ok g w s.1 s.2 → N ≤ 24 →
  Calls Try.prog 43 #[.pointer (some ⟨g, 0, none⟩), .int .i64 (d : Int), .int .i64 N] w (RetQX ok g w d (gX d N s))
def LQ (ok : Nat → Prop) (w : World) (g d n : Nat) (N : Int) (s4 : RS) (eb : Nat) (o : Int) (nm : List UInt8) (v : Val) (B : Nat) (v13 v2 : Value) (wz : World) : Prop :=
  ∃ (i : Nat) (l : List Exp) (M : Int) (s5 : RS) (kv : Value), i ≤ n ∧ v13 = .int .i64 i ∧ v2 = .int .i64 M ∧ gI (gX d) N s4 i = .ok (l, M, s5) ∧ QJ ok w g 27 #[.int .i64 0, .slice none 0 0, .string ⟨#[]⟩, .int .i64 0, .int .i64 0, .bool false, .string ⟨#[]⟩, .float .f64 0] s5 wz ∧ Loc1 eb 27 #[.int .i64 o, kv, .string ⟨nm.toArray⟩, .int .i64 v.kind, .int .i64 v.int, .bool v.bool, .string ⟨v.text.toArray⟩, .float .f64 v.num] wz ∧ Own (kExp d) 27 (fun k => B ≤ k) wz B kv l ∧ B ≤ wz.heap.size
set_option maxRecDepth 20000 in
set_option maxHeartbeats 20000000 in
theorem qgetX_s {d : Nat} (hd : d ≤ 6) (ih : ∀ d', d = d' + 1 → QGetX d') : QGetX d := by
  intro ok w g N s h hN
  have SF := store_f64
  have IH := Lib.hid ih
  have hgw := h.lt
  have J0 : QJ ok w g 27 #[.int .i64 0, .slice none 0 0, .string ⟨#[]⟩, .int .i64 0, .int .i64 0, .bool false, .string ⟨#[]⟩, .float .f64 0] s (w.alloc (.cells #[.int .i64 0, .slice none 0 0, .string ⟨#[]⟩, .int .i64 0, .int .i64 0, .bool false, .string ⟨#[]⟩, .float .f64 0] 27)) := QJ.start h
  have hz0 := J0.lt
  clear h
  cases d with
  | zero =>
    go_enter Try.func43, Try.ntmps43
    go_upto_region 1 with (fail)
    generalize (w.alloc (.cells #[.int .i64 0, .slice none 0 0, .string ⟨#[]⟩, .int .i64 0, .int .i64 0, .bool false, .string ⟨#[]⟩, .float .f64 0] 27)) = w0 at *
    obtain ⟨q0, q1, q2, q3, q4, q5, q6, q7, y0, y1, y2, y3, y4, y5, y6, y7, hzq⟩ := op8 J0.res
    obtain ⟨LS1, XS1⟩ := st8 J0.res (.int .i64 0) (.slice none 0 0) (.string ⟨#[]⟩) (.int .i64 0) (.int .i64 0) (.bool false) (.string ⟨#[]⟩) (.float .f64 0)
    obtain ⟨hR, hY⟩ := J0.fin XS1 hgw
    have HF := Lib.hid (And.intro hR hY)
    obtain ⟨v0, v1, v2, v3, v4, v5, v6, v7⟩ := cells8 LS1
    clear LS1 XS1 hR hY
    go_wp21
    exact bodyPost_ret (v := .tuple #[.agg #[.int .i64 0, .slice none 0 0, .string ⟨#[]⟩, .int .i64 0, .int .i64 0, .bool false, .string ⟨#[]⟩, .float .f64 0], .int .i64 0, .int .i64 51]) (by simp [results, Try.results43, go_sem, v0, v1, v2, v3, v4, v5, v6, v7]) rfl ⟨rfl, HF.out.2⟩
  | succ d =>
  have E := Lib.hid (show gX (d + 1) N s = if N ≤ 0 then .error 51 else gTail (gX d) N (rInt s).1 (rCount 3 (rInt s).2).1 (rBytes 16 (rCount 3 (rInt s).2).2) from rfl)
  generalize gX (d + 1) N s = r at *
  have hd1 : ¬ (((d + 1 : Nat) : Int) < 1) := by omega
  have hd2 : ((d + 1 : Nat) : Int) ≤ 6 := by omega
  have hd3 : decide (((d + 1 : Nat) : Int) < 1) = false := decide_eq_false hd1
  have hd4 : decide ((d : Int) + 1 < 1) = false := decide_eq_false (by omega)
  by_cases hN0 : N ≤ 0
  · have hN1 : N < 1 := by omega
    have E1 := Lib.hid (show r = .error 51 by rw [E.out, if_pos hN0])
    clear hN0
    go_enter Try.func43, Try.ntmps43
    go_upto_region 1 with (fail)
    generalize (w.alloc (.cells #[.int .i64 0, .slice none 0 0, .string ⟨#[]⟩, .int .i64 0, .int .i64 0, .bool false, .string ⟨#[]⟩, .float .f64 0] 27)) = w0 at *
    obtain ⟨q0, q1, q2, q3, q4, q5, q6, q7, y0, y1, y2, y3, y4, y5, y6, y7, hzq⟩ := op8 J0.res
    obtain ⟨LS1, XS1⟩ := st8 J0.res (.int .i64 0) (.slice none 0 0) (.string ⟨#[]⟩) (.int .i64 0) (.int .i64 0) (.bool false) (.string ⟨#[]⟩) (.float .f64 0)
    obtain ⟨hR, hY⟩ := J0.fin XS1 hgw
    have HF := Lib.hid (And.intro hR hY)
    obtain ⟨v0, v1, v2, v3, v4, v5, v6, v7⟩ := cells8 LS1
    clear LS1 XS1 hR hY
    go_wp21
    rw [E1.out]
    exact bodyPost_ret (v := .tuple #[.agg #[.int .i64 0, .slice none 0 0, .string ⟨#[]⟩, .int .i64 0, .int .i64 0, .bool false, .string ⟨#[]⟩, .float .f64 0], .int .i64 0, .int .i64 51]) (by simp [results, Try.results43, go_sem, v0, v1, v2, v3, v4, v5, v6, v7]) rfl ⟨rfl, HF.out.2⟩
  have hN1 : ¬ N < 1 := by omega
  have hN2 : 0 < N := by omega
  replace E := Lib.hid (show r = gTail (gX d) N (rInt s).1 (rCount 3 (rInt s).2).1 (rBytes 16 (rCount 3 (rInt s).2).2) by rw [E.out, if_neg hN0])
  clear hN0
  go_enter Try.func43, Try.ntmps43
  go_upto_region 1 with (fail)
  generalize (w.alloc (.cells #[.int .i64 0, .slice none 0 0, .string ⟨#[]⟩, .int .i64 0, .int .i64 0, .bool false, .string ⟨#[]⟩, .float .f64 0] 27)) = w0 at *
  have C1 := Lib.hid (qInt_c g s J0.rd)
  generalize rInt s = p1 at *
  obtain ⟨o, s1⟩ := p1
  replace E := Lib.hid (show r = gTail (gX d) N o (rCount 3 s1).1 (rBytes 16 (rCount 3 s1).2) from E.out)
  replace C1 := Lib.hid (show Calls Try.prog 65 #[.pointer (some ⟨g, 0, none⟩)] w0 (Rq (fun k => ok k ∧ k < w.heap.size) g w0 (.int .i64 o) s1) from C1.out)
  go_wp2_with fail
  refine C1.out.mono ?_
  rintro x9 w2 ⟨rfl, hr2, hx2⟩
  have J2 := J0.call hr2 hx2 hgw
  have hs2 := hx2.size
  clear hr2 hx2 C1 J0
  go_upto_region 4 with (fail)
  have LE : Loc1 w2.heap.size 27 #[.int .i64 o, .slice none 0 0, .string ⟨#[]⟩, .int .i64 0, .int .i64 0, .bool false, .string ⟨#[]⟩, .float .f64 0] (w2.alloc (.cells #[.int .i64 o, .slice none 0 0, .string ⟨#[]⟩, .int .i64 0, .int .i64 0, .bool false, .string ⟨#[]⟩, .float .f64 0] 27)) := Loc1.new _ _ _
  have J3 := J2.below (show Below w2.heap.size w2 (w2.alloc (.cells #[.int .i64 o, .slice none 0 0, .string ⟨#[]⟩, .int .i64 0, .int .i64 0, .bool false, .string ⟨#[]⟩, .float .f64 0] 27)) from bW)
  have hs3 : (w2.alloc (.cells #[.int .i64 o, .slice none 0 0, .string ⟨#[]⟩, .int .i64 0, .int .i64 0, .bool false, .string ⟨#[]⟩, .float .f64 0] 27)).heap.size = w2.heap.size + 1 := by simp
  have hE : w.heap.size < w2.heap.size := J2.lt
  clear J2
  generalize (w2.alloc (.cells #[.int .i64 o, .slice none 0 0, .string ⟨#[]⟩, .int .i64 0, .int .i64 0, .bool false, .string ⟨#[]⟩, .float .f64 0] 27)) = w3 at *
  generalize w2.heap.size = eb at *
  have C1 := Lib.hid (qCount_c g 3 s1 J3.rd)
  have hle : (rCount 3 s1).1 ≤ 3 := rCount_le s1
  generalize rCount 3 s1 = p1 at *
  obtain ⟨n, s2⟩ := p1
  replace E := Lib.hid (show r = gTail (gX d) N o n (rBytes 16 s2) from E.out)
  replace C1 := Lib.hid (show Calls Try.prog 66 #[.pointer (some ⟨g, 0, none⟩), .int .i64 3] w3 (Rq (fun k => ok k ∧ k < w.heap.size) g w3 (.int .i64 (n : Int)) s2) from C1.out)
  simp only at hle
  go_wp2_with fail
  refine C1.out.mono ?_
  rintro x9 w4 ⟨rfl, hr4, hx4⟩
  have J4 := J3.call hr4 hx4 hgw
  have LE4 := loc_ext hx4 (by omega) LE
  have hs4 := hx4.size
  clear hr4 hx4 C1 J3 LE
  have C1 := Lib.hid (qBytes_c g 16 s2 J4.rd)
  generalize rBytes 16 s2 = p1 at *
  obtain ⟨nm, s3⟩ := p1
  replace C1 := Lib.hid (show Calls Try.prog 67 #[.pointer (some ⟨g, 0, none⟩), .int .i64 16] w4 (fun e w' => ∃ v, e = .returned v ∧ Own kU8 5 (fun k => ok k ∧ k < w.heap.size) w' w4.heap.size v nm ∧ RdQ (fun k => ok k ∧ k < w.heap.size) g w' s3.1 s3.2 ∧ Ext (fun k => k ≠ g) w4 w') from C1.out)
  go_wp2_with fail
  refine C1.out.mono ?_
  rintro x9 w5 ⟨v5, rfl, ho5, hr5, hx5⟩
  obtain ⟨Av, nv, cv, rfl, -⟩ := ho5.form'
  have CV := conv_vs (P := Try.prog) ((own_u8 (ok' := fun _ => True) ho5).sl fun _ _ => trivial) 52 9 5 Try.underlying52 Try.underlying5 Try.underlying9
  have J5 := J4.call hr5 hx5 hgw
  have LE5 := loc_ext hx5 (by omega) LE4
  have hs5 := hx5.size
  clear hr5 hx5 C1 J4 LE4 ho5
  obtain ⟨m0, m1, m2, m3, m4, m5, m6, m7, u0, u1, u2, u3, u4, u5, u6, u7, hzm⟩ := op8 LE5
  go_upto_region 6 with (fail)
  have J6 := J5.off (ext_set_ne (Ext.refl (fun k => k ≠ eb) w5) 2 (.string ⟨nm.toArray⟩)) hE hgw
  have LE6 : Loc1 eb 27 #[.int .i64 o, .slice none 0 0, .string ⟨nm.toArray⟩, .int .i64 0, .int .i64 0, .bool false, .string ⟨#[]⟩, .float .f64 0] (w5.setCell ⟨eb, 2, none⟩ (.string ⟨nm.toArray⟩)) := by have := heap_set LE5 2 (.string ⟨nm.toArray⟩); unfold Loc1; simpa using this
  have hs6 : (w5.setCell ⟨eb, 2, none⟩ (.string ⟨nm.toArray⟩)).heap.size = w5.heap.size := World.size_setCell _ _ _
  clear m0 m1 m2 m3 m4 m5 m6 m7 u0 u1 u2 u3 u4 u5 u6 u7 hzm
  clear J5 LE5 CV
  generalize (w5.setCell ⟨eb, 2, none⟩ (.string ⟨nm.toArray⟩)) = w6 at *
  have he6 := J6.e
  by_cases he : s3.2 = 0
  rotate_left
  · have he1 : (s3.2 != 0) = true := by simpa using he
    have E1 := Lib.hid (show r = .error s3.2 by rw [E.out]; unfold gTail; rw [if_pos he])
    clear he
    go_upto_region 7 with (fail)
    obtain ⟨q0, q1, q2, q3, q4, q5, q6, q7, y0, y1, y2, y3, y4, y5, y6, y7, hzq⟩ := op8 J6.res
    obtain ⟨LS1, XS1⟩ := st8 J6.res (.int .i64 0) (.slice none 0 0) (.string ⟨#[]⟩) (.int .i64 0) (.int .i64 0) (.bool false) (.string ⟨#[]⟩) (.float .f64 0)
    obtain ⟨hR, hY⟩ := J6.fin XS1 hgw
    have HF := Lib.hid (And.intro hR hY)
    obtain ⟨v0, v1, v2, v3, v4, v5, v6, v7⟩ := cells8 LS1
    clear LS1 XS1 hR hY
    go_region
    all_goals
      go_wp21
      rw [E1.out]
      exact bodyPost_ret (v := .tuple #[.agg #[.int .i64 0, .slice none 0 0, .string ⟨#[]⟩, .int .i64 0, .int .i64 0, .bool false, .string ⟨#[]⟩, .float .f64 0], .int .i64 0, .int .i64 s3.2]) (by simp [results, Try.results43, go_sem, v0, v1, v2, v3, v4, v5, v6, v7]) rfl ⟨rfl, HF.out.2.trans (ext_drew _ _)⟩
  have he1 : (s3.2 != 0) = false := by simpa using he
  replace E := Lib.hid (show r = match vX s3 with
    | .error x => .error x
    | .ok p => match gI (gX d) (N - 1) p.2 n with
      | .error x => .error x
      | .ok q => .ok (.mk o q.1 nm p.1, q.2.1, q.2.2) by rw [E.out]; unfold gTail; rw [if_neg (by simpa using he)]; rfl)
  clear he
  have C1 := Lib.hid (qzero_c g s3 J6.rd)
  cases hv : vX s3 with
  | error x =>
    rw [hv] at C1
    have hx0 : x ≠ 0 := vX_err hv
    have hx1 : (x != 0) = true := by simpa using hx0
    have E1 := Lib.hid (show r = .error x by rw [E.out, hv])
    clear hv hx0
    go_wp2_with fail
    refine C1.out.mono ?_
    rintro x9 w8 ⟨hbd, hx8⟩
    have hbd : x9 = .returned (.tuple #[.agg #[.int .i64 0, .int .i64 0, .bool false, .string ⟨#[]⟩, .float .f64 0], .int .i64 x]) := hbd
    subst hbd
    have R8 : Loc1 w.heap.size 27 #[.int .i64 0, .slice none 0 0, .string ⟨#[]⟩, .int .i64 0, .int .i64 0, .bool false, .string ⟨#[]⟩, .float .f64 0] w8 := loc_ext hx8 (by omega) J6.res
    have X8 := J6.ext.trans hx8
    clear he6 E C1 LE6 J6
    go_upto_region 9 with (fail)
    have R9 : Loc1 w.heap.size 27 #[.int .i64 0, .slice none 0 0, .string ⟨#[]⟩, .int .i64 0, .int .i64 0, .bool false, .string ⟨#[]⟩, .float .f64 0] (w8.alloc (.cells #[.int .i64 0, .int .i64 0, .bool false, .string ⟨#[]⟩, .float .f64 0] 25)) := R8.al _
    have X9 : Ext (fun k => k ≠ g) w (w8.alloc (.cells #[.int .i64 0, .int .i64 0, .bool false, .string ⟨#[]⟩, .float .f64 0] 25)) := X8.trans (ext_alloc _ _ _)
    clear R8 X8
    generalize (w8.alloc (.cells #[.int .i64 0, .int .i64 0, .bool false, .string ⟨#[]⟩, .float .f64 0] 25)) = w9 at *
    obtain ⟨q0, q1, q2, q3, q4, q5, q6, q7, y0, y1, y2, y3, y4, y5, y6, y7, hzq⟩ := op8 R9
    obtain ⟨LS1, XS1⟩ := st8 R9 (.int .i64 0) (.slice none 0 0) (.string ⟨#[]⟩) (.int .i64 0) (.int .i64 0) (.bool false) (.string ⟨#[]⟩) (.float .f64 0)
    have hY := ext_off X9 XS1 (Nat.le_refl _)
    have HF := Lib.hid hY
    obtain ⟨v0, v1, v2, v3, v4, v5, v6, v7⟩ := cells8 LS1
    clear LS1 XS1 hY
    go_wp21
    rw [E1.out]
    exact bodyPost_ret (v := .tuple #[.agg #[.int .i64 0, .slice none 0 0, .string ⟨#[]⟩, .int .i64 0, .int .i64 0, .bool false, .string ⟨#[]⟩, .float .f64 0], .int .i64 0, .int .i64 x]) (by simp [results, Try.results43, go_sem, v0, v1, v2, v3, v4, v5, v6, v7]) rfl ⟨rfl, HF.out⟩
  | ok p =>
  obtain ⟨v, s4⟩ := p
  rw [hv] at C1
  replace E := Lib.hid (show r = match gI (gX d) (N - 1) s4 n with
      | .error x => .error x
      | .ok q => .ok (.mk o q.1 nm v, q.2.1, q.2.2) by rw [E.out, hv])
  clear hv
  go_wp2_with fail
  refine C1.out.mono ?_
  rintro x9 w8 ⟨⟨rfl, hr8⟩, hx8⟩
  have J8 := J6.call hr8 hx8 hgw
  have LE8 := loc_ext hx8 (by omega) LE6
  have hs8 := hx8.size
  clear hr8 hx8 C1 J6 LE6 he6
  go_upto_region 11 with (fail)
  have LV9 : Loc1 w8.heap.size 25 #[.int .i64 v.kind, .int .i64 v.int, .bool v.bool, .string ⟨v.text.toArray⟩, .float .f64 v.num] (w8.alloc (.cells #[.int .i64 v.kind, .int .i64 v.int, .bool v.bool, .string ⟨v.text.toArray⟩, .float .f64 v.num] 25)) := Loc1.new _ _ _
  have J9 := J8.below (show Below w8.heap.size w8 (w8.alloc (.cells #[.int .i64 v.kind, .int .i64 v.int, .bool v.bool, .string ⟨v.text.toArray⟩, .float .f64 v.num] 25)) from bW)
  have LE9 := LE8.al (.cells #[.int .i64 v.kind, .int .i64 v.int, .bool v.bool, .string ⟨v.text.toArray⟩, .float .f64 v.num] 25)
  have hEz := lt_of_heap LE8
  clear J8 LE8
  generalize (w8.alloc (.cells #[.int .i64 v.kind, .int .i64 v.int, .bool v.bool, .string ⟨v.text.toArray⟩, .float .f64 v.num] 25)) = w9 at *
  obtain ⟨x0, x1, x2, x3, x4⟩ := cells5 LV9
  obtain ⟨m0, m1, m2, m3, m4, m5, m6, m7, u0, u1, u2, u3, u4, u5, u6, u7, hzm⟩ := op8 LE9
  have hzv := lt_of_heap LV9
  go_upto_region 13 with (fail)
  have X10 : Ext (fun k => k ≠ eb) w9 (((((w9.setCell ⟨eb, 3, none⟩ (.int .i64 v.kind)).setCell ⟨eb, 4, none⟩ (.int .i64 v.int)).setCell ⟨eb, 5, none⟩ (.bool v.bool)).setCell ⟨eb, 6, none⟩ (.string ⟨v.text.toArray⟩)).setCell ⟨eb, 7, none⟩ (.float .f64 v.num)) := (ext_set_ne (ext_set_ne (ext_set_ne (ext_set_ne (ext_set_ne (Ext.refl _ _) 3 _) 4 _) 5 _) 6 _) 7 _)
  have J10 := J9.off X10 hE hgw
  have LE10 : Loc1 eb 27 #[.int .i64 o, .slice none 0 0, .string ⟨nm.toArray⟩, .int .i64 v.kind, .int .i64 v.int, .bool v.bool, .string ⟨v.text.toArray⟩, .float .f64 v.num] (((((w9.setCell ⟨eb, 3, none⟩ (.int .i64 v.kind)).setCell ⟨eb, 4, none⟩ (.int .i64 v.int)).setCell ⟨eb, 5, none⟩ (.bool v.bool)).setCell ⟨eb, 6, none⟩ (.string ⟨v.text.toArray⟩)).setCell ⟨eb, 7, none⟩ (.float .f64 v.num)) := by
    have := heap_set (heap_set (heap_set (heap_set (heap_set LE9 3 (.int .i64 v.kind)) 4 (.int .i64 v.int)) 5 (.bool v.bool)) 6 (.string ⟨v.text.toArray⟩)) 7 (.float .f64 v.num)
    unfold Loc1
    simpa using this
  clear m0 m1 m2 m3 m4 m5 m6 m7 u0 u1 u2 u3 u4 u5 u6 u7 hzm
  clear J9 LE9 X10 LV9 x0 x1 x2 x3 x4 hzv
  generalize (((((w9.setCell ⟨eb, 3, none⟩ (.int .i64 v.kind)).setCell ⟨eb, 4, none⟩ (.int .i64 v.int)).setCell ⟨eb, 5, none⟩ (.bool v.bool)).setCell ⟨eb, 6, none⟩ (.string ⟨v.text.toArray⟩)).setCell ⟨eb, 7, none⟩ (.float .f64 v.num)) = w10 at *
  have hEz := lt_of_heap LE10
  go_wp2_with fail
  go_loopw [13, 2] (fun v13 v2 wz => LQ ok w g d n (N - 1) s4 eb o nm v w10.heap.size v13 v2 wz) (fun v13 _ _ => n - (intOf v13).toNat)
  case atStart => exact ⟨0, [], N - 1, s4, _, Nat.zero_le _, rfl, rfl, rfl, J10, LE10, Own.nil _ _ _ _ _, Nat.le_refl _⟩
  case round =>
    obtain ⟨wo, hwx⟩ : ∃ x, x = wr := ⟨_, rfl⟩
    subst hwx
    clear J10 LE10
    obtain ⟨i, l, M, s5, kv, hi, rfl, rfl, hg, J, LE, ho, hws⟩ := hrel
    have hgr := Lib.hid hg
    have hM : M ≤ N - 1 := gI_le hg
    have HO := Lib.hid ho
    obtain ⟨Ak, nk, ck, rfl, hnk⟩ := ho.form'
    have HNK := Lib.hid hnk
    clear hg ho hnk
    obtain ⟨m0, m1, m2, m3, m4, m5, m6, m7⟩ := cells8 LE
    by_cases hin : i < n
    rotate_left
    · have hi2 : i = n := by omega
      subst hi2
      have E1 := Lib.hid (show r = .ok (.mk o l nm v, M, s5) by rw [E.out, hgr.out])
      have hnk := HNK.out
      subst hnk
      obtain ⟨q0, q1, q2, q3, q4, q5, q6, q7, y0, y1, y2, y3, y4, y5, y6, y7, hzq⟩ := op8 J.res
      obtain ⟨LS1, XS1⟩ := st8 J.res (.int .i64 o) (.slice Ak l.length ck) (.string ⟨nm.toArray⟩) (.int .i64 v.kind) (.int .i64 v.int) (.bool v.bool) (.string ⟨v.text.toArray⟩) (.float .f64 v.num)
      obtain ⟨hR, hY⟩ := J.fin XS1 hgw
      have HF := Lib.hid (And.intro hR hY)
      have L8 : Sl (kExp d) (fun k => w.heap.size ≤ k) _ (.slice Ak l.length ck) l := ((HO.out.sl fun k hk => hk).ext (XS1.weak fun k _ hk => by have : w10.heap.size ≤ k := hk; omega)).weak fun k hk => by have : w10.heap.size ≤ k := hk; omega
      have HL8 := Lib.hid L8
      obtain ⟨v0, v1, v2, v3, v4, v5, v6, v7⟩ := cells8 LS1
      clear LS1 XS1 hR hY L8
      go_wp21
      rw [E1.out]
      exact bodyPost_ret (v := .tuple #[.agg #[.int .i64 o, .slice Ak l.length ck, .string ⟨nm.toArray⟩, .int .i64 v.kind, .int .i64 v.int, .bool v.bool, .string ⟨v.text.toArray⟩, .float .f64 v.num], .int .i64 M, .int .i64 0]) (by simp [results, Try.results43, go_sem, v0, v1, v2, v3, v4, v5, v6, v7]) rfl ⟨⟨_, rfl, exp_mk (e := .mk o l nm v) HL8.out, HF.out.1⟩, HF.out.2⟩
    have hi0 : (i : Int) < (n : Int) := by omega
    have HC := Lib.hid (IH.out d rfl (fun k => ok k ∧ k < w.heap.size) wo g M s5 J.rd (by omega))
    have hwd : IntKind.i64.wrap (d : Int) = d := by rw [IntKind.wrap_i64]; omega
    cases hx : gX d M s5 with
    | error x =>
      rw [hx] at HC
      have hx0 : x ≠ 0 := gX_err d hx
      have hx1 : (x != 0) = true := by simpa using hx0
      have E1 := Lib.hid (show r = .error x by rw [E.out, gI_stop (i := i + 1) (by rw [gI, hgr.out]; show (match gX d M s5 with | .error x => _ | .ok q => _) = _; rw [hx]) n hin])
      clear hx hx0
      go_wp2_with fail
      refine HC.out.mono ?_
      rintro x9 wz ⟨hbd, hxz⟩
      have hbd : x9 = .returned (.tuple #[.agg #[.int .i64 0, .slice none 0 0, .string ⟨#[]⟩, .int .i64 0, .int .i64 0, .bool false, .string ⟨#[]⟩, .float .f64 0], .int .i64 0, .int .i64 x]) := hbd
      subst hbd
      have RZ : Loc1 w.heap.size 27 #[.int .i64 0, .slice none 0 0, .string ⟨#[]⟩, .int .i64 0, .int .i64 0, .bool false, .string ⟨#[]⟩, .float .f64 0] wz := loc_ext hxz (by omega) J.res
      have XZ := J.ext.trans hxz
      clear m0 m1 m2 m3 m4 m5 m6 m7 LE HC hxz
      go_upto_region 17 with (fail)
      have R9 : Loc1 w.heap.size 27 #[.int .i64 0, .slice none 0 0, .string ⟨#[]⟩, .int .i64 0, .int .i64 0, .bool false, .string ⟨#[]⟩, .float .f64 0] (wz.alloc (.cells #[.int .i64 0, .slice none 0 0, .string ⟨#[]⟩, .int .i64 0, .int .i64 0, .bool false, .string ⟨#[]⟩, .float .f64 0] 27)) := RZ.al _
      have X9 : Ext (fun k => k ≠ g) w (wz.alloc (.cells #[.int .i64 0, .slice none 0 0, .string ⟨#[]⟩, .int .i64 0, .int .i64 0, .bool false, .string ⟨#[]⟩, .float .f64 0] 27)) := XZ.trans (ext_alloc _ _ _)
      clear RZ XZ
      generalize (wz.alloc (.cells #[.int .i64 0, .slice none 0 0, .string ⟨#[]⟩, .int .i64 0, .int .i64 0, .bool false, .string ⟨#[]⟩, .float .f64 0] 27)) = wy at *
      obtain ⟨q0, q1, q2, q3, q4, q5, q6, q7, y0, y1, y2, y3, y4, y5, y6, y7, hzq⟩ := op8 R9
      obtain ⟨LS1, XS1⟩ := st8 R9 (.int .i64 0) (.slice none 0 0) (.string ⟨#[]⟩) (.int .i64 0) (.int .i64 0) (.bool false) (.string ⟨#[]⟩) (.float .f64 0)
      have hY := ext_off X9 XS1 (Nat.le_refl _)
      have HF := Lib.hid hY
      obtain ⟨v0, v1, v2, v3, v4, v5, v6, v7⟩ := cells8 LS1
      clear LS1 XS1 hY
      go_wp21
      rw [E1.out]
      exact bodyPost_ret (v := .tuple #[.agg #[.int .i64 0, .slice none 0 0, .string ⟨#[]⟩, .int .i64 0, .int .i64 0, .bool false, .string ⟨#[]⟩, .float .f64 0], .int .i64 0, .int .i64 x]) (by simp [results, Try.results43, go_sem, v0, v1, v2, v3, v4, v5, v6, v7]) rfl ⟨rfl, HF.out⟩
    | ok q =>
    rw [hx] at HC
    obtain ⟨e, M2, s6⟩ := q
    have hgn := Lib.hid (show gI (gX d) (N - 1) s4 (i + 1) = .ok (l ++ [e], M2, s6) by rw [gI, hgr.out]; show (match gX d M s5 with | .error x => _ | .ok q => _) = _; rw [hx])
    have hl3 := Lib.hid (show l.length = i from gI_len hgr.out)
    clear hx
    go_wp2_with fail
    refine HC.out.mono ?_
    rintro x9 wz ⟨⟨cs, rfl, hR, hrz⟩, hxz⟩
    obtain ⟨k1, B1, d1, -, rfl, -⟩ := exp_open hR
    have J1 := J.call hrz hxz hgw
    have LE1 := loc_ext hxz (by omega) LE
    have HO1 := Lib.hid (show Own (kExp d) 27 (fun k => w10.heap.size ≤ k) wz w10.heap.size (.slice Ak nk ck) l from HO.out.ext (hxz.weak fun k _ hk => by
      rcases hk with hk | hk
      · have hk' : w10.heap.size ≤ k := hk
        omega
      · have hk' := (HO.out.lt k hk.symm).1
        omega))
    have hsz := hxz.size
    clear m0 m1 m2 m3 m4 m5 m6 m7 LE HC J hrz hxz
    go_upto_region 20 with (fail)
    have LK : Loc1 wz.heap.size 27 #[.int .i64 e.op, .slice B1 e.kids.length d1, .string ⟨e.name.toArray⟩, .int .i64 e.val.kind, .int .i64 e.val.int, .bool e.val.bool, .string ⟨e.val.text.toArray⟩, .float .f64 e.val.num] (wz.alloc (.cells #[.int .i64 e.op, .slice B1 e.kids.length d1, .string ⟨e.name.toArray⟩, .int .i64 e.val.kind, .int .i64 e.val.int, .bool e.val.bool, .string ⟨e.val.text.toArray⟩, .float .f64 e.val.num] 27)) := Loc1.new _ _ _
    have BK : Below wz.heap.size wz (wz.alloc (.cells #[.int .i64 e.op, .slice B1 e.kids.length d1, .string ⟨e.name.toArray⟩, .int .i64 e.val.kind, .int .i64 e.val.int, .bool e.val.bool, .string ⟨e.val.text.toArray⟩, .float .f64 e.val.num] 27)) := bW
    have J2 := J1.below BK
    have LE2 := LE1.bel BK
    have HO2 := Lib.hid (HO1.out.below BK)
    have hR2 := Kd.below hR BK
    have hsz2 : wz.heap.size ≤ (wz.alloc (.cells #[.int .i64 e.op, .slice B1 e.kids.length d1, .string ⟨e.name.toArray⟩, .int .i64 e.val.kind, .int .i64 e.val.int, .bool e.val.bool, .string ⟨e.val.text.toArray⟩, .float .f64 e.val.num] 27)).heap.size := BK.size
    clear J1 LE1 HO1 hR BK
    generalize (wz.alloc (.cells #[.int .i64 e.op, .slice B1 e.kids.length d1, .string ⟨e.name.toArray⟩, .int .i64 e.val.kind, .int .i64 e.val.int, .bool e.val.bool, .string ⟨e.val.text.toArray⟩, .float .f64 e.val.num] 27)) = wk at *
    obtain ⟨k0, k1, k2, k3, k4, k5, k6, k7⟩ := cells8 LK
    have hzk := lt_of_heap LK
    have m1 := cell_of LE2 1
    have u1 := free_of LE2 1
    have hze := lt_of_heap LE2
    simp only [List.getElem?_toArray, List.getElem?_cons_zero, List.getElem?_cons_succ] at m1
    have AB := Lib.hid (append_fresh (P := Try.prog) (d := kExp d) (e := 27) (t := 22) (tx := 22) (ty := 22) (w := wk) (base := w10.heap.size) (b0 := wo.heap.size) Try.underlying22 Try.underlying22 (infoExp d) (by rw [kExp_sz]; rfl) HO2.out (by omega) hR2 hws (fun k hk => (HO.out.lt k hk).2) (by have := hl3.out; omega) (by have := hl3.out; omega))
    clear hR2
    go_wp2_with (at_builtin; refine at_append rfl (.tmp 76) (.tmp 78) 22 22 rfl rfl rfl AB.out ?_; rintro v' w'' ⟨ho2, hg2⟩; obtain ⟨A9, n9, c9, rfl, hn9⟩ := ho2.form'; have hL9 := (show Loc1 eb 27 #[.int .i64 o, .slice Ak nk ck, .string ⟨nm.toArray⟩, .int .i64 v.kind, .int .i64 v.int, .bool v.bool, .string ⟨v.text.toArray⟩, .float .f64 v.num] w'' from (hg2.block eb (lt_of_heap LE2) (fun e => by have := (HO.out.lt eb e.symm).1; omega)).trans LE2); have m1w := cell_of hL9 1; have u1w := free_of hL9 1; have HN9 := Lib.hid hn9; have HO3 := Lib.hid ho2; have HG2 := Lib.hid hg2; clear ho2 hg2 hn9)
    have XG : Ext (fun k => k < w10.heap.size) wk w'' := ⟨HG2.out.os, HG2.out.tape, HG2.out.output, HG2.out.size, fun k hk hkb => HG2.out.block k hk (fun e => by have := (HO.out.lt k e.symm).1; omega)⟩
    have JF := (J2.grown XG (by omega) hgw).off (ext_set_ne (Ext.refl (fun k => k ≠ eb) w'') 1 (.slice A9 n9 c9)) hE hgw
    have LEF : Loc1 eb 27 #[.int .i64 o, .slice A9 n9 c9, .string ⟨nm.toArray⟩, .int .i64 v.kind, .int .i64 v.int, .bool v.bool, .string ⟨v.text.toArray⟩, .float .f64 v.num] (w''.setCell ⟨eb, 1, none⟩ (.slice A9 n9 c9)) := by have := heap_set hL9 1 (.slice A9 n9 c9); unfold Loc1; simpa using this
    have OF := HO3.out.ext (ext_set_keep (w := w'') (b := eb) (i := 1) (v := .slice A9 n9 c9) (fun k hk => by
      rcases hk with hk | hk
      · have hk' : w10.heap.size ≤ k := hk
        omega
      · have hk' := (HO3.out.lt k hk.symm).1
        omega))
    have hwf : w10.heap.size ≤ (w''.setCell ⟨eb, 1, none⟩ (.slice A9 n9 c9)).heap.size := by
      rw [World.size_setCell]
      have h1 := XG.size
      omega
    go_roundw
    case rel => exact ⟨i + 1, l ++ [e], M2, s6, _, by omega, by go_num, rfl, hgn.out, JF, LEF, OF, hwf⟩
    case measure => simp [intOf]; omega
theorem qgetX_c : ∀ d, d ≤ 6 → QGetX d
  | 0, h => qgetX_s h fun d' h' => by omega
  | d + 1, h => qgetX_s h fun d' h' => by
    have : d' = d := by omega
    subst this
    exact qgetX_c d' (by omega)
end Go.Proofs.Ytijlamajcdekkaa

/- The references' expressions, read: Get. And what is read one by one. -/
namespace Go.Proofs.Ytijlamajcdekkaa
open Go.RowKit
set_option linter.unusedVariables false
set_option linter.unusedSimpArgs false
/-- what stays while something is read: the reader g; nothing else has turned -/
structure QL (ok : Nat → Prop) (w : World) (g : Nat) (s : RS) (W : World) : Prop where
  rd : RdQ (fun k => ok k ∧ k < w.heap.size) g W s.1 s.2
  ext : Ext (fun k => k ≠ g) w W
section
variable {ok : Nat → Prop} {w W W' : World} {g : Nat} {s s' : RS}
theorem QL.start (h : RdQ ok g w s.1 s.2) : QL ok w g s w := ⟨h.bound, Ext.refl _ _⟩
theorem QL.below (h : QL ok w g s W) (hb : Below W.heap.size W W') : QL ok w g s W' := ⟨h.rd.below hb, h.ext.trans (Below.ext hb _)⟩
theorem QL.call (h : QL ok w g s W) (hr : RdQ (fun k => ok k ∧ k < w.heap.size) g W' s'.1 s'.2) (hx : Ext (fun k => k ≠ g) W W') : QL ok w g s' W' := ⟨hr, h.ext.trans hx⟩
theorem QL.off {b : Nat} (h : QL ok w g s W) (hx : Ext (fun k => k ≠ b) W W') (hb : w.heap.size ≤ b) (hg : g < w.heap.size) : QL ok w g s W' :=
  ⟨h.rd.off hx ⟨by omega, fun k hk => by have := hk.2; omega⟩, ext_off h.ext hx (by omega)⟩
theorem QL.grown {B : Nat} (h : QL ok w g s W) (x : Ext (fun k => k < B) W W') (hB : w.heap.size ≤ B) (hg : g < w.heap.size) : QL ok w g s W' :=
  ⟨h.rd.grown x (by omega) (fun k hk => by have := hk.2; omega),
    ⟨x.os.trans h.ext.os, x.tape.trans h.ext.tape, x.output.trans h.ext.output, Nat.le_trans h.ext.size x.size, fun k hk ho => (x.block k (Nat.lt_of_lt_of_le hk h.ext.size) (by omega)).trans (h.ext.block k hk ho)⟩⟩
theorem QL.fin (h : QL ok w g s W) : RdQ ok g W s.1 s.2 := h.rd.weak fun k hk => hk.1
theorem QL.e (h : QL ok w g s W) : W.cell? ⟨g, 2, none⟩ = some (.int .i64 s.2) := h.rd.e
end
section
variable {ok : Nat → Prop} {w : World}
def RetGEq (ok : Nat → Prop) (g : Nat) (w : World) (r : Except Int (Exp × RS)) (e : Ending) (w' : World) : Prop :=
  (match r with
    | .ok p => ∃ cs : List Value, e = .returned (.tuple #[.agg cs.toArray, .int .i64 0]) ∧ (kExp 6).R (fun k => w.heap.size ≤ k) w' cs p.1 ∧ RdQ ok g w' p.2.1 p.2.2
    | .error x => e = .returned (.tuple #[.agg #[.int .i64 0, .slice none 0 0, .string ⟨#[]⟩, .int .i64 0, .int .i64 0, .bool false, .string ⟨#[]⟩, .float .f64 0], .int .i64 x])) ∧ Ext (fun k => k ≠ g) w w'
set_option maxRecDepth 20000 in
set_option maxHeartbeats 8000000 in
theorem qeget_c (g : Nat) (s : RS) (h : RdQ ok g w s.1 s.2) : Calls Try.prog 23 #[.pointer (some ⟨g, 0, none⟩)] w (RetGEq ok g w (gE s)) := by
  have SF := store_f64
  have hgw := h.lt
  have J0 : QJ ok w g 27 #[.int .i64 0, .slice none 0 0, .string ⟨#[]⟩, .int .i64 0, .int .i64 0, .bool false, .string ⟨#[]⟩, .float .f64 0] s (w.alloc (.cells #[.int .i64 0, .slice none 0 0, .string ⟨#[]⟩, .int .i64 0, .int .i64 0, .bool false, .string ⟨#[]⟩, .float .f64 0] 27)) := QJ.start h
  have hz0 := J0.lt
  have E := Lib.hid (show gE s = if s.2 ≠ 0 then .error s.2 else match gX 6 24 s with | .error x => .error x | .ok p => .ok (p.1, p.2.2) from rfl)
  generalize gE s = r at *
  clear h
  go_enter Try.func23, Try.ntmps23
  go_upto_region 1 with (fail)
  generalize (w.alloc (.cells #[.int .i64 0, .slice none 0 0, .string ⟨#[]⟩, .int .i64 0, .int .i64 0, .bool false, .string ⟨#[]⟩, .float .f64 0] 27)) = w0 at *
  have he0 := J0.e
  by_cases he : s.2 = 0
  rotate_left
  · have he1 : (s.2 != 0) = true := by simpa using he
    have E1 := Lib.hid (show r = .error s.2 by rw [E.out, if_pos he])
    clear he
    go_upto_region 2 with (fail)
    obtain ⟨q0, q1, q2, q3, q4, q5, q6, q7, y0, y1, y2, y3, y4, y5, y6, y7, hzq⟩ := op8 J0.res
    obtain ⟨LS1, XS1⟩ := st8 J0.res (.int .i64 0) (.slice none 0 0) (.string ⟨#[]⟩) (.int .i64 0) (.int .i64 0) (.bool false) (.string ⟨#[]⟩) (.float .f64 0)
    obtain ⟨hR, hY⟩ := J0.fin XS1 hgw
    have HF := Lib.hid (And.intro hR hY)
    obtain ⟨v0, v1, v2, v3, v4, v5, v6, v7⟩ := cells8 LS1
    clear LS1 XS1 hR hY
    go_region
    all_goals
      go_wp21
      rw [E1.out]
      exact bodyPost_ret (v := .tuple #[.agg #[.int .i64 0, .slice none 0 0, .string ⟨#[]⟩, .int .i64 0, .int .i64 0, .bool false, .string ⟨#[]⟩, .float .f64 0], .int .i64 s.2]) (by simp [results, Try.results23, go_sem, v0, v1, v2, v3, v4, v5, v6, v7]) rfl ⟨rfl, HF.out.2.trans (ext_drew _ _)⟩
  have he1 : (s.2 != 0) = false := by simpa using he
  replace E := Lib.hid (show r = match gX 6 24 s with | .error x => .error x | .ok p => .ok (p.1, p.2.2) by rw [E.out, if_neg (by simpa using he)])
  clear he
  have C1 := Lib.hid (qgetX_c 6 (Nat.le_refl _) _ w0 g 24 s J0.rd (by decide))
  cases hx : gX 6 24 s with
  | error x =>
    rw [hx] at C1 E
    go_wp2_with fail
    refine C1.out.mono ?_
    rintro x9 w1 ⟨hbd, hx1⟩
    have hbd : x9 = .returned (.tuple #[.agg #[.int .i64 0, .slice none 0 0, .string ⟨#[]⟩, .int .i64 0, .int .i64 0, .bool false, .string ⟨#[]⟩, .float .f64 0], .int .i64 0, .int .i64 x]) := hbd
    subst hbd
    have R1 : Loc1 w.heap.size 27 #[.int .i64 0, .slice none 0 0, .string ⟨#[]⟩, .int .i64 0, .int .i64 0, .bool false, .string ⟨#[]⟩, .float .f64 0] w1 := loc_ext hx1 (by omega) J0.res
    have X1 := J0.ext.trans hx1
    clear he0 C1 J0
    go_upto_region 4 with (fail)
    have R2 : Loc1 w.heap.size 27 #[.int .i64 0, .slice none 0 0, .string ⟨#[]⟩, .int .i64 0, .int .i64 0, .bool false, .string ⟨#[]⟩, .float .f64 0] (w1.alloc (.cells #[.int .i64 0, .slice none 0 0, .string ⟨#[]⟩, .int .i64 0, .int .i64 0, .bool false, .string ⟨#[]⟩, .float .f64 0] 27)) := R1.al _
    have K2 : Loc1 w1.heap.size 27 #[.int .i64 0, .slice none 0 0, .string ⟨#[]⟩, .int .i64 0, .int .i64 0, .bool false, .string ⟨#[]⟩, .float .f64 0] (w1.alloc (.cells #[.int .i64 0, .slice none 0 0, .string ⟨#[]⟩, .int .i64 0, .int .i64 0, .bool false, .string ⟨#[]⟩, .float .f64 0] 27)) := Loc1.new _ _ _
    have X2 : Ext (fun k => k ≠ g) w (w1.alloc (.cells #[.int .i64 0, .slice none 0 0, .string ⟨#[]⟩, .int .i64 0, .int .i64 0, .bool false, .string ⟨#[]⟩, .float .f64 0] 27)) := X1.trans (ext_alloc _ _ _)
    clear R1 X1
    generalize (w1.alloc (.cells #[.int .i64 0, .slice none 0 0, .string ⟨#[]⟩, .int .i64 0, .int .i64 0, .bool false, .string ⟨#[]⟩, .float .f64 0] 27)) = w2 at *
    obtain ⟨q0, q1, q2, q3, q4, q5, q6, q7, y0, y1, y2, y3, y4, y5, y6, y7, hzq⟩ := op8 R2
    obtain ⟨k0, k1, k2, k3, k4, k5, k6, k7⟩ := cells8 K2
    obtain ⟨LS1, XS1⟩ := st8 R2 (.int .i64 0) (.slice none 0 0) (.string ⟨#[]⟩) (.int .i64 0) (.int .i64 0) (.bool false) (.string ⟨#[]⟩) (.float .f64 0)
    have HF := Lib.hid (ext_off X2 XS1 (Nat.le_refl _))
    obtain ⟨v0, v1, v2, v3, v4, v5, v6, v7⟩ := cells8 LS1
    clear LS1 XS1 X2 R2 K2
    go_wp21
    rw [E.out]
    exact bodyPost_ret (v := .tuple #[.agg #[.int .i64 0, .slice none 0 0, .string ⟨#[]⟩, .int .i64 0, .int .i64 0, .bool false, .string ⟨#[]⟩, .float .f64 0], .int .i64 x]) (by simp [results, Try.results23, go_sem, v0, v1, v2, v3, v4, v5, v6, v7]) rfl ⟨rfl, HF.out⟩
  | ok p =>
    rw [hx] at C1 E
    obtain ⟨e, M, s2⟩ := p
    go_wp2_with fail
    refine C1.out.mono ?_
    rintro x9 w1 ⟨⟨cs, rfl, hR, hr1⟩, hx1⟩
    obtain ⟨k1, B1, d1, -, rfl, hks⟩ := exp_open hR
    have J1 := J0.call hr1 hx1 hgw
    have hsz := hx1.size
    simp only at hks
    clear he0 C1 J0 hr1 hx1
    go_upto_region 4 with (fail)
    have BK : Below w1.heap.size w1 (w1.alloc (.cells #[.int .i64 e.op, .slice B1 e.kids.length d1, .string ⟨e.name.toArray⟩, .int .i64 e.val.kind, .int .i64 e.val.int, .bool e.val.bool, .string ⟨e.val.text.toArray⟩, .float .f64 e.val.num] 27)) := bW
    have J2 := J1.below BK
    have K2 : Loc1 w1.heap.size 27 #[.int .i64 e.op, .slice B1 e.kids.length d1, .string ⟨e.name.toArray⟩, .int .i64 e.val.kind, .int .i64 e.val.int, .bool e.val.bool, .string ⟨e.val.text.toArray⟩, .float .f64 e.val.num] (w1.alloc (.cells #[.int .i64 e.op, .slice B1 e.kids.length d1, .string ⟨e.name.toArray⟩, .int .i64 e.val.kind, .int .i64 e.val.int, .bool e.val.bool, .string ⟨e.val.text.toArray⟩, .float .f64 e.val.num] 27)) := Loc1.new _ _ _
    have hR2 := Kd.below hR BK
    clear J1 BK hR
    generalize (w1.alloc (.cells #[.int .i64 e.op, .slice B1 e.kids.length d1, .string ⟨e.name.toArray⟩, .int .i64 e.val.kind, .int .i64 e.val.int, .bool e.val.bool, .string ⟨e.val.text.toArray⟩, .float .f64 e.val.num] 27)) = w2 at *
    obtain ⟨q0, q1, q2, q3, q4, q5, q6, q7, y0, y1, y2, y3, y4, y5, y6, y7, hzq⟩ := op8 J2.res
    obtain ⟨k0, k1, k2, k3, k4, k5, k6, k7⟩ := cells8 K2
    obtain ⟨LS1, XS1⟩ := st8 J2.res (.int .i64 e.op) (.slice B1 e.kids.length d1) (.string ⟨e.name.toArray⟩) (.int .i64 e.val.kind) (.int .i64 e.val.int) (.bool e.val.bool) (.string ⟨e.val.text.toArray⟩) (.float .f64 e.val.num)
    obtain ⟨hR3, hY⟩ := J2.fin XS1 hgw
    have HF := Lib.hid (And.intro hR3 hY)
    have HE := Lib.hid ((kExp 6).weak (ok' := fun k => w.heap.size ≤ k) (Kd.ext (d := kExp 6) hR2 (XS1.weak fun k _ hk => by have : w0.heap.size ≤ k := hk; omega)) fun k hk => by have : w0.heap.size ≤ k := hk; omega)
    obtain ⟨v0, v1, v2, v3, v4, v5, v6, v7⟩ := cells8 LS1
    clear LS1 XS1 hR3 hY K2 J2 hR2
    go_wp21
    rw [E.out]
    exact bodyPost_ret (v := .tuple #[.agg #[.int .i64 e.op, .slice B1 e.kids.length d1, .string ⟨e.name.toArray⟩, .int .i64 e.val.kind, .int .i64 e.val.int, .bool e.val.bool, .string ⟨e.val.text.toArray⟩, .float .f64 e.val.num], .int .i64 0]) (by simp [results, Try.results23, go_sem, v0, v1, v2, v3, v4, v5, v6, v7]) rfl ⟨⟨_, rfl, HE.out, HF.out.1⟩, HF.out.2⟩
end
end Go.Proofs.Ytijlamajcdekkaa
