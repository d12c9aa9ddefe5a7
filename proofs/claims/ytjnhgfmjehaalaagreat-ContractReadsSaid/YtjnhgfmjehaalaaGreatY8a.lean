/- The references' contracts, read: moves, the first region. -/
import Derived.Test.YtjnhgfmjehaalaaGreatY7
namespace Go.Proofs.YtjnhgfmjehaalaaGreat
open Go.RowKit
set_option linter.unusedVariables false
set_option linter.unusedSimpArgs false
set_option maxRecDepth 20000 in
set_option maxHeartbeats 20000000 in
theorem qmove_r1 {ok : Nat → Prop} {w w0 : World} {g : Nat} {nm : List UInt8} {k1 k2 k3 : Int} {s s1 s2 s3 s4 : RS} {K : Act → World → Prop} {Q : Exit → Act → World → Prop} (J : QL ok w g s w0) (LR : Loc1 w.heap.size 47 #[.string ⟨#[]⟩, .int .i64 0, .int .i64 0, .int .i64 0, .slice none 0 0, .string ⟨#[]⟩, .int .i64 0, .int .i64 0, .bool false, .string ⟨#[]⟩, .float .f64 0, .slice none 0 0, .int .i64 0] w0) (hgw : g < w.heap.size) (HB : Hid (∀ (W : World), RdQ (fun k => ok k ∧ k < w.heap.size) g W s.1 s.2 → Calls Tryz.prog 82 #[.pointer (some ⟨g, 0, none⟩), .int .i64 16] W (fun e w' => ∃ v, e = .returned v ∧ Own kU8 5 (fun k => ok k ∧ k < w.heap.size) w' W.heap.size v nm ∧ RdQ (fun k => ok k ∧ k < w.heap.size) g w' s1.1 s1.2 ∧ Ext (fun k => k ≠ g) W w'))) (HI1 : Hid (∀ (W : World), RdQ (fun k => ok k ∧ k < w.heap.size) g W s1.1 s1.2 → Calls Tryz.prog 140 #[.pointer (some ⟨g, 0, none⟩)] W (Rq (fun k => ok k ∧ k < w.heap.size) g W (.int .i64 k1) s2))) (HI2 : Hid (∀ (W : World), RdQ (fun k => ok k ∧ k < w.heap.size) g W s2.1 s2.2 → Calls Tryz.prog 140 #[.pointer (some ⟨g, 0, none⟩)] W (Rq (fun k => ok k ∧ k < w.heap.size) g W (.int .i64 k2) s3))) (HI3 : Hid (∀ (W : World), RdQ (fun k => ok k ∧ k < w.heap.size) g W s3.1 s3.2 → Calls Tryz.prog 140 #[.pointer (some ⟨g, 0, none⟩)] W (Rq (fun k => ok k ∧ k < w.heap.size) g W (.int .i64 k3) s4)))
 (hQ : ∀ c (d : Option Tmp) (v : Value) a w, Q (.panic c) (a.put d v) w → Q (.panic c) a w) (hK : ∀ (W : World) (fb : Nat) (u12 u13 u14 u15 u16 u17 u18 u19 u20 u21 : Value), Loc1 fb 47 #[.string ⟨nm.toArray⟩, .int .i64 k1, .int .i64 k2, .int .i64 0, .slice none 0 0, .string ⟨#[]⟩, .int .i64 0, .int .i64 0, .bool false, .string ⟨#[]⟩, .float .f64 0, .slice none 0 0, .int .i64 k3] W → QL ok w g s4 W → Loc1 w.heap.size 47 #[.string ⟨#[]⟩, .int .i64 0, .int .i64 0, .int .i64 0, .slice none 0 0, .string ⟨#[]⟩, .int .i64 0, .int .i64 0, .bool false, .string ⟨#[]⟩, .float .f64 0, .slice none 0 0, .int .i64 0] W → w.heap.size < fb → K { tmps := #[.pointer (some ⟨g, 0, none⟩), undef, .pointer (some ⟨w.heap.size, 0, none⟩), .int .i64 0, .pointer (some ⟨fb, 0, none⟩), undef, undef, undef, undef, undef, undef, undef, u12, u13, u14, u15, u16, u17, u18, u19, u20, u21, undef, undef, undef, undef, undef, undef, undef, undef, undef, undef, undef, undef, undef, undef, undef, undef, undef, undef, undef, undef, undef, undef, undef, undef, undef, undef, undef, undef, undef, undef, undef, undef, undef, undef, undef, undef, undef, undef, undef, undef, undef, undef, undef, undef, undef, undef, undef, undef, undef, undef, undef, undef, undef, undef, undef, undef, undef, undef, undef, undef, undef, undef, undef], defers := [] } W) : Code.wp Tryz.prog (Code.region 1 #[{ dst := some 12, op := Op.move (Operand.tmp 0), type := 56, pos := "ref.go:202", after := #[], guard := none }, { dst := some 13, op := Op.call { callee := Callee.value (Operand.func 82), args := #[Operand.tmp 12, Operand.const (Value.int IntKind.i64 16)], argTypes := #[56, 3] }, type := 29, pos := "ref.go:202", after := #[{ on := 0, ground := Ground.data }], guard := none }, { dst := some 14, op := Op.convert 29 9 (Operand.tmp 13), type := 9, pos := "ref.go:202", after := #[{ on := 1, ground := Ground.data }], guard := none }, { dst := some 15, op := Op.move (Operand.tmp 0), type := 56, pos := "ref.go:202", after := #[], guard := none }, { dst := some 16, op := Op.call { callee := Callee.value (Operand.func 140), args := #[Operand.tmp 15], argTypes := #[56] }, type := 2, pos := "ref.go:202", after := #[{ on := 3, ground := Ground.data }, { on := 1, ground := Ground.chain }], guard := none }, { dst := some 17, op := Op.move (Operand.tmp 0), type := 56, pos := "ref.go:202", after := #[], guard := none }, { dst := some 18, op := Op.call { callee := Callee.value (Operand.func 140), args := #[Operand.tmp 17], argTypes := #[56] }, type := 2, pos := "ref.go:202", after := #[{ on := 5, ground := Ground.data }, { on := 4, ground := Ground.chain }], guard := none }, { dst := some 19, op := Op.move (Operand.tmp 0), type := 56, pos := "ref.go:202", after := #[], guard := none }, { dst := some 20, op := Op.call { callee := Callee.value (Operand.func 140), args := #[Operand.tmp 19], argTypes := #[56] }, type := 2, pos := "ref.go:202", after := #[{ on := 7, ground := Ground.data }, { on := 6, ground := Ground.chain }], guard := none }, { dst := some 21, op := Op.build 47 #[(0, Operand.tmp 14), (1, Operand.tmp 16), (2, Operand.tmp 18), (5, Operand.tmp 20)], type := 47, pos := "ref.go:202", after := #[{ on := 2, ground := Ground.data }, { on := 4, ground := Ground.data }, { on := 6, ground := Ground.data }, { on := 8, ground := Ground.data }], guard := none }, { dst := some 4, op := Op.alloc 47, type := 0, pos := "ref.go:202", after := #[], guard := none }, { dst := none, op := Op.store 47 (Operand.tmp 4) (Operand.tmp 21), type := 0, pos := "ref.go:202", after := #[{ on := 10, ground := Ground.data }, { on := 9, ground := Ground.data }, { on := 8, ground := Ground.chain }, { on := 0, ground := Ground.phase }, { on := 1, ground := Ground.phase }, { on := 2, ground := Ground.phase }, { on := 3, ground := Ground.phase }, { on := 4, ground := Ground.phase }, { on := 5, ground := Ground.phase }, { on := 6, ground := Ground.phase }, { on := 7, ground := Ground.phase }, { on := 8, ground := Ground.phase }, { on := 9, ground := Ground.phase }, { on := 10, ground := Ground.phase }], guard := none }] true) (Exit.then K Q) { tmps := #[.pointer (some ⟨g, 0, none⟩), undef, .pointer (some ⟨w.heap.size, 0, none⟩), .int .i64 0, undef, undef, undef, undef, undef, undef, undef, undef, undef, undef, undef, undef, undef, undef, undef, undef, undef, undef, undef, undef, undef, undef, undef, undef, undef, undef, undef, undef, undef, undef, undef, undef, undef, undef, undef, undef, undef, undef, undef, undef, undef, undef, undef, undef, undef, undef, undef, undef, undef, undef, undef, undef, undef, undef, undef, undef, undef, undef, undef, undef, undef, undef, undef, undef, undef, undef, undef, undef, undef, undef, undef, undef, undef, undef, undef, undef, undef, undef, undef, undef, undef], defers := [] } w0 := by
 have SF := store_f64
 refine wp_region_held_drew (S := fun W => True) (by kernel_rfl) trivial (fun hHeld => ?_)
 replace J := J.below (show Below w0.heap.size w0 w0.drew from bW)
 replace LR := LR.dr
 clear hHeld
 have hHeld : True := trivial
 generalize hwd : w0.drew = wd at *
 clear hwd
 refine takeG 0 12 (.pointer (some ⟨g, 0, none⟩)) rfl rfl (by kernel_rfl) (fun c a w h => hQ c _ _ a w h) (Or.inl ⟨by rfl, by (intro wz hSw; (try dsimp only at hSw); go_simp)⟩) (by assumption) ?_
 try simp only [Act.put, nrmA, nrmZ, nrmS]
 refine takeG 3 15 (.pointer (some ⟨g, 0, none⟩)) rfl rfl (by kernel_rfl) (fun c a w h => hQ c _ _ a w h) (Or.inl ⟨by rfl, by (intro wz hSw; (try dsimp only at hSw); go_simp)⟩) (by assumption) ?_
 try simp only [Act.put, nrmA, nrmZ, nrmS]
 refine takeG 5 17 (.pointer (some ⟨g, 0, none⟩)) rfl rfl (by kernel_rfl) (fun c a w h => hQ c _ _ a w h) (Or.inl ⟨by rfl, by (intro wz hSw; (try dsimp only at hSw); go_simp)⟩) (by assumption) ?_
 try simp only [Act.put, nrmA, nrmZ, nrmS]
 refine takeG 7 19 (.pointer (some ⟨g, 0, none⟩)) rfl rfl (by kernel_rfl) (fun c a w h => hQ c _ _ a w h) (Or.inl ⟨by rfl, by (intro wz hSw; (try dsimp only at hSw); go_simp)⟩) (by assumption) ?_
 try simp only [Act.put, nrmA, nrmZ, nrmS]
 refine rd2 1 10 rfl rfl (by kernel_rfl) (fun K hK => ?_) fun K hK => ?_
 ·skip
  go_simp
  refine (HB.out _ J.rd).mono ?_
  rintro x9 wq1 ⟨v5, rfl, ho5, hrq, hxq⟩
  obtain ⟨Av, nv, cv, rfl, -⟩ := ho5.form'
  have hgv : g < wd.heap.size := J.rd.lt
  replace J := J.call hrq hxq
  replace LR := loc_ext hxq (by omega) LR
  clear hrq hxq
  refine hK.out _ _ trivial (fun hHeld => ?_)
  clear hK K
  try simp only [Act.put, nrmA, nrmZ, nrmS]
  refine wpAnyH_ready (rs := [2, 4, 10]) (by kernel_rfl) (by simp) ?_
  refine (AllReadyH.cons rfl (fun K hK => ?_) (AllReadyH.cons rfl (fun K hK => ?_) (AllReadyH.cons rfl (fun K hK => ?_) AllReadyH.nil)))
  ·skip
   have CV := conv_vs (P := Tryz.prog) ((own_u8 (ok' := fun _ => True) ho5).sl fun _ _ => trivial) 29 9 5 Tryz.underlying29 Tryz.underlying5 Tryz.underlying9
   go_simp
   clear CV
   refine hK.out _ _ trivial (fun hHeld => ?_)
   clear hK K
   try simp only [Act.put, nrmA, nrmZ, nrmS]
   refine rd2 4 10 rfl rfl (by kernel_rfl) (fun K hK => ?_) fun K hK => ?_
   ·skip
    go_simp
    refine (HI1.out _ J.rd).mono ?_
    rintro x9 wq2 ⟨rfl, hrq, hxq⟩
    replace J := J.call hrq hxq
    replace LR := loc_ext hxq (by omega) LR
    replace ho5 := own_u8_far ho5 hgv hxq
    clear hrq hxq
    refine hK.out _ _ trivial (fun hHeld => ?_)
    clear hK K
    try simp only [Act.put, nrmA, nrmZ, nrmS]
    refine rd2 6 10 rfl rfl (by kernel_rfl) (fun K hK => ?_) fun K hK => ?_
    ·skip
     go_simp
     refine (HI2.out _ J.rd).mono ?_
     rintro x9 wq3 ⟨rfl, hrq, hxq⟩
     replace J := J.call hrq hxq
     replace LR := loc_ext hxq (by omega) LR
     replace ho5 := own_u8_far ho5 hgv hxq
     clear hrq hxq
     refine hK.out _ _ trivial (fun hHeld => ?_)
     clear hK K
     try simp only [Act.put, nrmA, nrmZ, nrmS]
     refine rd2 8 10 rfl rfl (by kernel_rfl) (fun K hK => ?_) fun K hK => ?_
     ·skip
      go_simp
      refine (HI3.out _ J.rd).mono ?_
      rintro x9 wq4 ⟨rfl, hrq, hxq⟩
      replace J := J.call hrq hxq
      replace LR := loc_ext hxq (by omega) LR
      replace ho5 := own_u8_far ho5 hgv hxq
      clear hrq hxq
      refine hK.out _ _ trivial (fun hHeld => ?_)
      clear hK K
      try simp only [Act.put, nrmA, nrmZ, nrmS]
      refine takeG 9 21 (.agg #[.string ⟨nm.toArray⟩, .int .i64 k1, .int .i64 k2, .int .i64 0, .slice none 0 0, .string ⟨#[]⟩, .int .i64 0, .int .i64 0, .bool false, .string ⟨#[]⟩, .float .f64 0, .slice none 0 0, .int .i64 k3]) rfl rfl (by kernel_rfl) (fun c a w h => hQ c _ _ a w h) (Or.inl ⟨by rfl, by (intro wz hSw; (try dsimp only at hSw); go_simp)⟩) (by assumption) ?_
      try simp only [Act.put, nrmA, nrmZ, nrmS]
      refine rd1 10 rfl (by kernel_rfl) fun K hK => ?_
      go_simp
      have LF := Loc1.new wq4 47 #[.string ⟨#[]⟩, .int .i64 0, .int .i64 0, .int .i64 0, .slice none 0 0, .string ⟨#[]⟩, .int .i64 0, .int .i64 0, .bool false, .string ⟨#[]⟩, .float .f64 0, .slice none 0 0, .int .i64 0]
      have hbLF : w.heap.size < wq4.heap.size := (by have := lt_of_heap LR; omega)
      have BA : Below wq4.heap.size wq4 (wq4.alloc (.cells #[.string ⟨#[]⟩, .int .i64 0, .int .i64 0, .int .i64 0, .slice none 0 0, .string ⟨#[]⟩, .int .i64 0, .int .i64 0, .bool false, .string ⟨#[]⟩, .float .f64 0, .slice none 0 0, .int .i64 0] 47)) := bW
      replace J := J.below BA
      replace LR := LR.bel BA
      replace ho5 := ho5.below BA
      clear BA
      generalize hWq : (wq4.alloc (.cells #[.string ⟨#[]⟩, .int .i64 0, .int .i64 0, .int .i64 0, .slice none 0 0, .string ⟨#[]⟩, .int .i64 0, .int .i64 0, .bool false, .string ⟨#[]⟩, .float .f64 0, .slice none 0 0, .int .i64 0] 47)) = wq5 at *
      clear hWq
      refine hK.out _ _ trivial (fun hHeld => ?_)
      clear hK K
      try simp only [Act.put, nrmA, nrmZ, nrmS]
      refine rd1 11 rfl (by kernel_rfl) fun K hK => ?_
      obtain ⟨m0, m1, m2, m3, m4, m5, m6, m7, m8, m9, m10, m11, m12, u0, u1, u2, u3, u4, u5, u6, u7, u8, u9, u10, u11, u12, hzm⟩ := op13 LF
      go_simp
      obtain ⟨LS1, XS1⟩ := st13 LF (.string ⟨nm.toArray⟩) (.int .i64 k1) (.int .i64 k2) (.int .i64 0) (.slice none 0 0) (.string ⟨#[]⟩) (.int .i64 0) (.int .i64 0) (.bool false) (.string ⟨#[]⟩) (.float .f64 0) (.slice none 0 0) (.int .i64 k3)
      refine hK.out _ _ trivial (fun hHeld => ?_)
      clear hK K
      try simp only [Act.put, nrmA, nrmZ, nrmS]
      refine wpAnyH_done (by kernel_rfl) ?_ _
      simp only [Exit.then]
      exact hK _ _ _ _ _ _ _ _ _ _ _ _ LS1 (J.off XS1 (by omega) hgw) (loc_ext XS1 (by omega) LR) hbLF
     ·skip
      go_simp
      have LF := Loc1.new wq3 47 #[.string ⟨#[]⟩, .int .i64 0, .int .i64 0, .int .i64 0, .slice none 0 0, .string ⟨#[]⟩, .int .i64 0, .int .i64 0, .bool false, .string ⟨#[]⟩, .float .f64 0, .slice none 0 0, .int .i64 0]
      have hbLF : w.heap.size < wq3.heap.size := (by have := lt_of_heap LR; omega)
      have BA : Below wq3.heap.size wq3 (wq3.alloc (.cells #[.string ⟨#[]⟩, .int .i64 0, .int .i64 0, .int .i64 0, .slice none 0 0, .string ⟨#[]⟩, .int .i64 0, .int .i64 0, .bool false, .string ⟨#[]⟩, .float .f64 0, .slice none 0 0, .int .i64 0] 47)) := bW
      replace J := J.below BA
      replace LR := LR.bel BA
      replace ho5 := ho5.below BA
      clear BA
      generalize hWq : (wq3.alloc (.cells #[.string ⟨#[]⟩, .int .i64 0, .int .i64 0, .int .i64 0, .slice none 0 0, .string ⟨#[]⟩, .int .i64 0, .int .i64 0, .bool false, .string ⟨#[]⟩, .float .f64 0, .slice none 0 0, .int .i64 0] 47)) = wq4 at *
      clear hWq
      refine hK.out _ _ trivial (fun hHeld => ?_)
      clear hK K
      try simp only [Act.put, nrmA, nrmZ, nrmS]
      refine rd1 8 rfl (by kernel_rfl) fun K hK => ?_
      go_simp
      refine (HI3.out _ J.rd).mono ?_
      rintro x9 wq5 ⟨rfl, hrq, hxq⟩
      replace J := J.call hrq hxq
      replace LR := loc_ext hxq (by omega) LR
      replace LF := loc_ext hxq (by omega) LF
      replace ho5 := own_u8_far ho5 hgv hxq
      clear hrq hxq
      refine hK.out _ _ trivial (fun hHeld => ?_)
      clear hK K
      try simp only [Act.put, nrmA, nrmZ, nrmS]
      refine takeG 9 21 (.agg #[.string ⟨nm.toArray⟩, .int .i64 k1, .int .i64 k2, .int .i64 0, .slice none 0 0, .string ⟨#[]⟩, .int .i64 0, .int .i64 0, .bool false, .string ⟨#[]⟩, .float .f64 0, .slice none 0 0, .int .i64 k3]) rfl rfl (by kernel_rfl) (fun c a w h => hQ c _ _ a w h) (Or.inl ⟨by rfl, by (intro wz hSw; (try dsimp only at hSw); go_simp)⟩) (by assumption) ?_
      try simp only [Act.put, nrmA, nrmZ, nrmS]
      refine rd1 11 rfl (by kernel_rfl) fun K hK => ?_
      obtain ⟨m0, m1, m2, m3, m4, m5, m6, m7, m8, m9, m10, m11, m12, u0, u1, u2, u3, u4, u5, u6, u7, u8, u9, u10, u11, u12, hzm⟩ := op13 LF
      go_simp
      obtain ⟨LS1, XS1⟩ := st13 LF (.string ⟨nm.toArray⟩) (.int .i64 k1) (.int .i64 k2) (.int .i64 0) (.slice none 0 0) (.string ⟨#[]⟩) (.int .i64 0) (.int .i64 0) (.bool false) (.string ⟨#[]⟩) (.float .f64 0) (.slice none 0 0) (.int .i64 k3)
      refine hK.out _ _ trivial (fun hHeld => ?_)
      clear hK K
      try simp only [Act.put, nrmA, nrmZ, nrmS]
      refine wpAnyH_done (by kernel_rfl) ?_ _
      simp only [Exit.then]
      exact hK _ _ _ _ _ _ _ _ _ _ _ _ LS1 (J.off XS1 (by omega) hgw) (loc_ext XS1 (by omega) LR) hbLF
    ·skip
     go_simp
     have LF := Loc1.new wq2 47 #[.string ⟨#[]⟩, .int .i64 0, .int .i64 0, .int .i64 0, .slice none 0 0, .string ⟨#[]⟩, .int .i64 0, .int .i64 0, .bool false, .string ⟨#[]⟩, .float .f64 0, .slice none 0 0, .int .i64 0]
     have hbLF : w.heap.size < wq2.heap.size := (by have := lt_of_heap LR; omega)
     have BA : Below wq2.heap.size wq2 (wq2.alloc (.cells #[.string ⟨#[]⟩, .int .i64 0, .int .i64 0, .int .i64 0, .slice none 0 0, .string ⟨#[]⟩, .int .i64 0, .int .i64 0, .bool false, .string ⟨#[]⟩, .float .f64 0, .slice none 0 0, .int .i64 0] 47)) := bW
     replace J := J.below BA
     replace LR := LR.bel BA
     replace ho5 := ho5.below BA
     clear BA
     generalize hWq : (wq2.alloc (.cells #[.string ⟨#[]⟩, .int .i64 0, .int .i64 0, .int .i64 0, .slice none 0 0, .string ⟨#[]⟩, .int .i64 0, .int .i64 0, .bool false, .string ⟨#[]⟩, .float .f64 0, .slice none 0 0, .int .i64 0] 47)) = wq3 at *
     clear hWq
     refine hK.out _ _ trivial (fun hHeld => ?_)
     clear hK K
     try simp only [Act.put, nrmA, nrmZ, nrmS]
     refine rd1 6 rfl (by kernel_rfl) fun K hK => ?_
     go_simp
     refine (HI2.out _ J.rd).mono ?_
     rintro x9 wq4 ⟨rfl, hrq, hxq⟩
     replace J := J.call hrq hxq
     replace LR := loc_ext hxq (by omega) LR
     replace LF := loc_ext hxq (by omega) LF
     replace ho5 := own_u8_far ho5 hgv hxq
     clear hrq hxq
     refine hK.out _ _ trivial (fun hHeld => ?_)
     clear hK K
     try simp only [Act.put, nrmA, nrmZ, nrmS]
     refine rd1 8 rfl (by kernel_rfl) fun K hK => ?_
     go_simp
     refine (HI3.out _ J.rd).mono ?_
     rintro x9 wq5 ⟨rfl, hrq, hxq⟩
     replace J := J.call hrq hxq
     replace LR := loc_ext hxq (by omega) LR
     replace LF := loc_ext hxq (by omega) LF
     replace ho5 := own_u8_far ho5 hgv hxq
     clear hrq hxq
     refine hK.out _ _ trivial (fun hHeld => ?_)
     clear hK K
     try simp only [Act.put, nrmA, nrmZ, nrmS]
     refine takeG 9 21 (.agg #[.string ⟨nm.toArray⟩, .int .i64 k1, .int .i64 k2, .int .i64 0, .slice none 0 0, .string ⟨#[]⟩, .int .i64 0, .int .i64 0, .bool false, .string ⟨#[]⟩, .float .f64 0, .slice none 0 0, .int .i64 k3]) rfl rfl (by kernel_rfl) (fun c a w h => hQ c _ _ a w h) (Or.inl ⟨by rfl, by (intro wz hSw; (try dsimp only at hSw); go_simp)⟩) (by assumption) ?_
     try simp only [Act.put, nrmA, nrmZ, nrmS]
     refine rd1 11 rfl (by kernel_rfl) fun K hK => ?_
     obtain ⟨m0, m1, m2, m3, m4, m5, m6, m7, m8, m9, m10, m11, m12, u0, u1, u2, u3, u4, u5, u6, u7, u8, u9, u10, u11, u12, hzm⟩ := op13 LF
     go_simp
     obtain ⟨LS1, XS1⟩ := st13 LF (.string ⟨nm.toArray⟩) (.int .i64 k1) (.int .i64 k2) (.int .i64 0) (.slice none 0 0) (.string ⟨#[]⟩) (.int .i64 0) (.int .i64 0) (.bool false) (.string ⟨#[]⟩) (.float .f64 0) (.slice none 0 0) (.int .i64 k3)
     refine hK.out _ _ trivial (fun hHeld => ?_)
     clear hK K
     try simp only [Act.put, nrmA, nrmZ, nrmS]
     refine wpAnyH_done (by kernel_rfl) ?_ _
     simp only [Exit.then]
     exact hK _ _ _ _ _ _ _ _ _ _ _ _ LS1 (J.off XS1 (by omega) hgw) (loc_ext XS1 (by omega) LR) hbLF
   ·skip
    go_simp
    have LF := Loc1.new wq1 47 #[.string ⟨#[]⟩, .int .i64 0, .int .i64 0, .int .i64 0, .slice none 0 0, .string ⟨#[]⟩, .int .i64 0, .int .i64 0, .bool false, .string ⟨#[]⟩, .float .f64 0, .slice none 0 0, .int .i64 0]
    have hbLF : w.heap.size < wq1.heap.size := (by have := lt_of_heap LR; omega)
    have BA : Below wq1.heap.size wq1 (wq1.alloc (.cells #[.string ⟨#[]⟩, .int .i64 0, .int .i64 0, .int .i64 0, .slice none 0 0, .string ⟨#[]⟩, .int .i64 0, .int .i64 0, .bool false, .string ⟨#[]⟩, .float .f64 0, .slice none 0 0, .int .i64 0] 47)) := bW
    replace J := J.below BA
    replace LR := LR.bel BA
    replace ho5 := ho5.below BA
    clear BA
    generalize hWq : (wq1.alloc (.cells #[.string ⟨#[]⟩, .int .i64 0, .int .i64 0, .int .i64 0, .slice none 0 0, .string ⟨#[]⟩, .int .i64 0, .int .i64 0, .bool false, .string ⟨#[]⟩, .float .f64 0, .slice none 0 0, .int .i64 0] 47)) = wq2 at *
    clear hWq
    refine hK.out _ _ trivial (fun hHeld => ?_)
    clear hK K
    try simp only [Act.put, nrmA, nrmZ, nrmS]
    refine rd1 4 rfl (by kernel_rfl) fun K hK => ?_
    go_simp
    refine (HI1.out _ J.rd).mono ?_
    rintro x9 wq3 ⟨rfl, hrq, hxq⟩
    replace J := J.call hrq hxq
    replace LR := loc_ext hxq (by omega) LR
    replace LF := loc_ext hxq (by omega) LF
    replace ho5 := own_u8_far ho5 hgv hxq
    clear hrq hxq
    refine hK.out _ _ trivial (fun hHeld => ?_)
    clear hK K
    try simp only [Act.put, nrmA, nrmZ, nrmS]
    refine rd1 6 rfl (by kernel_rfl) fun K hK => ?_
    go_simp
    refine (HI2.out _ J.rd).mono ?_
    rintro x9 wq4 ⟨rfl, hrq, hxq⟩
    replace J := J.call hrq hxq
    replace LR := loc_ext hxq (by omega) LR
    replace LF := loc_ext hxq (by omega) LF
    replace ho5 := own_u8_far ho5 hgv hxq
    clear hrq hxq
    refine hK.out _ _ trivial (fun hHeld => ?_)
    clear hK K
    try simp only [Act.put, nrmA, nrmZ, nrmS]
    refine rd1 8 rfl (by kernel_rfl) fun K hK => ?_
    go_simp
    refine (HI3.out _ J.rd).mono ?_
    rintro x9 wq5 ⟨rfl, hrq, hxq⟩
    replace J := J.call hrq hxq
    replace LR := loc_ext hxq (by omega) LR
    replace LF := loc_ext hxq (by omega) LF
    replace ho5 := own_u8_far ho5 hgv hxq
    clear hrq hxq
    refine hK.out _ _ trivial (fun hHeld => ?_)
    clear hK K
    try simp only [Act.put, nrmA, nrmZ, nrmS]
    refine takeG 9 21 (.agg #[.string ⟨nm.toArray⟩, .int .i64 k1, .int .i64 k2, .int .i64 0, .slice none 0 0, .string ⟨#[]⟩, .int .i64 0, .int .i64 0, .bool false, .string ⟨#[]⟩, .float .f64 0, .slice none 0 0, .int .i64 k3]) rfl rfl (by kernel_rfl) (fun c a w h => hQ c _ _ a w h) (Or.inl ⟨by rfl, by (intro wz hSw; (try dsimp only at hSw); go_simp)⟩) (by assumption) ?_
    try simp only [Act.put, nrmA, nrmZ, nrmS]
    refine rd1 11 rfl (by kernel_rfl) fun K hK => ?_
    obtain ⟨m0, m1, m2, m3, m4, m5, m6, m7, m8, m9, m10, m11, m12, u0, u1, u2, u3, u4, u5, u6, u7, u8, u9, u10, u11, u12, hzm⟩ := op13 LF
    go_simp
    obtain ⟨LS1, XS1⟩ := st13 LF (.string ⟨nm.toArray⟩) (.int .i64 k1) (.int .i64 k2) (.int .i64 0) (.slice none 0 0) (.string ⟨#[]⟩) (.int .i64 0) (.int .i64 0) (.bool false) (.string ⟨#[]⟩) (.float .f64 0) (.slice none 0 0) (.int .i64 k3)
    refine hK.out _ _ trivial (fun hHeld => ?_)
    clear hK K
    try simp only [Act.put, nrmA, nrmZ, nrmS]
    refine wpAnyH_done (by kernel_rfl) ?_ _
    simp only [Exit.then]
    exact hK _ _ _ _ _ _ _ _ _ _ _ _ LS1 (J.off XS1 (by omega) hgw) (loc_ext XS1 (by omega) LR) hbLF
  ·skip
   go_simp
   refine (HI1.out _ J.rd).mono ?_
   rintro x9 wq2 ⟨rfl, hrq, hxq⟩
   replace J := J.call hrq hxq
   replace LR := loc_ext hxq (by omega) LR
   replace ho5 := own_u8_far ho5 hgv hxq
   clear hrq hxq
   refine hK.out _ _ trivial (fun hHeld => ?_)
   clear hK K
   try simp only [Act.put, nrmA, nrmZ, nrmS]
   refine wpAnyH_ready (rs := [2, 6, 10]) (by kernel_rfl) (by simp) ?_
   refine (AllReadyH.cons rfl (fun K hK => ?_) (AllReadyH.cons rfl (fun K hK => ?_) (AllReadyH.cons rfl (fun K hK => ?_) AllReadyH.nil)))
   ·skip
    have CV := conv_vs (P := Tryz.prog) ((own_u8 (ok' := fun _ => True) ho5).sl fun _ _ => trivial) 29 9 5 Tryz.underlying29 Tryz.underlying5 Tryz.underlying9
    go_simp
    clear CV
    refine hK.out _ _ trivial (fun hHeld => ?_)
    clear hK K
    try simp only [Act.put, nrmA, nrmZ, nrmS]
    refine rd2 6 10 rfl rfl (by kernel_rfl) (fun K hK => ?_) fun K hK => ?_
    ·skip
     go_simp
     refine (HI2.out _ J.rd).mono ?_
     rintro x9 wq3 ⟨rfl, hrq, hxq⟩
     replace J := J.call hrq hxq
     replace LR := loc_ext hxq (by omega) LR
     replace ho5 := own_u8_far ho5 hgv hxq
     clear hrq hxq
     refine hK.out _ _ trivial (fun hHeld => ?_)
     clear hK K
     try simp only [Act.put, nrmA, nrmZ, nrmS]
     refine rd2 8 10 rfl rfl (by kernel_rfl) (fun K hK => ?_) fun K hK => ?_
     ·skip
      go_simp
      refine (HI3.out _ J.rd).mono ?_
      rintro x9 wq4 ⟨rfl, hrq, hxq⟩
      replace J := J.call hrq hxq
      replace LR := loc_ext hxq (by omega) LR
      replace ho5 := own_u8_far ho5 hgv hxq
      clear hrq hxq
      refine hK.out _ _ trivial (fun hHeld => ?_)
      clear hK K
      try simp only [Act.put, nrmA, nrmZ, nrmS]
      refine takeG 9 21 (.agg #[.string ⟨nm.toArray⟩, .int .i64 k1, .int .i64 k2, .int .i64 0, .slice none 0 0, .string ⟨#[]⟩, .int .i64 0, .int .i64 0, .bool false, .string ⟨#[]⟩, .float .f64 0, .slice none 0 0, .int .i64 k3]) rfl rfl (by kernel_rfl) (fun c a w h => hQ c _ _ a w h) (Or.inl ⟨by rfl, by (intro wz hSw; (try dsimp only at hSw); go_simp)⟩) (by assumption) ?_
      try simp only [Act.put, nrmA, nrmZ, nrmS]
      refine rd1 10 rfl (by kernel_rfl) fun K hK => ?_
      go_simp
      have LF := Loc1.new wq4 47 #[.string ⟨#[]⟩, .int .i64 0, .int .i64 0, .int .i64 0, .slice none 0 0, .string ⟨#[]⟩, .int .i64 0, .int .i64 0, .bool false, .string ⟨#[]⟩, .float .f64 0, .slice none 0 0, .int .i64 0]
      have hbLF : w.heap.size < wq4.heap.size := (by have := lt_of_heap LR; omega)
      have BA : Below wq4.heap.size wq4 (wq4.alloc (.cells #[.string ⟨#[]⟩, .int .i64 0, .int .i64 0, .int .i64 0, .slice none 0 0, .string ⟨#[]⟩, .int .i64 0, .int .i64 0, .bool false, .string ⟨#[]⟩, .float .f64 0, .slice none 0 0, .int .i64 0] 47)) := bW
      replace J := J.below BA
      replace LR := LR.bel BA
      replace ho5 := ho5.below BA
      clear BA
      generalize hWq : (wq4.alloc (.cells #[.string ⟨#[]⟩, .int .i64 0, .int .i64 0, .int .i64 0, .slice none 0 0, .string ⟨#[]⟩, .int .i64 0, .int .i64 0, .bool false, .string ⟨#[]⟩, .float .f64 0, .slice none 0 0, .int .i64 0] 47)) = wq5 at *
      clear hWq
      refine hK.out _ _ trivial (fun hHeld => ?_)
      clear hK K
      try simp only [Act.put, nrmA, nrmZ, nrmS]
      refine rd1 11 rfl (by kernel_rfl) fun K hK => ?_
      obtain ⟨m0, m1, m2, m3, m4, m5, m6, m7, m8, m9, m10, m11, m12, u0, u1, u2, u3, u4, u5, u6, u7, u8, u9, u10, u11, u12, hzm⟩ := op13 LF
      go_simp
      obtain ⟨LS1, XS1⟩ := st13 LF (.string ⟨nm.toArray⟩) (.int .i64 k1) (.int .i64 k2) (.int .i64 0) (.slice none 0 0) (.string ⟨#[]⟩) (.int .i64 0) (.int .i64 0) (.bool false) (.string ⟨#[]⟩) (.float .f64 0) (.slice none 0 0) (.int .i64 k3)
      refine hK.out _ _ trivial (fun hHeld => ?_)
      clear hK K
      try simp only [Act.put, nrmA, nrmZ, nrmS]
      refine wpAnyH_done (by kernel_rfl) ?_ _
      simp only [Exit.then]
      exact hK _ _ _ _ _ _ _ _ _ _ _ _ LS1 (J.off XS1 (by omega) hgw) (loc_ext XS1 (by omega) LR) hbLF
     ·skip
      go_simp
      have LF := Loc1.new wq3 47 #[.string ⟨#[]⟩, .int .i64 0, .int .i64 0, .int .i64 0, .slice none 0 0, .string ⟨#[]⟩, .int .i64 0, .int .i64 0, .bool false, .string ⟨#[]⟩, .float .f64 0, .slice none 0 0, .int .i64 0]
      have hbLF : w.heap.size < wq3.heap.size := (by have := lt_of_heap LR; omega)
      have BA : Below wq3.heap.size wq3 (wq3.alloc (.cells #[.string ⟨#[]⟩, .int .i64 0, .int .i64 0, .int .i64 0, .slice none 0 0, .string ⟨#[]⟩, .int .i64 0, .int .i64 0, .bool false, .string ⟨#[]⟩, .float .f64 0, .slice none 0 0, .int .i64 0] 47)) := bW
      replace J := J.below BA
      replace LR := LR.bel BA
      replace ho5 := ho5.below BA
      clear BA
      generalize hWq : (wq3.alloc (.cells #[.string ⟨#[]⟩, .int .i64 0, .int .i64 0, .int .i64 0, .slice none 0 0, .string ⟨#[]⟩, .int .i64 0, .int .i64 0, .bool false, .string ⟨#[]⟩, .float .f64 0, .slice none 0 0, .int .i64 0] 47)) = wq4 at *
      clear hWq
      refine hK.out _ _ trivial (fun hHeld => ?_)
      clear hK K
      try simp only [Act.put, nrmA, nrmZ, nrmS]
      refine rd1 8 rfl (by kernel_rfl) fun K hK => ?_
      go_simp
      refine (HI3.out _ J.rd).mono ?_
      rintro x9 wq5 ⟨rfl, hrq, hxq⟩
      replace J := J.call hrq hxq
      replace LR := loc_ext hxq (by omega) LR
      replace LF := loc_ext hxq (by omega) LF
      replace ho5 := own_u8_far ho5 hgv hxq
      clear hrq hxq
      refine hK.out _ _ trivial (fun hHeld => ?_)
      clear hK K
      try simp only [Act.put, nrmA, nrmZ, nrmS]
      refine takeG 9 21 (.agg #[.string ⟨nm.toArray⟩, .int .i64 k1, .int .i64 k2, .int .i64 0, .slice none 0 0, .string ⟨#[]⟩, .int .i64 0, .int .i64 0, .bool false, .string ⟨#[]⟩, .float .f64 0, .slice none 0 0, .int .i64 k3]) rfl rfl (by kernel_rfl) (fun c a w h => hQ c _ _ a w h) (Or.inl ⟨by rfl, by (intro wz hSw; (try dsimp only at hSw); go_simp)⟩) (by assumption) ?_
      try simp only [Act.put, nrmA, nrmZ, nrmS]
      refine rd1 11 rfl (by kernel_rfl) fun K hK => ?_
      obtain ⟨m0, m1, m2, m3, m4, m5, m6, m7, m8, m9, m10, m11, m12, u0, u1, u2, u3, u4, u5, u6, u7, u8, u9, u10, u11, u12, hzm⟩ := op13 LF
      go_simp
      obtain ⟨LS1, XS1⟩ := st13 LF (.string ⟨nm.toArray⟩) (.int .i64 k1) (.int .i64 k2) (.int .i64 0) (.slice none 0 0) (.string ⟨#[]⟩) (.int .i64 0) (.int .i64 0) (.bool false) (.string ⟨#[]⟩) (.float .f64 0) (.slice none 0 0) (.int .i64 k3)
      refine hK.out _ _ trivial (fun hHeld => ?_)
      clear hK K
      try simp only [Act.put, nrmA, nrmZ, nrmS]
      refine wpAnyH_done (by kernel_rfl) ?_ _
      simp only [Exit.then]
      exact hK _ _ _ _ _ _ _ _ _ _ _ _ LS1 (J.off XS1 (by omega) hgw) (loc_ext XS1 (by omega) LR) hbLF
    ·skip
     go_simp
     have LF := Loc1.new wq2 47 #[.string ⟨#[]⟩, .int .i64 0, .int .i64 0, .int .i64 0, .slice none 0 0, .string ⟨#[]⟩, .int .i64 0, .int .i64 0, .bool false, .string ⟨#[]⟩, .float .f64 0, .slice none 0 0, .int .i64 0]
     have hbLF : w.heap.size < wq2.heap.size := (by have := lt_of_heap LR; omega)
     have BA : Below wq2.heap.size wq2 (wq2.alloc (.cells #[.string ⟨#[]⟩, .int .i64 0, .int .i64 0, .int .i64 0, .slice none 0 0, .string ⟨#[]⟩, .int .i64 0, .int .i64 0, .bool false, .string ⟨#[]⟩, .float .f64 0, .slice none 0 0, .int .i64 0] 47)) := bW
     replace J := J.below BA
     replace LR := LR.bel BA
     replace ho5 := ho5.below BA
     clear BA
     generalize hWq : (wq2.alloc (.cells #[.string ⟨#[]⟩, .int .i64 0, .int .i64 0, .int .i64 0, .slice none 0 0, .string ⟨#[]⟩, .int .i64 0, .int .i64 0, .bool false, .string ⟨#[]⟩, .float .f64 0, .slice none 0 0, .int .i64 0] 47)) = wq3 at *
     clear hWq
     refine hK.out _ _ trivial (fun hHeld => ?_)
     clear hK K
     try simp only [Act.put, nrmA, nrmZ, nrmS]
     refine rd1 6 rfl (by kernel_rfl) fun K hK => ?_
     go_simp
     refine (HI2.out _ J.rd).mono ?_
     rintro x9 wq4 ⟨rfl, hrq, hxq⟩
     replace J := J.call hrq hxq
     replace LR := loc_ext hxq (by omega) LR
     replace LF := loc_ext hxq (by omega) LF
     replace ho5 := own_u8_far ho5 hgv hxq
     clear hrq hxq
     refine hK.out _ _ trivial (fun hHeld => ?_)
     clear hK K
     try simp only [Act.put, nrmA, nrmZ, nrmS]
     refine rd1 8 rfl (by kernel_rfl) fun K hK => ?_
     go_simp
     refine (HI3.out _ J.rd).mono ?_
     rintro x9 wq5 ⟨rfl, hrq, hxq⟩
     replace J := J.call hrq hxq
     replace LR := loc_ext hxq (by omega) LR
     replace LF := loc_ext hxq (by omega) LF
     replace ho5 := own_u8_far ho5 hgv hxq
     clear hrq hxq
     refine hK.out _ _ trivial (fun hHeld => ?_)
     clear hK K
     try simp only [Act.put, nrmA, nrmZ, nrmS]
     refine takeG 9 21 (.agg #[.string ⟨nm.toArray⟩, .int .i64 k1, .int .i64 k2, .int .i64 0, .slice none 0 0, .string ⟨#[]⟩, .int .i64 0, .int .i64 0, .bool false, .string ⟨#[]⟩, .float .f64 0, .slice none 0 0, .int .i64 k3]) rfl rfl (by kernel_rfl) (fun c a w h => hQ c _ _ a w h) (Or.inl ⟨by rfl, by (intro wz hSw; (try dsimp only at hSw); go_simp)⟩) (by assumption) ?_
     try simp only [Act.put, nrmA, nrmZ, nrmS]
     refine rd1 11 rfl (by kernel_rfl) fun K hK => ?_
     obtain ⟨m0, m1, m2, m3, m4, m5, m6, m7, m8, m9, m10, m11, m12, u0, u1, u2, u3, u4, u5, u6, u7, u8, u9, u10, u11, u12, hzm⟩ := op13 LF
     go_simp
     obtain ⟨LS1, XS1⟩ := st13 LF (.string ⟨nm.toArray⟩) (.int .i64 k1) (.int .i64 k2) (.int .i64 0) (.slice none 0 0) (.string ⟨#[]⟩) (.int .i64 0) (.int .i64 0) (.bool false) (.string ⟨#[]⟩) (.float .f64 0) (.slice none 0 0) (.int .i64 k3)
     refine hK.out _ _ trivial (fun hHeld => ?_)
     clear hK K
     try simp only [Act.put, nrmA, nrmZ, nrmS]
     refine wpAnyH_done (by kernel_rfl) ?_ _
     simp only [Exit.then]
     exact hK _ _ _ _ _ _ _ _ _ _ _ _ LS1 (J.off XS1 (by omega) hgw) (loc_ext XS1 (by omega) LR) hbLF
   ·skip
    go_simp
    refine (HI2.out _ J.rd).mono ?_
    rintro x9 wq3 ⟨rfl, hrq, hxq⟩
    replace J := J.call hrq hxq
    replace LR := loc_ext hxq (by omega) LR
    replace ho5 := own_u8_far ho5 hgv hxq
    clear hrq hxq
    refine hK.out _ _ trivial (fun hHeld => ?_)
    clear hK K
    try simp only [Act.put, nrmA, nrmZ, nrmS]
    refine wpAnyH_ready (rs := [2, 8, 10]) (by kernel_rfl) (by simp) ?_
    refine (AllReadyH.cons rfl (fun K hK => ?_) (AllReadyH.cons rfl (fun K hK => ?_) (AllReadyH.cons rfl (fun K hK => ?_) AllReadyH.nil)))
    ·skip
     have CV := conv_vs (P := Tryz.prog) ((own_u8 (ok' := fun _ => True) ho5).sl fun _ _ => trivial) 29 9 5 Tryz.underlying29 Tryz.underlying5 Tryz.underlying9
     go_simp
     clear CV
     refine hK.out _ _ trivial (fun hHeld => ?_)
     clear hK K
     try simp only [Act.put, nrmA, nrmZ, nrmS]
     refine rd2 8 10 rfl rfl (by kernel_rfl) (fun K hK => ?_) fun K hK => ?_
     ·skip
      go_simp
      refine (HI3.out _ J.rd).mono ?_
      rintro x9 wq4 ⟨rfl, hrq, hxq⟩
      replace J := J.call hrq hxq
      replace LR := loc_ext hxq (by omega) LR
      replace ho5 := own_u8_far ho5 hgv hxq
      clear hrq hxq
      refine hK.out _ _ trivial (fun hHeld => ?_)
      clear hK K
      try simp only [Act.put, nrmA, nrmZ, nrmS]
      refine takeG 9 21 (.agg #[.string ⟨nm.toArray⟩, .int .i64 k1, .int .i64 k2, .int .i64 0, .slice none 0 0, .string ⟨#[]⟩, .int .i64 0, .int .i64 0, .bool false, .string ⟨#[]⟩, .float .f64 0, .slice none 0 0, .int .i64 k3]) rfl rfl (by kernel_rfl) (fun c a w h => hQ c _ _ a w h) (Or.inl ⟨by rfl, by (intro wz hSw; (try dsimp only at hSw); go_simp)⟩) (by assumption) ?_
      try simp only [Act.put, nrmA, nrmZ, nrmS]
      refine rd1 10 rfl (by kernel_rfl) fun K hK => ?_
      go_simp
      have LF := Loc1.new wq4 47 #[.string ⟨#[]⟩, .int .i64 0, .int .i64 0, .int .i64 0, .slice none 0 0, .string ⟨#[]⟩, .int .i64 0, .int .i64 0, .bool false, .string ⟨#[]⟩, .float .f64 0, .slice none 0 0, .int .i64 0]
      have hbLF : w.heap.size < wq4.heap.size := (by have := lt_of_heap LR; omega)
      have BA : Below wq4.heap.size wq4 (wq4.alloc (.cells #[.string ⟨#[]⟩, .int .i64 0, .int .i64 0, .int .i64 0, .slice none 0 0, .string ⟨#[]⟩, .int .i64 0, .int .i64 0, .bool false, .string ⟨#[]⟩, .float .f64 0, .slice none 0 0, .int .i64 0] 47)) := bW
      replace J := J.below BA
      replace LR := LR.bel BA
      replace ho5 := ho5.below BA
      clear BA
      generalize hWq : (wq4.alloc (.cells #[.string ⟨#[]⟩, .int .i64 0, .int .i64 0, .int .i64 0, .slice none 0 0, .string ⟨#[]⟩, .int .i64 0, .int .i64 0, .bool false, .string ⟨#[]⟩, .float .f64 0, .slice none 0 0, .int .i64 0] 47)) = wq5 at *
      clear hWq
      refine hK.out _ _ trivial (fun hHeld => ?_)
      clear hK K
      try simp only [Act.put, nrmA, nrmZ, nrmS]
      refine rd1 11 rfl (by kernel_rfl) fun K hK => ?_
      obtain ⟨m0, m1, m2, m3, m4, m5, m6, m7, m8, m9, m10, m11, m12, u0, u1, u2, u3, u4, u5, u6, u7, u8, u9, u10, u11, u12, hzm⟩ := op13 LF
      go_simp
      obtain ⟨LS1, XS1⟩ := st13 LF (.string ⟨nm.toArray⟩) (.int .i64 k1) (.int .i64 k2) (.int .i64 0) (.slice none 0 0) (.string ⟨#[]⟩) (.int .i64 0) (.int .i64 0) (.bool false) (.string ⟨#[]⟩) (.float .f64 0) (.slice none 0 0) (.int .i64 k3)
      refine hK.out _ _ trivial (fun hHeld => ?_)
      clear hK K
      try simp only [Act.put, nrmA, nrmZ, nrmS]
      refine wpAnyH_done (by kernel_rfl) ?_ _
      simp only [Exit.then]
      exact hK _ _ _ _ _ _ _ _ _ _ _ _ LS1 (J.off XS1 (by omega) hgw) (loc_ext XS1 (by omega) LR) hbLF
     ·skip
      go_simp
      have LF := Loc1.new wq3 47 #[.string ⟨#[]⟩, .int .i64 0, .int .i64 0, .int .i64 0, .slice none 0 0, .string ⟨#[]⟩, .int .i64 0, .int .i64 0, .bool false, .string ⟨#[]⟩, .float .f64 0, .slice none 0 0, .int .i64 0]
      have hbLF : w.heap.size < wq3.heap.size := (by have := lt_of_heap LR; omega)
      have BA : Below wq3.heap.size wq3 (wq3.alloc (.cells #[.string ⟨#[]⟩, .int .i64 0, .int .i64 0, .int .i64 0, .slice none 0 0, .string ⟨#[]⟩, .int .i64 0, .int .i64 0, .bool false, .string ⟨#[]⟩, .float .f64 0, .slice none 0 0, .int .i64 0] 47)) := bW
      replace J := J.below BA
      replace LR := LR.bel BA
      replace ho5 := ho5.below BA
      clear BA
      generalize hWq : (wq3.alloc (.cells #[.string ⟨#[]⟩, .int .i64 0, .int .i64 0, .int .i64 0, .slice none 0 0, .string ⟨#[]⟩, .int .i64 0, .int .i64 0, .bool false, .string ⟨#[]⟩, .float .f64 0, .slice none 0 0, .int .i64 0] 47)) = wq4 at *
      clear hWq
      refine hK.out _ _ trivial (fun hHeld => ?_)
      clear hK K
      try simp only [Act.put, nrmA, nrmZ, nrmS]
      refine rd1 8 rfl (by kernel_rfl) fun K hK => ?_
      go_simp
      refine (HI3.out _ J.rd).mono ?_
      rintro x9 wq5 ⟨rfl, hrq, hxq⟩
      replace J := J.call hrq hxq
      replace LR := loc_ext hxq (by omega) LR
      replace LF := loc_ext hxq (by omega) LF
      replace ho5 := own_u8_far ho5 hgv hxq
      clear hrq hxq
      refine hK.out _ _ trivial (fun hHeld => ?_)
      clear hK K
      try simp only [Act.put, nrmA, nrmZ, nrmS]
      refine takeG 9 21 (.agg #[.string ⟨nm.toArray⟩, .int .i64 k1, .int .i64 k2, .int .i64 0, .slice none 0 0, .string ⟨#[]⟩, .int .i64 0, .int .i64 0, .bool false, .string ⟨#[]⟩, .float .f64 0, .slice none 0 0, .int .i64 k3]) rfl rfl (by kernel_rfl) (fun c a w h => hQ c _ _ a w h) (Or.inl ⟨by rfl, by (intro wz hSw; (try dsimp only at hSw); go_simp)⟩) (by assumption) ?_
      try simp only [Act.put, nrmA, nrmZ, nrmS]
      refine rd1 11 rfl (by kernel_rfl) fun K hK => ?_
      obtain ⟨m0, m1, m2, m3, m4, m5, m6, m7, m8, m9, m10, m11, m12, u0, u1, u2, u3, u4, u5, u6, u7, u8, u9, u10, u11, u12, hzm⟩ := op13 LF
      go_simp
      obtain ⟨LS1, XS1⟩ := st13 LF (.string ⟨nm.toArray⟩) (.int .i64 k1) (.int .i64 k2) (.int .i64 0) (.slice none 0 0) (.string ⟨#[]⟩) (.int .i64 0) (.int .i64 0) (.bool false) (.string ⟨#[]⟩) (.float .f64 0) (.slice none 0 0) (.int .i64 k3)
      refine hK.out _ _ trivial (fun hHeld => ?_)
      clear hK K
      try simp only [Act.put, nrmA, nrmZ, nrmS]
      refine wpAnyH_done (by kernel_rfl) ?_ _
      simp only [Exit.then]
      exact hK _ _ _ _ _ _ _ _ _ _ _ _ LS1 (J.off XS1 (by omega) hgw) (loc_ext XS1 (by omega) LR) hbLF
    ·skip
     go_simp
     refine (HI3.out _ J.rd).mono ?_
     rintro x9 wq4 ⟨rfl, hrq, hxq⟩
     replace J := J.call hrq hxq
     replace LR := loc_ext hxq (by omega) LR
     replace ho5 := own_u8_far ho5 hgv hxq
     clear hrq hxq
     refine hK.out _ _ trivial (fun hHeld => ?_)
     clear hK K
     try simp only [Act.put, nrmA, nrmZ, nrmS]
     refine rd2 2 10 rfl rfl (by kernel_rfl) (fun K hK => ?_) fun K hK => ?_
     ·skip
      have CV := conv_vs (P := Tryz.prog) ((own_u8 (ok' := fun _ => True) ho5).sl fun _ _ => trivial) 29 9 5 Tryz.underlying29 Tryz.underlying5 Tryz.underlying9
      go_simp
      clear CV
      refine hK.out _ _ trivial (fun hHeld => ?_)
      clear hK K
      try simp only [Act.put, nrmA, nrmZ, nrmS]
      refine takeG 9 21 (.agg #[.string ⟨nm.toArray⟩, .int .i64 k1, .int .i64 k2, .int .i64 0, .slice none 0 0, .string ⟨#[]⟩, .int .i64 0, .int .i64 0, .bool false, .string ⟨#[]⟩, .float .f64 0, .slice none 0 0, .int .i64 k3]) rfl rfl (by kernel_rfl) (fun c a w h => hQ c _ _ a w h) (Or.inl ⟨by rfl, by (intro wz hSw; (try dsimp only at hSw); go_simp)⟩) (by assumption) ?_
      try simp only [Act.put, nrmA, nrmZ, nrmS]
      refine rd1 10 rfl (by kernel_rfl) fun K hK => ?_
      go_simp
      have LF := Loc1.new wq4 47 #[.string ⟨#[]⟩, .int .i64 0, .int .i64 0, .int .i64 0, .slice none 0 0, .string ⟨#[]⟩, .int .i64 0, .int .i64 0, .bool false, .string ⟨#[]⟩, .float .f64 0, .slice none 0 0, .int .i64 0]
      have hbLF : w.heap.size < wq4.heap.size := (by have := lt_of_heap LR; omega)
      have BA : Below wq4.heap.size wq4 (wq4.alloc (.cells #[.string ⟨#[]⟩, .int .i64 0, .int .i64 0, .int .i64 0, .slice none 0 0, .string ⟨#[]⟩, .int .i64 0, .int .i64 0, .bool false, .string ⟨#[]⟩, .float .f64 0, .slice none 0 0, .int .i64 0] 47)) := bW
      replace J := J.below BA
      replace LR := LR.bel BA
      replace ho5 := ho5.below BA
      clear BA
      generalize hWq : (wq4.alloc (.cells #[.string ⟨#[]⟩, .int .i64 0, .int .i64 0, .int .i64 0, .slice none 0 0, .string ⟨#[]⟩, .int .i64 0, .int .i64 0, .bool false, .string ⟨#[]⟩, .float .f64 0, .slice none 0 0, .int .i64 0] 47)) = wq5 at *
      clear hWq
      refine hK.out _ _ trivial (fun hHeld => ?_)
      clear hK K
      try simp only [Act.put, nrmA, nrmZ, nrmS]
      refine rd1 11 rfl (by kernel_rfl) fun K hK => ?_
      obtain ⟨m0, m1, m2, m3, m4, m5, m6, m7, m8, m9, m10, m11, m12, u0, u1, u2, u3, u4, u5, u6, u7, u8, u9, u10, u11, u12, hzm⟩ := op13 LF
      go_simp
      obtain ⟨LS1, XS1⟩ := st13 LF (.string ⟨nm.toArray⟩) (.int .i64 k1) (.int .i64 k2) (.int .i64 0) (.slice none 0 0) (.string ⟨#[]⟩) (.int .i64 0) (.int .i64 0) (.bool false) (.string ⟨#[]⟩) (.float .f64 0) (.slice none 0 0) (.int .i64 k3)
      refine hK.out _ _ trivial (fun hHeld => ?_)
      clear hK K
      try simp only [Act.put, nrmA, nrmZ, nrmS]
      refine wpAnyH_done (by kernel_rfl) ?_ _
      simp only [Exit.then]
      exact hK _ _ _ _ _ _ _ _ _ _ _ _ LS1 (J.off XS1 (by omega) hgw) (loc_ext XS1 (by omega) LR) hbLF
     ·skip
      go_simp
      have LF := Loc1.new wq4 47 #[.string ⟨#[]⟩, .int .i64 0, .int .i64 0, .int .i64 0, .slice none 0 0, .string ⟨#[]⟩, .int .i64 0, .int .i64 0, .bool false, .string ⟨#[]⟩, .float .f64 0, .slice none 0 0, .int .i64 0]
      have hbLF : w.heap.size < wq4.heap.size := (by have := lt_of_heap LR; omega)
      have BA : Below wq4.heap.size wq4 (wq4.alloc (.cells #[.string ⟨#[]⟩, .int .i64 0, .int .i64 0, .int .i64 0, .slice none 0 0, .string ⟨#[]⟩, .int .i64 0, .int .i64 0, .bool false, .string ⟨#[]⟩, .float .f64 0, .slice none 0 0, .int .i64 0] 47)) := bW
      replace J := J.below BA
      replace LR := LR.bel BA
      replace ho5 := ho5.below BA
      clear BA
      generalize hWq : (wq4.alloc (.cells #[.string ⟨#[]⟩, .int .i64 0, .int .i64 0, .int .i64 0, .slice none 0 0, .string ⟨#[]⟩, .int .i64 0, .int .i64 0, .bool false, .string ⟨#[]⟩, .float .f64 0, .slice none 0 0, .int .i64 0] 47)) = wq5 at *
      clear hWq
      refine hK.out _ _ trivial (fun hHeld => ?_)
      clear hK K
      try simp only [Act.put, nrmA, nrmZ, nrmS]
      refine rd1 2 rfl (by kernel_rfl) fun K hK => ?_
      have CV := conv_vs (P := Tryz.prog) ((own_u8 (ok' := fun _ => True) ho5).sl fun _ _ => trivial) 29 9 5 Tryz.underlying29 Tryz.underlying5 Tryz.underlying9
      go_simp
      clear CV
      refine hK.out _ _ trivial (fun hHeld => ?_)
      clear hK K
      try simp only [Act.put, nrmA, nrmZ, nrmS]
      refine takeG 9 21 (.agg #[.string ⟨nm.toArray⟩, .int .i64 k1, .int .i64 k2, .int .i64 0, .slice none 0 0, .string ⟨#[]⟩, .int .i64 0, .int .i64 0, .bool false, .string ⟨#[]⟩, .float .f64 0, .slice none 0 0, .int .i64 k3]) rfl rfl (by kernel_rfl) (fun c a w h => hQ c _ _ a w h) (Or.inl ⟨by rfl, by (intro wz hSw; (try dsimp only at hSw); go_simp)⟩) (by assumption) ?_
      try simp only [Act.put, nrmA, nrmZ, nrmS]
      refine rd1 11 rfl (by kernel_rfl) fun K hK => ?_
      obtain ⟨m0, m1, m2, m3, m4, m5, m6, m7, m8, m9, m10, m11, m12, u0, u1, u2, u3, u4, u5, u6, u7, u8, u9, u10, u11, u12, hzm⟩ := op13 LF
      go_simp
      obtain ⟨LS1, XS1⟩ := st13 LF (.string ⟨nm.toArray⟩) (.int .i64 k1) (.int .i64 k2) (.int .i64 0) (.slice none 0 0) (.string ⟨#[]⟩) (.int .i64 0) (.int .i64 0) (.bool false) (.string ⟨#[]⟩) (.float .f64 0) (.slice none 0 0) (.int .i64 k3)
      refine hK.out _ _ trivial (fun hHeld => ?_)
      clear hK K
      try simp only [Act.put, nrmA, nrmZ, nrmS]
      refine wpAnyH_done (by kernel_rfl) ?_ _
      simp only [Exit.then]
      exact hK _ _ _ _ _ _ _ _ _ _ _ _ LS1 (J.off XS1 (by omega) hgw) (loc_ext XS1 (by omega) LR) hbLF
    ·skip
     go_simp
     have LF := Loc1.new wq3 47 #[.string ⟨#[]⟩, .int .i64 0, .int .i64 0, .int .i64 0, .slice none 0 0, .string ⟨#[]⟩, .int .i64 0, .int .i64 0, .bool false, .string ⟨#[]⟩, .float .f64 0, .slice none 0 0, .int .i64 0]
     have hbLF : w.heap.size < wq3.heap.size := (by have := lt_of_heap LR; omega)
     have BA : Below wq3.heap.size wq3 (wq3.alloc (.cells #[.string ⟨#[]⟩, .int .i64 0, .int .i64 0, .int .i64 0, .slice none 0 0, .string ⟨#[]⟩, .int .i64 0, .int .i64 0, .bool false, .string ⟨#[]⟩, .float .f64 0, .slice none 0 0, .int .i64 0] 47)) := bW
     replace J := J.below BA
     replace LR := LR.bel BA
     replace ho5 := ho5.below BA
     clear BA
     generalize hWq : (wq3.alloc (.cells #[.string ⟨#[]⟩, .int .i64 0, .int .i64 0, .int .i64 0, .slice none 0 0, .string ⟨#[]⟩, .int .i64 0, .int .i64 0, .bool false, .string ⟨#[]⟩, .float .f64 0, .slice none 0 0, .int .i64 0] 47)) = wq4 at *
     clear hWq
     refine hK.out _ _ trivial (fun hHeld => ?_)
     clear hK K
     try simp only [Act.put, nrmA, nrmZ, nrmS]
     refine rd2 2 8 rfl rfl (by kernel_rfl) (fun K hK => ?_) fun K hK => ?_
     ·skip
      have CV := conv_vs (P := Tryz.prog) ((own_u8 (ok' := fun _ => True) ho5).sl fun _ _ => trivial) 29 9 5 Tryz.underlying29 Tryz.underlying5 Tryz.underlying9
      go_simp
      clear CV
      refine hK.out _ _ trivial (fun hHeld => ?_)
      clear hK K
      try simp only [Act.put, nrmA, nrmZ, nrmS]
      refine rd1 8 rfl (by kernel_rfl) fun K hK => ?_
      go_simp
      refine (HI3.out _ J.rd).mono ?_
      rintro x9 wq5 ⟨rfl, hrq, hxq⟩
      replace J := J.call hrq hxq
      replace LR := loc_ext hxq (by omega) LR
      replace LF := loc_ext hxq (by omega) LF
      replace ho5 := own_u8_far ho5 hgv hxq
      clear hrq hxq
      refine hK.out _ _ trivial (fun hHeld => ?_)
      clear hK K
      try simp only [Act.put, nrmA, nrmZ, nrmS]
      refine takeG 9 21 (.agg #[.string ⟨nm.toArray⟩, .int .i64 k1, .int .i64 k2, .int .i64 0, .slice none 0 0, .string ⟨#[]⟩, .int .i64 0, .int .i64 0, .bool false, .string ⟨#[]⟩, .float .f64 0, .slice none 0 0, .int .i64 k3]) rfl rfl (by kernel_rfl) (fun c a w h => hQ c _ _ a w h) (Or.inl ⟨by rfl, by (intro wz hSw; (try dsimp only at hSw); go_simp)⟩) (by assumption) ?_
      try simp only [Act.put, nrmA, nrmZ, nrmS]
      refine rd1 11 rfl (by kernel_rfl) fun K hK => ?_
      obtain ⟨m0, m1, m2, m3, m4, m5, m6, m7, m8, m9, m10, m11, m12, u0, u1, u2, u3, u4, u5, u6, u7, u8, u9, u10, u11, u12, hzm⟩ := op13 LF
      go_simp
      obtain ⟨LS1, XS1⟩ := st13 LF (.string ⟨nm.toArray⟩) (.int .i64 k1) (.int .i64 k2) (.int .i64 0) (.slice none 0 0) (.string ⟨#[]⟩) (.int .i64 0) (.int .i64 0) (.bool false) (.string ⟨#[]⟩) (.float .f64 0) (.slice none 0 0) (.int .i64 k3)
      refine hK.out _ _ trivial (fun hHeld => ?_)
      clear hK K
      try simp only [Act.put, nrmA, nrmZ, nrmS]
      refine wpAnyH_done (by kernel_rfl) ?_ _
      simp only [Exit.then]
      exact hK _ _ _ _ _ _ _ _ _ _ _ _ LS1 (J.off XS1 (by omega) hgw) (loc_ext XS1 (by omega) LR) hbLF
     ·skip
      go_simp
      refine (HI3.out _ J.rd).mono ?_
      rintro x9 wq5 ⟨rfl, hrq, hxq⟩
      replace J := J.call hrq hxq
      replace LR := loc_ext hxq (by omega) LR
      replace LF := loc_ext hxq (by omega) LF
      replace ho5 := own_u8_far ho5 hgv hxq
      clear hrq hxq
      refine hK.out _ _ trivial (fun hHeld => ?_)
      clear hK K
      try simp only [Act.put, nrmA, nrmZ, nrmS]
      refine rd1 2 rfl (by kernel_rfl) fun K hK => ?_
      have CV := conv_vs (P := Tryz.prog) ((own_u8 (ok' := fun _ => True) ho5).sl fun _ _ => trivial) 29 9 5 Tryz.underlying29 Tryz.underlying5 Tryz.underlying9
      go_simp
      clear CV
      refine hK.out _ _ trivial (fun hHeld => ?_)
      clear hK K
      try simp only [Act.put, nrmA, nrmZ, nrmS]
      refine takeG 9 21 (.agg #[.string ⟨nm.toArray⟩, .int .i64 k1, .int .i64 k2, .int .i64 0, .slice none 0 0, .string ⟨#[]⟩, .int .i64 0, .int .i64 0, .bool false, .string ⟨#[]⟩, .float .f64 0, .slice none 0 0, .int .i64 k3]) rfl rfl (by kernel_rfl) (fun c a w h => hQ c _ _ a w h) (Or.inl ⟨by rfl, by (intro wz hSw; (try dsimp only at hSw); go_simp)⟩) (by assumption) ?_
      try simp only [Act.put, nrmA, nrmZ, nrmS]
      refine rd1 11 rfl (by kernel_rfl) fun K hK => ?_
      obtain ⟨m0, m1, m2, m3, m4, m5, m6, m7, m8, m9, m10, m11, m12, u0, u1, u2, u3, u4, u5, u6, u7, u8, u9, u10, u11, u12, hzm⟩ := op13 LF
      go_simp
      obtain ⟨LS1, XS1⟩ := st13 LF (.string ⟨nm.toArray⟩) (.int .i64 k1) (.int .i64 k2) (.int .i64 0) (.slice none 0 0) (.string ⟨#[]⟩) (.int .i64 0) (.int .i64 0) (.bool false) (.string ⟨#[]⟩) (.float .f64 0) (.slice none 0 0) (.int .i64 k3)
      refine hK.out _ _ trivial (fun hHeld => ?_)
      clear hK K
      try simp only [Act.put, nrmA, nrmZ, nrmS]
      refine wpAnyH_done (by kernel_rfl) ?_ _
      simp only [Exit.then]
      exact hK _ _ _ _ _ _ _ _ _ _ _ _ LS1 (J.off XS1 (by omega) hgw) (loc_ext XS1 (by omega) LR) hbLF
   ·skip
    go_simp
    have LF := Loc1.new wq2 47 #[.string ⟨#[]⟩, .int .i64 0, .int .i64 0, .int .i64 0, .slice none 0 0, .string ⟨#[]⟩, .int .i64 0, .int .i64 0, .bool false, .string ⟨#[]⟩, .float .f64 0, .slice none 0 0, .int .i64 0]
    have hbLF : w.heap.size < wq2.heap.size := (by have := lt_of_heap LR; omega)
    have BA : Below wq2.heap.size wq2 (wq2.alloc (.cells #[.string ⟨#[]⟩, .int .i64 0, .int .i64 0, .int .i64 0, .slice none 0 0, .string ⟨#[]⟩, .int .i64 0, .int .i64 0, .bool false, .string ⟨#[]⟩, .float .f64 0, .slice none 0 0, .int .i64 0] 47)) := bW
    replace J := J.below BA
    replace LR := LR.bel BA
    replace ho5 := ho5.below BA
    clear BA
    generalize hWq : (wq2.alloc (.cells #[.string ⟨#[]⟩, .int .i64 0, .int .i64 0, .int .i64 0, .slice none 0 0, .string ⟨#[]⟩, .int .i64 0, .int .i64 0, .bool false, .string ⟨#[]⟩, .float .f64 0, .slice none 0 0, .int .i64 0] 47)) = wq3 at *
    clear hWq
    refine hK.out _ _ trivial (fun hHeld => ?_)
    clear hK K
    try simp only [Act.put, nrmA, nrmZ, nrmS]
    refine rd2 2 6 rfl rfl (by kernel_rfl) (fun K hK => ?_) fun K hK => ?_
    ·skip
     have CV := conv_vs (P := Tryz.prog) ((own_u8 (ok' := fun _ => True) ho5).sl fun _ _ => trivial) 29 9 5 Tryz.underlying29 Tryz.underlying5 Tryz.underlying9
     go_simp
     clear CV
     refine hK.out _ _ trivial (fun hHeld => ?_)
     clear hK K
     try simp only [Act.put, nrmA, nrmZ, nrmS]
     refine rd1 6 rfl (by kernel_rfl) fun K hK => ?_
     go_simp
     refine (HI2.out _ J.rd).mono ?_
     rintro x9 wq4 ⟨rfl, hrq, hxq⟩
     replace J := J.call hrq hxq
     replace LR := loc_ext hxq (by omega) LR
     replace LF := loc_ext hxq (by omega) LF
     replace ho5 := own_u8_far ho5 hgv hxq
     clear hrq hxq
     refine hK.out _ _ trivial (fun hHeld => ?_)
     clear hK K
     try simp only [Act.put, nrmA, nrmZ, nrmS]
     refine rd1 8 rfl (by kernel_rfl) fun K hK => ?_
     go_simp
     refine (HI3.out _ J.rd).mono ?_
     rintro x9 wq5 ⟨rfl, hrq, hxq⟩
     replace J := J.call hrq hxq
     replace LR := loc_ext hxq (by omega) LR
     replace LF := loc_ext hxq (by omega) LF
     replace ho5 := own_u8_far ho5 hgv hxq
     clear hrq hxq
     refine hK.out _ _ trivial (fun hHeld => ?_)
     clear hK K
     try simp only [Act.put, nrmA, nrmZ, nrmS]
     refine takeG 9 21 (.agg #[.string ⟨nm.toArray⟩, .int .i64 k1, .int .i64 k2, .int .i64 0, .slice none 0 0, .string ⟨#[]⟩, .int .i64 0, .int .i64 0, .bool false, .string ⟨#[]⟩, .float .f64 0, .slice none 0 0, .int .i64 k3]) rfl rfl (by kernel_rfl) (fun c a w h => hQ c _ _ a w h) (Or.inl ⟨by rfl, by (intro wz hSw; (try dsimp only at hSw); go_simp)⟩) (by assumption) ?_
     try simp only [Act.put, nrmA, nrmZ, nrmS]
     refine rd1 11 rfl (by kernel_rfl) fun K hK => ?_
     obtain ⟨m0, m1, m2, m3, m4, m5, m6, m7, m8, m9, m10, m11, m12, u0, u1, u2, u3, u4, u5, u6, u7, u8, u9, u10, u11, u12, hzm⟩ := op13 LF
     go_simp
     obtain ⟨LS1, XS1⟩ := st13 LF (.string ⟨nm.toArray⟩) (.int .i64 k1) (.int .i64 k2) (.int .i64 0) (.slice none 0 0) (.string ⟨#[]⟩) (.int .i64 0) (.int .i64 0) (.bool false) (.string ⟨#[]⟩) (.float .f64 0) (.slice none 0 0) (.int .i64 k3)
     refine hK.out _ _ trivial (fun hHeld => ?_)
     clear hK K
     try simp only [Act.put, nrmA, nrmZ, nrmS]
     refine wpAnyH_done (by kernel_rfl) ?_ _
     simp only [Exit.then]
     exact hK _ _ _ _ _ _ _ _ _ _ _ _ LS1 (J.off XS1 (by omega) hgw) (loc_ext XS1 (by omega) LR) hbLF
    ·skip
     go_simp
     refine (HI2.out _ J.rd).mono ?_
     rintro x9 wq4 ⟨rfl, hrq, hxq⟩
     replace J := J.call hrq hxq
     replace LR := loc_ext hxq (by omega) LR
     replace LF := loc_ext hxq (by omega) LF
     replace ho5 := own_u8_far ho5 hgv hxq
     clear hrq hxq
     refine hK.out _ _ trivial (fun hHeld => ?_)
     clear hK K
     try simp only [Act.put, nrmA, nrmZ, nrmS]
     refine rd2 2 8 rfl rfl (by kernel_rfl) (fun K hK => ?_) fun K hK => ?_
     ·skip
      have CV := conv_vs (P := Tryz.prog) ((own_u8 (ok' := fun _ => True) ho5).sl fun _ _ => trivial) 29 9 5 Tryz.underlying29 Tryz.underlying5 Tryz.underlying9
      go_simp
      clear CV
      refine hK.out _ _ trivial (fun hHeld => ?_)
      clear hK K
      try simp only [Act.put, nrmA, nrmZ, nrmS]
      refine rd1 8 rfl (by kernel_rfl) fun K hK => ?_
      go_simp
      refine (HI3.out _ J.rd).mono ?_
      rintro x9 wq5 ⟨rfl, hrq, hxq⟩
      replace J := J.call hrq hxq
      replace LR := loc_ext hxq (by omega) LR
      replace LF := loc_ext hxq (by omega) LF
      replace ho5 := own_u8_far ho5 hgv hxq
      clear hrq hxq
      refine hK.out _ _ trivial (fun hHeld => ?_)
      clear hK K
      try simp only [Act.put, nrmA, nrmZ, nrmS]
      refine takeG 9 21 (.agg #[.string ⟨nm.toArray⟩, .int .i64 k1, .int .i64 k2, .int .i64 0, .slice none 0 0, .string ⟨#[]⟩, .int .i64 0, .int .i64 0, .bool false, .string ⟨#[]⟩, .float .f64 0, .slice none 0 0, .int .i64 k3]) rfl rfl (by kernel_rfl) (fun c a w h => hQ c _ _ a w h) (Or.inl ⟨by rfl, by (intro wz hSw; (try dsimp only at hSw); go_simp)⟩) (by assumption) ?_
      try simp only [Act.put, nrmA, nrmZ, nrmS]
      refine rd1 11 rfl (by kernel_rfl) fun K hK => ?_
      obtain ⟨m0, m1, m2, m3, m4, m5, m6, m7, m8, m9, m10, m11, m12, u0, u1, u2, u3, u4, u5, u6, u7, u8, u9, u10, u11, u12, hzm⟩ := op13 LF
      go_simp
      obtain ⟨LS1, XS1⟩ := st13 LF (.string ⟨nm.toArray⟩) (.int .i64 k1) (.int .i64 k2) (.int .i64 0) (.slice none 0 0) (.string ⟨#[]⟩) (.int .i64 0) (.int .i64 0) (.bool false) (.string ⟨#[]⟩) (.float .f64 0) (.slice none 0 0) (.int .i64 k3)
      refine hK.out _ _ trivial (fun hHeld => ?_)
      clear hK K
      try simp only [Act.put, nrmA, nrmZ, nrmS]
      refine wpAnyH_done (by kernel_rfl) ?_ _
      simp only [Exit.then]
      exact hK _ _ _ _ _ _ _ _ _ _ _ _ LS1 (J.off XS1 (by omega) hgw) (loc_ext XS1 (by omega) LR) hbLF
     ·skip
      go_simp
      refine (HI3.out _ J.rd).mono ?_
      rintro x9 wq5 ⟨rfl, hrq, hxq⟩
      replace J := J.call hrq hxq
      replace LR := loc_ext hxq (by omega) LR
      replace LF := loc_ext hxq (by omega) LF
      replace ho5 := own_u8_far ho5 hgv hxq
      clear hrq hxq
      refine hK.out _ _ trivial (fun hHeld => ?_)
      clear hK K
      try simp only [Act.put, nrmA, nrmZ, nrmS]
      refine rd1 2 rfl (by kernel_rfl) fun K hK => ?_
      have CV := conv_vs (P := Tryz.prog) ((own_u8 (ok' := fun _ => True) ho5).sl fun _ _ => trivial) 29 9 5 Tryz.underlying29 Tryz.underlying5 Tryz.underlying9
      go_simp
      clear CV
      refine hK.out _ _ trivial (fun hHeld => ?_)
      clear hK K
      try simp only [Act.put, nrmA, nrmZ, nrmS]
      refine takeG 9 21 (.agg #[.string ⟨nm.toArray⟩, .int .i64 k1, .int .i64 k2, .int .i64 0, .slice none 0 0, .string ⟨#[]⟩, .int .i64 0, .int .i64 0, .bool false, .string ⟨#[]⟩, .float .f64 0, .slice none 0 0, .int .i64 k3]) rfl rfl (by kernel_rfl) (fun c a w h => hQ c _ _ a w h) (Or.inl ⟨by rfl, by (intro wz hSw; (try dsimp only at hSw); go_simp)⟩) (by assumption) ?_
      try simp only [Act.put, nrmA, nrmZ, nrmS]
      refine rd1 11 rfl (by kernel_rfl) fun K hK => ?_
      obtain ⟨m0, m1, m2, m3, m4, m5, m6, m7, m8, m9, m10, m11, m12, u0, u1, u2, u3, u4, u5, u6, u7, u8, u9, u10, u11, u12, hzm⟩ := op13 LF
      go_simp
      obtain ⟨LS1, XS1⟩ := st13 LF (.string ⟨nm.toArray⟩) (.int .i64 k1) (.int .i64 k2) (.int .i64 0) (.slice none 0 0) (.string ⟨#[]⟩) (.int .i64 0) (.int .i64 0) (.bool false) (.string ⟨#[]⟩) (.float .f64 0) (.slice none 0 0) (.int .i64 k3)
      refine hK.out _ _ trivial (fun hHeld => ?_)
      clear hK K
      try simp only [Act.put, nrmA, nrmZ, nrmS]
      refine wpAnyH_done (by kernel_rfl) ?_ _
      simp only [Exit.then]
      exact hK _ _ _ _ _ _ _ _ _ _ _ _ LS1 (J.off XS1 (by omega) hgw) (loc_ext XS1 (by omega) LR) hbLF
  ·skip
   go_simp
   have LF := Loc1.new wq1 47 #[.string ⟨#[]⟩, .int .i64 0, .int .i64 0, .int .i64 0, .slice none 0 0, .string ⟨#[]⟩, .int .i64 0, .int .i64 0, .bool false, .string ⟨#[]⟩, .float .f64 0, .slice none 0 0, .int .i64 0]
   have hbLF : w.heap.size < wq1.heap.size := (by have := lt_of_heap LR; omega)
   have BA : Below wq1.heap.size wq1 (wq1.alloc (.cells #[.string ⟨#[]⟩, .int .i64 0, .int .i64 0, .int .i64 0, .slice none 0 0, .string ⟨#[]⟩, .int .i64 0, .int .i64 0, .bool false, .string ⟨#[]⟩, .float .f64 0, .slice none 0 0, .int .i64 0] 47)) := bW
   replace J := J.below BA
   replace LR := LR.bel BA
   replace ho5 := ho5.below BA
   clear BA
   generalize hWq : (wq1.alloc (.cells #[.string ⟨#[]⟩, .int .i64 0, .int .i64 0, .int .i64 0, .slice none 0 0, .string ⟨#[]⟩, .int .i64 0, .int .i64 0, .bool false, .string ⟨#[]⟩, .float .f64 0, .slice none 0 0, .int .i64 0] 47)) = wq2 at *
   clear hWq
   refine hK.out _ _ trivial (fun hHeld => ?_)
   clear hK K
   try simp only [Act.put, nrmA, nrmZ, nrmS]
   refine rd2 2 4 rfl rfl (by kernel_rfl) (fun K hK => ?_) fun K hK => ?_
   ·skip
    have CV := conv_vs (P := Tryz.prog) ((own_u8 (ok' := fun _ => True) ho5).sl fun _ _ => trivial) 29 9 5 Tryz.underlying29 Tryz.underlying5 Tryz.underlying9
    go_simp
    clear CV
    refine hK.out _ _ trivial (fun hHeld => ?_)
    clear hK K
    try simp only [Act.put, nrmA, nrmZ, nrmS]
    refine rd1 4 rfl (by kernel_rfl) fun K hK => ?_
    go_simp
    refine (HI1.out _ J.rd).mono ?_
    rintro x9 wq3 ⟨rfl, hrq, hxq⟩
    replace J := J.call hrq hxq
    replace LR := loc_ext hxq (by omega) LR
    replace LF := loc_ext hxq (by omega) LF
    replace ho5 := own_u8_far ho5 hgv hxq
    clear hrq hxq
    refine hK.out _ _ trivial (fun hHeld => ?_)
    clear hK K
    try simp only [Act.put, nrmA, nrmZ, nrmS]
    refine rd1 6 rfl (by kernel_rfl) fun K hK => ?_
    go_simp
    refine (HI2.out _ J.rd).mono ?_
    rintro x9 wq4 ⟨rfl, hrq, hxq⟩
    replace J := J.call hrq hxq
    replace LR := loc_ext hxq (by omega) LR
    replace LF := loc_ext hxq (by omega) LF
    replace ho5 := own_u8_far ho5 hgv hxq
    clear hrq hxq
    refine hK.out _ _ trivial (fun hHeld => ?_)
    clear hK K
    try simp only [Act.put, nrmA, nrmZ, nrmS]
    refine rd1 8 rfl (by kernel_rfl) fun K hK => ?_
    go_simp
    refine (HI3.out _ J.rd).mono ?_
    rintro x9 wq5 ⟨rfl, hrq, hxq⟩
    replace J := J.call hrq hxq
    replace LR := loc_ext hxq (by omega) LR
    replace LF := loc_ext hxq (by omega) LF
    replace ho5 := own_u8_far ho5 hgv hxq
    clear hrq hxq
    refine hK.out _ _ trivial (fun hHeld => ?_)
    clear hK K
    try simp only [Act.put, nrmA, nrmZ, nrmS]
    refine takeG 9 21 (.agg #[.string ⟨nm.toArray⟩, .int .i64 k1, .int .i64 k2, .int .i64 0, .slice none 0 0, .string ⟨#[]⟩, .int .i64 0, .int .i64 0, .bool false, .string ⟨#[]⟩, .float .f64 0, .slice none 0 0, .int .i64 k3]) rfl rfl (by kernel_rfl) (fun c a w h => hQ c _ _ a w h) (Or.inl ⟨by rfl, by (intro wz hSw; (try dsimp only at hSw); go_simp)⟩) (by assumption) ?_
    try simp only [Act.put, nrmA, nrmZ, nrmS]
    refine rd1 11 rfl (by kernel_rfl) fun K hK => ?_
    obtain ⟨m0, m1, m2, m3, m4, m5, m6, m7, m8, m9, m10, m11, m12, u0, u1, u2, u3, u4, u5, u6, u7, u8, u9, u10, u11, u12, hzm⟩ := op13 LF
    go_simp
    obtain ⟨LS1, XS1⟩ := st13 LF (.string ⟨nm.toArray⟩) (.int .i64 k1) (.int .i64 k2) (.int .i64 0) (.slice none 0 0) (.string ⟨#[]⟩) (.int .i64 0) (.int .i64 0) (.bool false) (.string ⟨#[]⟩) (.float .f64 0) (.slice none 0 0) (.int .i64 k3)
    refine hK.out _ _ trivial (fun hHeld => ?_)
    clear hK K
    try simp only [Act.put, nrmA, nrmZ, nrmS]
    refine wpAnyH_done (by kernel_rfl) ?_ _
    simp only [Exit.then]
    exact hK _ _ _ _ _ _ _ _ _ _ _ _ LS1 (J.off XS1 (by omega) hgw) (loc_ext XS1 (by omega) LR) hbLF
   ·skip
    go_simp
    refine (HI1.out _ J.rd).mono ?_
    rintro x9 wq3 ⟨rfl, hrq, hxq⟩
    replace J := J.call hrq hxq
    replace LR := loc_ext hxq (by omega) LR
    replace LF := loc_ext hxq (by omega) LF
    replace ho5 := own_u8_far ho5 hgv hxq
    clear hrq hxq
    refine hK.out _ _ trivial (fun hHeld => ?_)
    clear hK K
    try simp only [Act.put, nrmA, nrmZ, nrmS]
    refine rd2 2 6 rfl rfl (by kernel_rfl) (fun K hK => ?_) fun K hK => ?_
    ·skip
     have CV := conv_vs (P := Tryz.prog) ((own_u8 (ok' := fun _ => True) ho5).sl fun _ _ => trivial) 29 9 5 Tryz.underlying29 Tryz.underlying5 Tryz.underlying9
     go_simp
     clear CV
     refine hK.out _ _ trivial (fun hHeld => ?_)
     clear hK K
     try simp only [Act.put, nrmA, nrmZ, nrmS]
     refine rd1 6 rfl (by kernel_rfl) fun K hK => ?_
     go_simp
     refine (HI2.out _ J.rd).mono ?_
     rintro x9 wq4 ⟨rfl, hrq, hxq⟩
     replace J := J.call hrq hxq
     replace LR := loc_ext hxq (by omega) LR
     replace LF := loc_ext hxq (by omega) LF
     replace ho5 := own_u8_far ho5 hgv hxq
     clear hrq hxq
     refine hK.out _ _ trivial (fun hHeld => ?_)
     clear hK K
     try simp only [Act.put, nrmA, nrmZ, nrmS]
     refine rd1 8 rfl (by kernel_rfl) fun K hK => ?_
     go_simp
     refine (HI3.out _ J.rd).mono ?_
     rintro x9 wq5 ⟨rfl, hrq, hxq⟩
     replace J := J.call hrq hxq
     replace LR := loc_ext hxq (by omega) LR
     replace LF := loc_ext hxq (by omega) LF
     replace ho5 := own_u8_far ho5 hgv hxq
     clear hrq hxq
     refine hK.out _ _ trivial (fun hHeld => ?_)
     clear hK K
     try simp only [Act.put, nrmA, nrmZ, nrmS]
     refine takeG 9 21 (.agg #[.string ⟨nm.toArray⟩, .int .i64 k1, .int .i64 k2, .int .i64 0, .slice none 0 0, .string ⟨#[]⟩, .int .i64 0, .int .i64 0, .bool false, .string ⟨#[]⟩, .float .f64 0, .slice none 0 0, .int .i64 k3]) rfl rfl (by kernel_rfl) (fun c a w h => hQ c _ _ a w h) (Or.inl ⟨by rfl, by (intro wz hSw; (try dsimp only at hSw); go_simp)⟩) (by assumption) ?_
     try simp only [Act.put, nrmA, nrmZ, nrmS]
     refine rd1 11 rfl (by kernel_rfl) fun K hK => ?_
     obtain ⟨m0, m1, m2, m3, m4, m5, m6, m7, m8, m9, m10, m11, m12, u0, u1, u2, u3, u4, u5, u6, u7, u8, u9, u10, u11, u12, hzm⟩ := op13 LF
     go_simp
     obtain ⟨LS1, XS1⟩ := st13 LF (.string ⟨nm.toArray⟩) (.int .i64 k1) (.int .i64 k2) (.int .i64 0) (.slice none 0 0) (.string ⟨#[]⟩) (.int .i64 0) (.int .i64 0) (.bool false) (.string ⟨#[]⟩) (.float .f64 0) (.slice none 0 0) (.int .i64 k3)
     refine hK.out _ _ trivial (fun hHeld => ?_)
     clear hK K
     try simp only [Act.put, nrmA, nrmZ, nrmS]
     refine wpAnyH_done (by kernel_rfl) ?_ _
     simp only [Exit.then]
     exact hK _ _ _ _ _ _ _ _ _ _ _ _ LS1 (J.off XS1 (by omega) hgw) (loc_ext XS1 (by omega) LR) hbLF
    ·skip
     go_simp
     refine (HI2.out _ J.rd).mono ?_
     rintro x9 wq4 ⟨rfl, hrq, hxq⟩
     replace J := J.call hrq hxq
     replace LR := loc_ext hxq (by omega) LR
     replace LF := loc_ext hxq (by omega) LF
     replace ho5 := own_u8_far ho5 hgv hxq
     clear hrq hxq
     refine hK.out _ _ trivial (fun hHeld => ?_)
     clear hK K
     try simp only [Act.put, nrmA, nrmZ, nrmS]
     refine rd2 2 8 rfl rfl (by kernel_rfl) (fun K hK => ?_) fun K hK => ?_
     ·skip
      have CV := conv_vs (P := Tryz.prog) ((own_u8 (ok' := fun _ => True) ho5).sl fun _ _ => trivial) 29 9 5 Tryz.underlying29 Tryz.underlying5 Tryz.underlying9
      go_simp
      clear CV
      refine hK.out _ _ trivial (fun hHeld => ?_)
      clear hK K
      try simp only [Act.put, nrmA, nrmZ, nrmS]
      refine rd1 8 rfl (by kernel_rfl) fun K hK => ?_
      go_simp
      refine (HI3.out _ J.rd).mono ?_
      rintro x9 wq5 ⟨rfl, hrq, hxq⟩
      replace J := J.call hrq hxq
      replace LR := loc_ext hxq (by omega) LR
      replace LF := loc_ext hxq (by omega) LF
      replace ho5 := own_u8_far ho5 hgv hxq
      clear hrq hxq
      refine hK.out _ _ trivial (fun hHeld => ?_)
      clear hK K
      try simp only [Act.put, nrmA, nrmZ, nrmS]
      refine takeG 9 21 (.agg #[.string ⟨nm.toArray⟩, .int .i64 k1, .int .i64 k2, .int .i64 0, .slice none 0 0, .string ⟨#[]⟩, .int .i64 0, .int .i64 0, .bool false, .string ⟨#[]⟩, .float .f64 0, .slice none 0 0, .int .i64 k3]) rfl rfl (by kernel_rfl) (fun c a w h => hQ c _ _ a w h) (Or.inl ⟨by rfl, by (intro wz hSw; (try dsimp only at hSw); go_simp)⟩) (by assumption) ?_
      try simp only [Act.put, nrmA, nrmZ, nrmS]
      refine rd1 11 rfl (by kernel_rfl) fun K hK => ?_
      obtain ⟨m0, m1, m2, m3, m4, m5, m6, m7, m8, m9, m10, m11, m12, u0, u1, u2, u3, u4, u5, u6, u7, u8, u9, u10, u11, u12, hzm⟩ := op13 LF
      go_simp
      obtain ⟨LS1, XS1⟩ := st13 LF (.string ⟨nm.toArray⟩) (.int .i64 k1) (.int .i64 k2) (.int .i64 0) (.slice none 0 0) (.string ⟨#[]⟩) (.int .i64 0) (.int .i64 0) (.bool false) (.string ⟨#[]⟩) (.float .f64 0) (.slice none 0 0) (.int .i64 k3)
      refine hK.out _ _ trivial (fun hHeld => ?_)
      clear hK K
      try simp only [Act.put, nrmA, nrmZ, nrmS]
      refine wpAnyH_done (by kernel_rfl) ?_ _
      simp only [Exit.then]
      exact hK _ _ _ _ _ _ _ _ _ _ _ _ LS1 (J.off XS1 (by omega) hgw) (loc_ext XS1 (by omega) LR) hbLF
     ·skip
      go_simp
      refine (HI3.out _ J.rd).mono ?_
      rintro x9 wq5 ⟨rfl, hrq, hxq⟩
      replace J := J.call hrq hxq
      replace LR := loc_ext hxq (by omega) LR
      replace LF := loc_ext hxq (by omega) LF
      replace ho5 := own_u8_far ho5 hgv hxq
      clear hrq hxq
      refine hK.out _ _ trivial (fun hHeld => ?_)
      clear hK K
      try simp only [Act.put, nrmA, nrmZ, nrmS]
      refine rd1 2 rfl (by kernel_rfl) fun K hK => ?_
      have CV := conv_vs (P := Tryz.prog) ((own_u8 (ok' := fun _ => True) ho5).sl fun _ _ => trivial) 29 9 5 Tryz.underlying29 Tryz.underlying5 Tryz.underlying9
      go_simp
      clear CV
      refine hK.out _ _ trivial (fun hHeld => ?_)
      clear hK K
      try simp only [Act.put, nrmA, nrmZ, nrmS]
      refine takeG 9 21 (.agg #[.string ⟨nm.toArray⟩, .int .i64 k1, .int .i64 k2, .int .i64 0, .slice none 0 0, .string ⟨#[]⟩, .int .i64 0, .int .i64 0, .bool false, .string ⟨#[]⟩, .float .f64 0, .slice none 0 0, .int .i64 k3]) rfl rfl (by kernel_rfl) (fun c a w h => hQ c _ _ a w h) (Or.inl ⟨by rfl, by (intro wz hSw; (try dsimp only at hSw); go_simp)⟩) (by assumption) ?_
      try simp only [Act.put, nrmA, nrmZ, nrmS]
      refine rd1 11 rfl (by kernel_rfl) fun K hK => ?_
      obtain ⟨m0, m1, m2, m3, m4, m5, m6, m7, m8, m9, m10, m11, m12, u0, u1, u2, u3, u4, u5, u6, u7, u8, u9, u10, u11, u12, hzm⟩ := op13 LF
      go_simp
      obtain ⟨LS1, XS1⟩ := st13 LF (.string ⟨nm.toArray⟩) (.int .i64 k1) (.int .i64 k2) (.int .i64 0) (.slice none 0 0) (.string ⟨#[]⟩) (.int .i64 0) (.int .i64 0) (.bool false) (.string ⟨#[]⟩) (.float .f64 0) (.slice none 0 0) (.int .i64 k3)
      refine hK.out _ _ trivial (fun hHeld => ?_)
      clear hK K
      try simp only [Act.put, nrmA, nrmZ, nrmS]
      refine wpAnyH_done (by kernel_rfl) ?_ _
      simp only [Exit.then]
      exact hK _ _ _ _ _ _ _ _ _ _ _ _ LS1 (J.off XS1 (by omega) hgw) (loc_ext XS1 (by omega) LR) hbLF
 ·skip
  go_simp
  have LF := Loc1.new wd 47 #[.string ⟨#[]⟩, .int .i64 0, .int .i64 0, .int .i64 0, .slice none 0 0, .string ⟨#[]⟩, .int .i64 0, .int .i64 0, .bool false, .string ⟨#[]⟩, .float .f64 0, .slice none 0 0, .int .i64 0]
  have hbLF : w.heap.size < wd.heap.size := (by have := lt_of_heap LR; omega)
  have BA : Below wd.heap.size wd (wd.alloc (.cells #[.string ⟨#[]⟩, .int .i64 0, .int .i64 0, .int .i64 0, .slice none 0 0, .string ⟨#[]⟩, .int .i64 0, .int .i64 0, .bool false, .string ⟨#[]⟩, .float .f64 0, .slice none 0 0, .int .i64 0] 47)) := bW
  replace J := J.below BA
  replace LR := LR.bel BA
  clear BA
  generalize hWq : (wd.alloc (.cells #[.string ⟨#[]⟩, .int .i64 0, .int .i64 0, .int .i64 0, .slice none 0 0, .string ⟨#[]⟩, .int .i64 0, .int .i64 0, .bool false, .string ⟨#[]⟩, .float .f64 0, .slice none 0 0, .int .i64 0] 47)) = wq1 at *
  clear hWq
  refine hK.out _ _ trivial (fun hHeld => ?_)
  clear hK K
  try simp only [Act.put, nrmA, nrmZ, nrmS]
  refine rd1 1 rfl (by kernel_rfl) fun K hK => ?_
  go_simp
  refine (HB.out _ J.rd).mono ?_
  rintro x9 wq2 ⟨v5, rfl, ho5, hrq, hxq⟩
  obtain ⟨Av, nv, cv, rfl, -⟩ := ho5.form'
  have hgv : g < wq1.heap.size := J.rd.lt
  replace J := J.call hrq hxq
  replace LR := loc_ext hxq (by omega) LR
  replace LF := loc_ext hxq (by omega) LF
  clear hrq hxq
  refine hK.out _ _ trivial (fun hHeld => ?_)
  clear hK K
  try simp only [Act.put, nrmA, nrmZ, nrmS]
  refine rd2 2 4 rfl rfl (by kernel_rfl) (fun K hK => ?_) fun K hK => ?_
  ·skip
   have CV := conv_vs (P := Tryz.prog) ((own_u8 (ok' := fun _ => True) ho5).sl fun _ _ => trivial) 29 9 5 Tryz.underlying29 Tryz.underlying5 Tryz.underlying9
   go_simp
   clear CV
   refine hK.out _ _ trivial (fun hHeld => ?_)
   clear hK K
   try simp only [Act.put, nrmA, nrmZ, nrmS]
   refine rd1 4 rfl (by kernel_rfl) fun K hK => ?_
   go_simp
   refine (HI1.out _ J.rd).mono ?_
   rintro x9 wq3 ⟨rfl, hrq, hxq⟩
   replace J := J.call hrq hxq
   replace LR := loc_ext hxq (by omega) LR
   replace LF := loc_ext hxq (by omega) LF
   replace ho5 := own_u8_far ho5 hgv hxq
   clear hrq hxq
   refine hK.out _ _ trivial (fun hHeld => ?_)
   clear hK K
   try simp only [Act.put, nrmA, nrmZ, nrmS]
   refine rd1 6 rfl (by kernel_rfl) fun K hK => ?_
   go_simp
   refine (HI2.out _ J.rd).mono ?_
   rintro x9 wq4 ⟨rfl, hrq, hxq⟩
   replace J := J.call hrq hxq
   replace LR := loc_ext hxq (by omega) LR
   replace LF := loc_ext hxq (by omega) LF
   replace ho5 := own_u8_far ho5 hgv hxq
   clear hrq hxq
   refine hK.out _ _ trivial (fun hHeld => ?_)
   clear hK K
   try simp only [Act.put, nrmA, nrmZ, nrmS]
   refine rd1 8 rfl (by kernel_rfl) fun K hK => ?_
   go_simp
   refine (HI3.out _ J.rd).mono ?_
   rintro x9 wq5 ⟨rfl, hrq, hxq⟩
   replace J := J.call hrq hxq
   replace LR := loc_ext hxq (by omega) LR
   replace LF := loc_ext hxq (by omega) LF
   replace ho5 := own_u8_far ho5 hgv hxq
   clear hrq hxq
   refine hK.out _ _ trivial (fun hHeld => ?_)
   clear hK K
   try simp only [Act.put, nrmA, nrmZ, nrmS]
   refine takeG 9 21 (.agg #[.string ⟨nm.toArray⟩, .int .i64 k1, .int .i64 k2, .int .i64 0, .slice none 0 0, .string ⟨#[]⟩, .int .i64 0, .int .i64 0, .bool false, .string ⟨#[]⟩, .float .f64 0, .slice none 0 0, .int .i64 k3]) rfl rfl (by kernel_rfl) (fun c a w h => hQ c _ _ a w h) (Or.inl ⟨by rfl, by (intro wz hSw; (try dsimp only at hSw); go_simp)⟩) (by assumption) ?_
   try simp only [Act.put, nrmA, nrmZ, nrmS]
   refine rd1 11 rfl (by kernel_rfl) fun K hK => ?_
   obtain ⟨m0, m1, m2, m3, m4, m5, m6, m7, m8, m9, m10, m11, m12, u0, u1, u2, u3, u4, u5, u6, u7, u8, u9, u10, u11, u12, hzm⟩ := op13 LF
   go_simp
   obtain ⟨LS1, XS1⟩ := st13 LF (.string ⟨nm.toArray⟩) (.int .i64 k1) (.int .i64 k2) (.int .i64 0) (.slice none 0 0) (.string ⟨#[]⟩) (.int .i64 0) (.int .i64 0) (.bool false) (.string ⟨#[]⟩) (.float .f64 0) (.slice none 0 0) (.int .i64 k3)
   refine hK.out _ _ trivial (fun hHeld => ?_)
   clear hK K
   try simp only [Act.put, nrmA, nrmZ, nrmS]
   refine wpAnyH_done (by kernel_rfl) ?_ _
   simp only [Exit.then]
   exact hK _ _ _ _ _ _ _ _ _ _ _ _ LS1 (J.off XS1 (by omega) hgw) (loc_ext XS1 (by omega) LR) hbLF
  ·skip
   go_simp
   refine (HI1.out _ J.rd).mono ?_
   rintro x9 wq3 ⟨rfl, hrq, hxq⟩
   replace J := J.call hrq hxq
   replace LR := loc_ext hxq (by omega) LR
   replace LF := loc_ext hxq (by omega) LF
   replace ho5 := own_u8_far ho5 hgv hxq
   clear hrq hxq
   refine hK.out _ _ trivial (fun hHeld => ?_)
   clear hK K
   try simp only [Act.put, nrmA, nrmZ, nrmS]
   refine rd2 2 6 rfl rfl (by kernel_rfl) (fun K hK => ?_) fun K hK => ?_
   ·skip
    have CV := conv_vs (P := Tryz.prog) ((own_u8 (ok' := fun _ => True) ho5).sl fun _ _ => trivial) 29 9 5 Tryz.underlying29 Tryz.underlying5 Tryz.underlying9
    go_simp
    clear CV
    refine hK.out _ _ trivial (fun hHeld => ?_)
    clear hK K
    try simp only [Act.put, nrmA, nrmZ, nrmS]
    refine rd1 6 rfl (by kernel_rfl) fun K hK => ?_
    go_simp
    refine (HI2.out _ J.rd).mono ?_
    rintro x9 wq4 ⟨rfl, hrq, hxq⟩
    replace J := J.call hrq hxq
    replace LR := loc_ext hxq (by omega) LR
    replace LF := loc_ext hxq (by omega) LF
    replace ho5 := own_u8_far ho5 hgv hxq
    clear hrq hxq
    refine hK.out _ _ trivial (fun hHeld => ?_)
    clear hK K
    try simp only [Act.put, nrmA, nrmZ, nrmS]
    refine rd1 8 rfl (by kernel_rfl) fun K hK => ?_
    go_simp
    refine (HI3.out _ J.rd).mono ?_
    rintro x9 wq5 ⟨rfl, hrq, hxq⟩
    replace J := J.call hrq hxq
    replace LR := loc_ext hxq (by omega) LR
    replace LF := loc_ext hxq (by omega) LF
    replace ho5 := own_u8_far ho5 hgv hxq
    clear hrq hxq
    refine hK.out _ _ trivial (fun hHeld => ?_)
    clear hK K
    try simp only [Act.put, nrmA, nrmZ, nrmS]
    refine takeG 9 21 (.agg #[.string ⟨nm.toArray⟩, .int .i64 k1, .int .i64 k2, .int .i64 0, .slice none 0 0, .string ⟨#[]⟩, .int .i64 0, .int .i64 0, .bool false, .string ⟨#[]⟩, .float .f64 0, .slice none 0 0, .int .i64 k3]) rfl rfl (by kernel_rfl) (fun c a w h => hQ c _ _ a w h) (Or.inl ⟨by rfl, by (intro wz hSw; (try dsimp only at hSw); go_simp)⟩) (by assumption) ?_
    try simp only [Act.put, nrmA, nrmZ, nrmS]
    refine rd1 11 rfl (by kernel_rfl) fun K hK => ?_
    obtain ⟨m0, m1, m2, m3, m4, m5, m6, m7, m8, m9, m10, m11, m12, u0, u1, u2, u3, u4, u5, u6, u7, u8, u9, u10, u11, u12, hzm⟩ := op13 LF
    go_simp
    obtain ⟨LS1, XS1⟩ := st13 LF (.string ⟨nm.toArray⟩) (.int .i64 k1) (.int .i64 k2) (.int .i64 0) (.slice none 0 0) (.string ⟨#[]⟩) (.int .i64 0) (.int .i64 0) (.bool false) (.string ⟨#[]⟩) (.float .f64 0) (.slice none 0 0) (.int .i64 k3)
    refine hK.out _ _ trivial (fun hHeld => ?_)
    clear hK K
    try simp only [Act.put, nrmA, nrmZ, nrmS]
    refine wpAnyH_done (by kernel_rfl) ?_ _
    simp only [Exit.then]
    exact hK _ _ _ _ _ _ _ _ _ _ _ _ LS1 (J.off XS1 (by omega) hgw) (loc_ext XS1 (by omega) LR) hbLF
   ·skip
    go_simp
    refine (HI2.out _ J.rd).mono ?_
    rintro x9 wq4 ⟨rfl, hrq, hxq⟩
    replace J := J.call hrq hxq
    replace LR := loc_ext hxq (by omega) LR
    replace LF := loc_ext hxq (by omega) LF
    replace ho5 := own_u8_far ho5 hgv hxq
    clear hrq hxq
    refine hK.out _ _ trivial (fun hHeld => ?_)
    clear hK K
    try simp only [Act.put, nrmA, nrmZ, nrmS]
    refine rd2 2 8 rfl rfl (by kernel_rfl) (fun K hK => ?_) fun K hK => ?_
    ·skip
     have CV := conv_vs (P := Tryz.prog) ((own_u8 (ok' := fun _ => True) ho5).sl fun _ _ => trivial) 29 9 5 Tryz.underlying29 Tryz.underlying5 Tryz.underlying9
     go_simp
     clear CV
     refine hK.out _ _ trivial (fun hHeld => ?_)
     clear hK K
     try simp only [Act.put, nrmA, nrmZ, nrmS]
     refine rd1 8 rfl (by kernel_rfl) fun K hK => ?_
     go_simp
     refine (HI3.out _ J.rd).mono ?_
     rintro x9 wq5 ⟨rfl, hrq, hxq⟩
     replace J := J.call hrq hxq
     replace LR := loc_ext hxq (by omega) LR
     replace LF := loc_ext hxq (by omega) LF
     replace ho5 := own_u8_far ho5 hgv hxq
     clear hrq hxq
     refine hK.out _ _ trivial (fun hHeld => ?_)
     clear hK K
     try simp only [Act.put, nrmA, nrmZ, nrmS]
     refine takeG 9 21 (.agg #[.string ⟨nm.toArray⟩, .int .i64 k1, .int .i64 k2, .int .i64 0, .slice none 0 0, .string ⟨#[]⟩, .int .i64 0, .int .i64 0, .bool false, .string ⟨#[]⟩, .float .f64 0, .slice none 0 0, .int .i64 k3]) rfl rfl (by kernel_rfl) (fun c a w h => hQ c _ _ a w h) (Or.inl ⟨by rfl, by (intro wz hSw; (try dsimp only at hSw); go_simp)⟩) (by assumption) ?_
     try simp only [Act.put, nrmA, nrmZ, nrmS]
     refine rd1 11 rfl (by kernel_rfl) fun K hK => ?_
     obtain ⟨m0, m1, m2, m3, m4, m5, m6, m7, m8, m9, m10, m11, m12, u0, u1, u2, u3, u4, u5, u6, u7, u8, u9, u10, u11, u12, hzm⟩ := op13 LF
     go_simp
     obtain ⟨LS1, XS1⟩ := st13 LF (.string ⟨nm.toArray⟩) (.int .i64 k1) (.int .i64 k2) (.int .i64 0) (.slice none 0 0) (.string ⟨#[]⟩) (.int .i64 0) (.int .i64 0) (.bool false) (.string ⟨#[]⟩) (.float .f64 0) (.slice none 0 0) (.int .i64 k3)
     refine hK.out _ _ trivial (fun hHeld => ?_)
     clear hK K
     try simp only [Act.put, nrmA, nrmZ, nrmS]
     refine wpAnyH_done (by kernel_rfl) ?_ _
     simp only [Exit.then]
     exact hK _ _ _ _ _ _ _ _ _ _ _ _ LS1 (J.off XS1 (by omega) hgw) (loc_ext XS1 (by omega) LR) hbLF
    ·skip
     go_simp
     refine (HI3.out _ J.rd).mono ?_
     rintro x9 wq5 ⟨rfl, hrq, hxq⟩
     replace J := J.call hrq hxq
     replace LR := loc_ext hxq (by omega) LR
     replace LF := loc_ext hxq (by omega) LF
     replace ho5 := own_u8_far ho5 hgv hxq
     clear hrq hxq
     refine hK.out _ _ trivial (fun hHeld => ?_)
     clear hK K
     try simp only [Act.put, nrmA, nrmZ, nrmS]
     refine rd1 2 rfl (by kernel_rfl) fun K hK => ?_
     have CV := conv_vs (P := Tryz.prog) ((own_u8 (ok' := fun _ => True) ho5).sl fun _ _ => trivial) 29 9 5 Tryz.underlying29 Tryz.underlying5 Tryz.underlying9
     go_simp
     clear CV
     refine hK.out _ _ trivial (fun hHeld => ?_)
     clear hK K
     try simp only [Act.put, nrmA, nrmZ, nrmS]
     refine takeG 9 21 (.agg #[.string ⟨nm.toArray⟩, .int .i64 k1, .int .i64 k2, .int .i64 0, .slice none 0 0, .string ⟨#[]⟩, .int .i64 0, .int .i64 0, .bool false, .string ⟨#[]⟩, .float .f64 0, .slice none 0 0, .int .i64 k3]) rfl rfl (by kernel_rfl) (fun c a w h => hQ c _ _ a w h) (Or.inl ⟨by rfl, by (intro wz hSw; (try dsimp only at hSw); go_simp)⟩) (by assumption) ?_
     try simp only [Act.put, nrmA, nrmZ, nrmS]
     refine rd1 11 rfl (by kernel_rfl) fun K hK => ?_
     obtain ⟨m0, m1, m2, m3, m4, m5, m6, m7, m8, m9, m10, m11, m12, u0, u1, u2, u3, u4, u5, u6, u7, u8, u9, u10, u11, u12, hzm⟩ := op13 LF
     go_simp
     obtain ⟨LS1, XS1⟩ := st13 LF (.string ⟨nm.toArray⟩) (.int .i64 k1) (.int .i64 k2) (.int .i64 0) (.slice none 0 0) (.string ⟨#[]⟩) (.int .i64 0) (.int .i64 0) (.bool false) (.string ⟨#[]⟩) (.float .f64 0) (.slice none 0 0) (.int .i64 k3)
     refine hK.out _ _ trivial (fun hHeld => ?_)
     clear hK K
     try simp only [Act.put, nrmA, nrmZ, nrmS]
     refine wpAnyH_done (by kernel_rfl) ?_ _
     simp only [Exit.then]
     exact hK _ _ _ _ _ _ _ _ _ _ _ _ LS1 (J.off XS1 (by omega) hgw) (loc_ext XS1 (by omega) LR) hbLF
end Go.Proofs.YtjnhgfmjehaalaaGreat
