/- Chapter 6: the reference's Check, whole. -/
import Derived.Test.YtjnhgfmjehaalaaGreatMI
namespace Go.Proofs.YtjnhgfmjehaalaaGreat
open Go.RowKit
set_option linter.unusedVariables false
set_option linter.unusedSimpArgs false
def pMove (c : Con) (n : Nat) (i : Nat) (m : Mov) : Bool := named m.name && (idx (fun e => e.name == m.name) c.moves == (i : Int)) && gMove c n m
def chkR (c : Con) (n : Nat) : Int := if !named c.name then 50 else if !fieldsR c then 60 else if !stagesR c then 61 else if decide (8 < (c.moves.length : Int)) then 62 else if !allI (pMove c n) c.moves then 62 else 0
section
variable {w : World}
theorem rnameQ_c (s : List UInt8) : Calls Tryz.prog 61 #[.string ⟨s.toArray⟩] w fun e w' => e = .returned (.bool (named s)) ∧ w = w' := by
  have E := Lib.hid (named_eq s)
  generalize named s = r at *
  by_cases h1 : (1 : Int) ≤ (s.length : Int)
  · by_cases h2 : (s.length : Int) ≤ 16
    · have E1 := Lib.hid (show r = true by rw [E.out, decide_eq_true (by omega), decide_eq_true (by omega)]; rfl)
      go_enter Tryz.func61, Tryz.ntmps61
      go_wp2_with fail
      go_ret
      rw [E1.out]
      exact ⟨rfl, rfl⟩
    · have E1 := Lib.hid (show r = false by rw [E.out, decide_eq_false (show ¬ s.length ≤ 16 by omega), Bool.and_false])
      go_enter Tryz.func61, Tryz.ntmps61
      go_wp2_with fail
      go_ret
      rw [E1.out]
      exact ⟨by simp; try omega, rfl⟩
  · have E1 := Lib.hid (show r = false by rw [E.out, decide_eq_false (show ¬ 0 < s.length by omega)]; rfl)
    go_enter Tryz.func61, Tryz.ntmps61
    go_wp2_with fail
    go_ret
    rw [E1.out]
    exact ⟨rfl, rfl⟩
set_option maxRecDepth 20000 in
set_option maxHeartbeats 4000000 in
theorem checkR_c {A B D : Option Addr} {a b d : Nat} {c : Con} {n : Nat} (h1 : Sl kFld (fun _ => True) w (.slice A c.fields.length a) c.fields) (h2 : Sl kStg (fun _ => True) w (.slice B c.stages.length b) c.stages) (h3 : Sl (kMov n) (fun _ => True) w (.slice D c.moves.length d) c.moves) :
    Calls Tryz.prog 13 #[.agg #[.string ⟨c.name.toArray⟩, .slice A c.fields.length a, .slice B c.stages.length b, .slice D c.moves.length d]] w (Ret w (.int .i64 (chkR c n))) := by
  have SF := store_f64
  have HF := Lib.hid (show ∀ W : World, Below w.heap.size w W → Sl kFld (fun _ => True) W (.slice A c.fields.length a) c.fields from fun W hW => h1.below hW)
  have HS := Lib.hid (show ∀ W : World, Below w.heap.size w W → Sl kStg (fun _ => True) W (.slice B c.stages.length b) c.stages from fun W hW => h2.below hW)
  have HM := Lib.hid (show ∀ W : World, Below w.heap.size w W → Sl (kMov n) (fun _ => True) W (.slice D c.moves.length d) c.moves from fun W hW => h3.below hW)
  have E := Lib.hid (show chkR c n = if !named c.name then 50 else if !fieldsR c then 60 else if !stagesR c then 61 else if decide (8 < (c.moves.length : Int)) then 62 else if !allI (pMove c n) c.moves then 62 else 0 from rfl)
  have hmax := h3.len.2.2.1
  have hnc := h3.len.2.1
  generalize chkR c n = r at *
  clear h1 h2 h3
  have hL : Loc1 w.heap.size 26 #[.string ⟨c.name.toArray⟩, .slice A c.fields.length a, .slice B c.stages.length b, .slice D c.moves.length d] (w.alloc (.cells #[.string ⟨c.name.toArray⟩, .slice A c.fields.length a, .slice B c.stages.length b, .slice D c.moves.length d] 26)) := Loc1.new _ _ _
  have B0 : Below w.heap.size w (w.alloc (.cells #[.string ⟨c.name.toArray⟩, .slice A c.fields.length a, .slice B c.stages.length b, .slice D c.moves.length d] 26)) := bW
  have KK := Lib.hid (show ∀ W : World, Below (w.alloc (.cells #[.string ⟨c.name.toArray⟩, .slice A c.fields.length a, .slice B c.stages.length b, .slice D c.moves.length d] 26)).heap.size (w.alloc (.cells #[.string ⟨c.name.toArray⟩, .slice A c.fields.length a, .slice B c.stages.length b, .slice D c.moves.length d] 26)) W → (W.cell? ⟨w.heap.size, 0, none⟩ = some (.string ⟨c.name.toArray⟩) ∧ W.cell? ⟨w.heap.size, 1, none⟩ = some (.slice A c.fields.length a) ∧ W.cell? ⟨w.heap.size, 2, none⟩ = some (.slice B c.stages.length b) ∧ W.cell? ⟨w.heap.size, 3, none⟩ = some (.slice D c.moves.length d)) ∧ w.heap.size < W.heap.size from fun W hW => ⟨⟨cell_of (hL.bel hW) 0, cell_of (hL.bel hW) 1, cell_of (hL.bel hW) 2, cell_of (hL.bel hW) 3⟩, lt_of_heap (hL.bel hW)⟩)
  clear hL
  by_cases hH : named c.name = true ∧ fieldsR c = true ∧ stagesR c = true ∧ (c.moves.length : Int) ≤ 8
  rotate_left
  · go_enter Tryz.func13, Tryz.ntmps13
    go_wp2_with (first
      | (go_at_call 61; refine (rname_c _).mono ?_; rintro x9 wz ⟨rfl, hb⟩; obtain ⟨⟨c0, c1, c2, c3⟩, hz⟩ := KK.out wz bW)
      | (go_at_call 62; refine (rfields_c (HF.out _ bW)).mono ?_; rintro x9 wz ⟨rfl, hb⟩; obtain ⟨⟨c0, c1, c2, c3⟩, hz⟩ := KK.out wz bW)
      | (go_at_call 63; refine (rstages_c (HS.out _ bW)).mono ?_; rintro x9 wz ⟨rfl, hb⟩; obtain ⟨⟨c0, c1, c2, c3⟩, hz⟩ := KK.out wz bW))
    all_goals clear KK HF HS HM
    all_goals first
      | (go_ret; rw [E.out]; refine ⟨?_, bW⟩; first | (simp [*]; done) | (simp [*]; omega) | (simp_all; done) | (simp_all; omega))
      | (exfalso; apply hH; refine ⟨?_, ?_, ?_, ?_⟩ <;> first | assumption | omega | (simp_all; done))
  obtain ⟨g1, g2, g3, g4⟩ := hH
  replace E := Lib.hid (show r = if !allI (pMove c n) c.moves then 62 else 0 by rw [E.out, g1, g2, g3, decide_eq_false (by omega)]; rfl)
  go_enter Tryz.func13, Tryz.ntmps13
  go_wp2_with fail
  generalize (w.alloc (.cells #[.string ⟨c.name.toArray⟩, .slice A c.fields.length a, .slice B c.stages.length b, .slice D c.moves.length d] 26)) = w0 at *
  obtain ⟨⟨c0, c1, c2, c3⟩, hz⟩ := KK.out w0 bW
  go_wp2_with fail
  refine (rname_c _).mono ?_
  rintro x9 w1 ⟨rfl, hb1⟩
  clear c0 c1 c2 c3 hz
  obtain ⟨⟨c0, c1, c2, c3⟩, hz⟩ := KK.out w1 bW
  go_wp2_with fail
  refine (rfields_c (HF.out _ bW)).mono ?_
  rintro x9 w2 ⟨rfl, hb2⟩
  clear c0 c1 c2 c3 hz
  obtain ⟨⟨c0, c1, c2, c3⟩, hz⟩ := KK.out w2 bW
  go_wp2_with fail
  refine (rstages_c (HS.out _ bW)).mono ?_
  rintro x9 w3 ⟨rfl, hb3⟩
  clear c0 c1 c2 c3 hz
  obtain ⟨⟨c0, c1, c2, c3⟩, hz⟩ := KK.out w3 bW
  go_wp2_with fail
  clear g1 g2 g3 g4
  clear c0 c1 c2 c3 hz
  have hb4 : Below w0.heap.size w0 w3 := bW
  clear hb1 hb2 hb3
  go_loopw [3] (fun x3 wr => ∃ i : Nat, i ≤ c.moves.length ∧ x3 = .int .i64 i ∧ (∀ j e, j < i → c.moves[j]? = some e → pMove c n j e = true) ∧ Below w0.heap.size w0 wr) (fun x3 _ => c.moves.length - (intOf x3).toNat)
  case atStart => exact ⟨0, Nat.zero_le _, rfl, allI_nil, hb4⟩
  case round =>
    clear hb4
    obtain ⟨i, hi, rfl, hp, hb⟩ := hrel
    have HP := Lib.hid hp
    clear hp
    obtain ⟨⟨c0, c1, c2, c3⟩, hz⟩ := KK.out wr bW
    by_cases hlt : i < c.moves.length
    rotate_left
    · have E1 := Lib.hid (show r = 0 by rw [E.out, allI_yes (n := i) (by omega) HP.out]; rfl)
      go_wp2_with fail
      go_ret
      rw [E1.out]
      exact ⟨rfl, bW⟩
    obtain ⟨ad, m, k', M, u, P, p, rfl, hx, hk', hg, he, q0, q1, q2, q3, q4, q5, q6, q7, q8, q9, q10, q11, q12⟩ := mov_at (HM.out wr bW) hlt
    have HX := Lib.hid hx
    have hi0 : (0 : Int) ≤ (i : Int) := by omega
    have hi1 : (i : Int) < (c.moves.length : Int) := by omega
    have HPM := Lib.hid (show pMove c n i m = (named m.name && (idx (fun e => e.name == m.name) c.moves == (i : Int)) && gMove c n m) from rfl)
    have E0 := Lib.hid (show pMove c n i m = false → r = 62 from fun h => by rw [E.out, allI_no HX.out h]; rfl)
    have E1 := Lib.hid (show pMove c n i m = true → ∀ j e, j < i + 1 → c.moves[j]? = some e → pMove c n j e = true from fun h => allI_step HP.out HX.out h)
    have HGM := Lib.hid (show ∀ W : World, Below wr.heap.size wr W → Calls Tryz.prog 65 #[.agg #[.string ⟨c.name.toArray⟩, .slice A c.fields.length a, .slice B c.stages.length b, .slice (some ad) c.moves.length d], .agg #[.string ⟨m.name.toArray⟩, .int .i64 m.frm, .int .i64 m.tgt, .int .i64 m.guard.op, .slice M m.guard.kids.length u, .string ⟨m.guard.name.toArray⟩, .int .i64 m.guard.val.kind, .int .i64 m.guard.val.int, .bool m.guard.val.bool, .string ⟨m.guard.val.text.toArray⟩, .float .f64 m.guard.val.num, .slice P m.effects.length p, .int .i64 m.org]] W (Ret W (.bool (gMove c n m))) from fun W hW => rgmove_c m hk' (HF.out W bW) (hg.below hW) (he.below hW))
    have K12 := Lib.hid (show ∀ W : World, Below wr.heap.size wr W → (W.cell? ⟨w.heap.size, 0, none⟩ = some (.string ⟨c.name.toArray⟩) ∧ W.cell? ⟨w.heap.size, 1, none⟩ = some (.slice A c.fields.length a) ∧ W.cell? ⟨w.heap.size, 2, none⟩ = some (.slice B c.stages.length b) ∧ W.cell? ⟨w.heap.size, 3, none⟩ = some (.slice (some ad) c.moves.length d)) ∧ W.cell? (ad.add (i * 13)) = some (.string ⟨m.name.toArray⟩) ∧ W.cell? ⟨(ad.add (i * 13)).block, (ad.add (i * 13)).off + 1, none⟩ = some (.int .i64 m.frm) ∧ W.cell? ⟨(ad.add (i * 13)).block, (ad.add (i * 13)).off + 2, none⟩ = some (.int .i64 m.tgt) ∧ W.cell? ⟨(ad.add (i * 13)).block, (ad.add (i * 13)).off + 3, none⟩ = some (.int .i64 m.guard.op) ∧ W.cell? ⟨(ad.add (i * 13)).block, (ad.add (i * 13)).off + 4, none⟩ = some (.slice M m.guard.kids.length u) ∧ W.cell? ⟨(ad.add (i * 13)).block, (ad.add (i * 13)).off + 5, none⟩ = some (.string ⟨m.guard.name.toArray⟩) ∧ W.cell? ⟨(ad.add (i * 13)).block, (ad.add (i * 13)).off + 6, none⟩ = some (.int .i64 m.guard.val.kind) ∧ W.cell? ⟨(ad.add (i * 13)).block, (ad.add (i * 13)).off + 7, none⟩ = some (.int .i64 m.guard.val.int) ∧ W.cell? ⟨(ad.add (i * 13)).block, (ad.add (i * 13)).off + 8, none⟩ = some (.bool m.guard.val.bool) ∧ W.cell? ⟨(ad.add (i * 13)).block, (ad.add (i * 13)).off + 9, none⟩ = some (.string ⟨m.guard.val.text.toArray⟩) ∧ W.cell? ⟨(ad.add (i * 13)).block, (ad.add (i * 13)).off + 10, none⟩ = some (.float .f64 m.guard.val.num) ∧ W.cell? ⟨(ad.add (i * 13)).block, (ad.add (i * 13)).off + 11, none⟩ = some (.slice P m.effects.length p) ∧ W.cell? ⟨(ad.add (i * 13)).block, (ad.add (i * 13)).off + 12, none⟩ = some (.int .i64 m.org) from fun W hW => ⟨(KK.out W bW).1, keepC q0 hW, keepC q1 hW, keepC q2 hW, keepC q3 hW, keepC q4 hW, keepC q5 hW, keepC q6 hW, keepC q7 hW, keepC q8 hW, keepC q9 hW, keepC q10 hW, keepC q11 hW, keepC q12 hW⟩)
    clear hx hk' hg he E HP
    cases hnm : named m.name
    · have E2 := Lib.hid (E0.out (by rw [HPM.out, hnm]; rfl))
      go_upto_region 12 with (fail)
      go_quiet ((go_at_call 61; exact quiet_left (rnameQ_c _)))
      go_wp2_with fail
      go_ret
      rw [E2.out]
      exact ⟨rfl, bW⟩
    clear q0 q1 q2 q3 q4 q5 q6 q7 q8 q9 q10 q11 q12
    cases hix : (idx (fun e => e.name == m.name) c.moves != (i : Int))
    rotate_left
    · have E2 := Lib.hid (E0.out (by rw [HPM.out, show (idx (fun e => e.name == m.name) c.moves == (i : Int)) = false by simpa [bne] using hix]; simp))
      go_upto_region 12 with (fail)
      clear c0 c1 c2 c3 hz
      refine wp_region_held_drew (S := fun W => (W.cell? ⟨w.heap.size, 0, none⟩ = some (.string ⟨c.name.toArray⟩) ∧ W.cell? ⟨w.heap.size, 1, none⟩ = some (.slice A c.fields.length a) ∧ W.cell? ⟨w.heap.size, 2, none⟩ = some (.slice B c.stages.length b) ∧ W.cell? ⟨w.heap.size, 3, none⟩ = some (.slice (some ad) c.moves.length d)) ∧ W.cell? (ad.add (i * 13)) = some (.string ⟨m.name.toArray⟩) ∧ W.cell? ⟨(ad.add (i * 13)).block, (ad.add (i * 13)).off + 1, none⟩ = some (.int .i64 m.frm) ∧ W.cell? ⟨(ad.add (i * 13)).block, (ad.add (i * 13)).off + 2, none⟩ = some (.int .i64 m.tgt) ∧ W.cell? ⟨(ad.add (i * 13)).block, (ad.add (i * 13)).off + 3, none⟩ = some (.int .i64 m.guard.op) ∧ W.cell? ⟨(ad.add (i * 13)).block, (ad.add (i * 13)).off + 4, none⟩ = some (.slice M m.guard.kids.length u) ∧ W.cell? ⟨(ad.add (i * 13)).block, (ad.add (i * 13)).off + 5, none⟩ = some (.string ⟨m.guard.name.toArray⟩) ∧ W.cell? ⟨(ad.add (i * 13)).block, (ad.add (i * 13)).off + 6, none⟩ = some (.int .i64 m.guard.val.kind) ∧ W.cell? ⟨(ad.add (i * 13)).block, (ad.add (i * 13)).off + 7, none⟩ = some (.int .i64 m.guard.val.int) ∧ W.cell? ⟨(ad.add (i * 13)).block, (ad.add (i * 13)).off + 8, none⟩ = some (.bool m.guard.val.bool) ∧ W.cell? ⟨(ad.add (i * 13)).block, (ad.add (i * 13)).off + 9, none⟩ = some (.string ⟨m.guard.val.text.toArray⟩) ∧ W.cell? ⟨(ad.add (i * 13)).block, (ad.add (i * 13)).off + 10, none⟩ = some (.float .f64 m.guard.val.num) ∧ W.cell? ⟨(ad.add (i * 13)).block, (ad.add (i * 13)).off + 11, none⟩ = some (.slice P m.effects.length p) ∧ W.cell? ⟨(ad.add (i * 13)).block, (ad.add (i * 13)).off + 12, none⟩ = some (.int .i64 m.org)) (by kernel_rfl) (K12.out _ bW) (fun hHeld => ?_)
      refine wpAnyH_take (i := 0) (oi := { dst := some 25, op := Op.fieldAddr 26 (Operand.tmp 1) 3, type := 0, pos := "ref.go:137", after := #[], guard := none }) (v := .pointer (some ⟨w.heap.size, 3, none⟩)) rfl (by kernel_rfl) (by kernel_rfl) (by kernel_rfl) (fun _ _ _ h => h) (Or.inl ⟨by rfl, by (intro wz hSw; (try dsimp only at hSw); go_simp)⟩) (by assumption) ?_
      try simp only [Act.put, List.setIfInBounds_toArray, List.set_cons_zero, List.set_cons_succ]
      refine wpAnyH_take (i := 1) (oi := { dst := some 26, op := Op.load 24 (Operand.tmp 25), type := 24, pos := "ref.go:137", after := #[{ on := 0, ground := Ground.data }], guard := none }) (v := .slice (some ad) c.moves.length d) rfl (by kernel_rfl) (by kernel_rfl) (by kernel_rfl) (fun _ _ _ h => h) (Or.inl ⟨by rfl, by (intro wz hSw; (try dsimp only at hSw); go_simp)⟩) (by assumption) ?_
      try simp only [Act.put, List.setIfInBounds_toArray, List.set_cons_zero, List.set_cons_succ]
      refine wpAnyH_take (i := 2) (oi := { dst := some 27, op := Op.move (Operand.tmp 3), type := 3, pos := "ref.go:137", after := #[], guard := none }) (v := .int .i64 i) rfl (by kernel_rfl) (by kernel_rfl) (by kernel_rfl) (fun _ _ _ h => h) (Or.inl ⟨by rfl, by (intro wz hSw; (try dsimp only at hSw); go_simp)⟩) (by assumption) ?_
      try simp only [Act.put, List.setIfInBounds_toArray, List.set_cons_zero, List.set_cons_succ]
      refine wpAnyH_take (i := 3) (oi := { dst := some 28, op := Op.indexAddr 24 (Operand.tmp 26) (Operand.tmp 27), type := 0, pos := "ref.go:137", after := #[{ on := 1, ground := Ground.data }, { on := 2, ground := Ground.data }], guard := none }) (v := .pointer (some (ad.add (i * 13)))) rfl (by kernel_rfl) (by kernel_rfl) (by kernel_rfl) (fun _ _ _ h => h) (Or.inl ⟨by rfl, by (intro wz hSw; (try dsimp only at hSw); go_simp)⟩) (by assumption) ?_
      try simp only [Act.put, List.setIfInBounds_toArray, List.set_cons_zero, List.set_cons_succ]
      refine wpAnyH_take (i := 4) (oi := { dst := some 29, op := Op.fieldAddr 47 (Operand.tmp 28) 0, type := 0, pos := "ref.go:137", after := #[{ on := 3, ground := Ground.data }], guard := none }) (v := .pointer (some (ad.add (i * 13)))) rfl (by kernel_rfl) (by kernel_rfl) (by kernel_rfl) (fun _ _ _ h => h) (Or.inl ⟨by rfl, by (intro wz hSw; (try dsimp only at hSw); go_simp)⟩) (by assumption) ?_
      try simp only [Act.put, List.setIfInBounds_toArray, List.set_cons_zero, List.set_cons_succ]
      refine wpAnyH_take (i := 5) (oi := { dst := some 30, op := Op.load 9 (Operand.tmp 29), type := 9, pos := "ref.go:137", after := #[{ on := 4, ground := Ground.data }], guard := none }) (v := .string ⟨m.name.toArray⟩) rfl (by kernel_rfl) (by kernel_rfl) (by kernel_rfl) (fun _ _ _ h => h) (Or.inl ⟨by rfl, by (intro wz hSw; (try dsimp only at hSw); go_simp)⟩) (by assumption) ?_
      try simp only [Act.put, List.setIfInBounds_toArray, List.set_cons_zero, List.set_cons_succ]
      refine wpAnyH_ready (rs := [6]) (by kernel_rfl) (by simp) ?_
      refine AllReadyH.cons (o := { dst := some 31, op := Op.call { callee := Callee.value (Operand.func 61), args := #[Operand.tmp 30], argTypes := #[9] }, type := 4, pos := "ref.go:137", after := #[{ on := 5, ground := Ground.data }], guard := none }) rfl (fun K hK => ?_) AllReadyH.nil
      go_simp
      refine (rname_c m.name).mono ?_
      rintro x9 wz ⟨rfl, hb6⟩
      refine hK.out _ _ (K12.out _ bW) (fun hHeld => ?_)
      clear hK K
      try simp only [Act.put, List.setIfInBounds_toArray, List.set_cons_zero, List.set_cons_succ]
      refine wpAnyH_take (i := 7) (oi := { dst := some 32, op := Op.unOp UnOp.not 4 (Operand.tmp 31), type := 4, pos := "ref.go:137", after := #[{ on := 6, ground := Ground.data }], guard := none }) (v := .bool false) rfl (by kernel_rfl) (by kernel_rfl) (by kernel_rfl) (fun _ _ _ h => h) (Or.inl ⟨by rfl, by (intro wz hSw; (try dsimp only at hSw); go_simp)⟩) (by assumption) ?_
      try simp only [Act.put, List.setIfInBounds_toArray, List.set_cons_zero, List.set_cons_succ]
      refine wpAnyH_take (i := 8) (oi := { dst := some 33, op := Op.move (Operand.tmp 32), type := 4, pos := "ref.go:137", after := #[{ on := 7, ground := Ground.data }, { on := 6, ground := Ground.chain }], guard := none }) (v := .bool false) rfl (by kernel_rfl) (by kernel_rfl) (by kernel_rfl) (fun _ _ _ h => h) (Or.inl ⟨by rfl, by (intro wz hSw; (try dsimp only at hSw); go_simp)⟩) (by assumption) ?_
      try simp only [Act.put, List.setIfInBounds_toArray, List.set_cons_zero, List.set_cons_succ]
      refine wpAnyH_take (i := 9) (oi := { dst := some 34, op := Op.load 26 (Operand.tmp 1), type := 26, pos := "ref.go:137", after := #[{ on := 8, ground := Ground.guard }], guard := some (8, false) }) (v := .agg #[.string ⟨c.name.toArray⟩, .slice A c.fields.length a, .slice B c.stages.length b, .slice (some ad) c.moves.length d]) rfl (by kernel_rfl) (by kernel_rfl) (by kernel_rfl) (fun _ _ _ h => h) (Or.inl ⟨by rfl, by (intro wz hSw; (try dsimp only at hSw); go_simp)⟩) (by assumption) ?_
      try simp only [Act.put, List.setIfInBounds_toArray, List.set_cons_zero, List.set_cons_succ]
      refine wpAnyH_take (i := 10) (oi := { dst := some 35, op := Op.fieldAddr 26 (Operand.tmp 1) 3, type := 0, pos := "ref.go:137", after := #[{ on := 8, ground := Ground.guard }], guard := some (8, false) }) (v := .pointer (some ⟨w.heap.size, 3, none⟩)) rfl (by kernel_rfl) (by kernel_rfl) (by kernel_rfl) (fun _ _ _ h => h) (Or.inl ⟨by rfl, by (intro wz hSw; (try dsimp only at hSw); go_simp)⟩) (by assumption) ?_
      try simp only [Act.put, List.setIfInBounds_toArray, List.set_cons_zero, List.set_cons_succ]
      refine wpAnyH_take (i := 11) (oi := { dst := some 36, op := Op.load 24 (Operand.tmp 35), type := 24, pos := "ref.go:137", after := #[{ on := 10, ground := Ground.data }, { on := 8, ground := Ground.guard }], guard := some (8, false) }) (v := .slice (some ad) c.moves.length d) rfl (by kernel_rfl) (by kernel_rfl) (by kernel_rfl) (fun _ _ _ h => h) (Or.inl ⟨by rfl, by (intro wz hSw; (try dsimp only at hSw); go_simp)⟩) (by assumption) ?_
      try simp only [Act.put, List.setIfInBounds_toArray, List.set_cons_zero, List.set_cons_succ]
      refine wpAnyH_take (i := 12) (oi := { dst := some 37, op := Op.move (Operand.tmp 3), type := 3, pos := "ref.go:137", after := #[{ on := 8, ground := Ground.guard }], guard := some (8, false) }) (v := .int .i64 i) rfl (by kernel_rfl) (by kernel_rfl) (by kernel_rfl) (fun _ _ _ h => h) (Or.inl ⟨by rfl, by (intro wz hSw; (try dsimp only at hSw); go_simp)⟩) (by assumption) ?_
      try simp only [Act.put, List.setIfInBounds_toArray, List.set_cons_zero, List.set_cons_succ]
      refine wpAnyH_take (i := 13) (oi := { dst := some 38, op := Op.indexAddr 24 (Operand.tmp 36) (Operand.tmp 37), type := 0, pos := "ref.go:137", after := #[{ on := 11, ground := Ground.data }, { on := 12, ground := Ground.data }, { on := 8, ground := Ground.guard }], guard := some (8, false) }) (v := .pointer (some (ad.add (i * 13)))) rfl (by kernel_rfl) (by kernel_rfl) (by kernel_rfl) (fun _ _ _ h => h) (Or.inl ⟨by rfl, by (intro wz hSw; (try dsimp only at hSw); go_simp)⟩) (by assumption) ?_
      try simp only [Act.put, List.setIfInBounds_toArray, List.set_cons_zero, List.set_cons_succ]
      refine wpAnyH_take (i := 14) (oi := { dst := some 39, op := Op.fieldAddr 47 (Operand.tmp 38) 0, type := 0, pos := "ref.go:137", after := #[{ on := 13, ground := Ground.data }, { on := 8, ground := Ground.guard }], guard := some (8, false) }) (v := .pointer (some (ad.add (i * 13)))) rfl (by kernel_rfl) (by kernel_rfl) (by kernel_rfl) (fun _ _ _ h => h) (Or.inl ⟨by rfl, by (intro wz hSw; (try dsimp only at hSw); go_simp)⟩) (by assumption) ?_
      try simp only [Act.put, List.setIfInBounds_toArray, List.set_cons_zero, List.set_cons_succ]
      refine wpAnyH_take (i := 15) (oi := { dst := some 40, op := Op.load 9 (Operand.tmp 39), type := 9, pos := "ref.go:137", after := #[{ on := 14, ground := Ground.data }, { on := 8, ground := Ground.guard }], guard := some (8, false) }) (v := .string ⟨m.name.toArray⟩) rfl (by kernel_rfl) (by kernel_rfl) (by kernel_rfl) (fun _ _ _ h => h) (Or.inl ⟨by rfl, by (intro wz hSw; (try dsimp only at hSw); go_simp)⟩) (by assumption) ?_
      try simp only [Act.put, List.setIfInBounds_toArray, List.set_cons_zero, List.set_cons_succ]
      refine wpAnyH_take (i := 17) (oi := { dst := some 42, op := Op.move (Operand.tmp 3), type := 3, pos := "ref.go:137", after := #[{ on := 8, ground := Ground.guard }], guard := some (8, false) }) (v := .int .i64 i) rfl (by kernel_rfl) (by kernel_rfl) (by kernel_rfl) (fun _ _ _ h => h) (Or.inl ⟨by rfl, by (intro wz hSw; (try dsimp only at hSw); go_simp)⟩) (by assumption) ?_
      try simp only [Act.put, List.setIfInBounds_toArray, List.set_cons_zero, List.set_cons_succ]
      refine wpAnyH_ready (rs := [16]) (by kernel_rfl) (by simp) ?_
      refine AllReadyH.cons (o := { dst := some 41, op := Op.call { callee := Callee.value (Operand.func 64), args := #[Operand.tmp 34, Operand.tmp 40], argTypes := #[26, 9] }, type := 3, pos := "ref.go:137", after := #[{ on := 9, ground := Ground.data }, { on := 15, ground := Ground.data }, { on := 8, ground := Ground.chain }, { on := 8, ground := Ground.guard }], guard := some (8, false) }) rfl (fun K hK => ?_) AllReadyH.nil
      go_simp
      refine (rmove_c m.name (HM.out _ bW)).mono ?_
      rintro x9 wz ⟨rfl, hb7⟩
      refine hK.out _ _ (K12.out _ bW) (fun hHeld => ?_)
      clear hK K
      try simp only [Act.put, List.setIfInBounds_toArray, List.set_cons_zero, List.set_cons_succ]
      refine wpAnyH_take (i := 18) (oi := { dst := some 43, op := Op.binOp BinOp.neq 3 (Operand.tmp 41) (Operand.tmp 42) 3, type := 4, pos := "ref.go:137", after := #[{ on := 16, ground := Ground.data }, { on := 17, ground := Ground.data }, { on := 8, ground := Ground.guard }], guard := some (8, false) }) (v := .bool true) rfl (by kernel_rfl) (by kernel_rfl) (by kernel_rfl) (fun _ _ _ h => h) (Or.inl ⟨by rfl, by (intro wz hSw; (try dsimp only at hSw); go_simp)⟩) (by assumption) ?_
      try simp only [Act.put, List.setIfInBounds_toArray, List.set_cons_zero, List.set_cons_succ]
      refine wpAnyH_take (i := 19) (oi := { dst := some 44, op := Op.pick (Operand.tmp 33) (Operand.const (Value.bool true)) (Operand.tmp 43), type := 4, pos := "ref.go:137", after := #[{ on := 8, ground := Ground.data }, { on := 18, ground := Ground.data }], guard := none }) (v := .bool true) rfl (by kernel_rfl) (by kernel_rfl) (by kernel_rfl) (fun _ _ _ h => h) (Or.inl ⟨by rfl, by (intro wz hSw; (try dsimp only at hSw); go_simp)⟩) (by assumption) ?_
      try simp only [Act.put, List.setIfInBounds_toArray, List.set_cons_zero, List.set_cons_succ]
      refine wpAnyH_take (i := 20) (oi := { dst := some 45, op := Op.move (Operand.tmp 44), type := 4, pos := "ref.go:137", after := #[{ on := 19, ground := Ground.data }, { on := 16, ground := Ground.chain }], guard := none }) (v := .bool true) rfl (by kernel_rfl) (by kernel_rfl) (by kernel_rfl) (fun _ _ _ h => h) (Or.inl ⟨by rfl, by (intro wz hSw; (try dsimp only at hSw); go_simp)⟩) (by assumption) ?_
      try simp only [Act.put, List.setIfInBounds_toArray, List.set_cons_zero, List.set_cons_succ]
      refine wpAnyH_take (i := 21) (oi := { dst := some 46, op := Op.load 26 (Operand.tmp 1), type := 26, pos := "ref.go:137", after := #[{ on := 20, ground := Ground.guard }], guard := some (20, false) }) (v := undef) rfl (by kernel_rfl) (by kernel_rfl) (by kernel_rfl) (fun _ _ _ h => h) (Or.inr ⟨by rfl, rfl⟩) (by assumption) ?_
      try simp only [Act.put, List.setIfInBounds_toArray, List.set_cons_zero, List.set_cons_succ]
      refine wpAnyH_take (i := 22) (oi := { dst := some 47, op := Op.fieldAddr 26 (Operand.tmp 1) 3, type := 0, pos := "ref.go:137", after := #[{ on := 20, ground := Ground.guard }], guard := some (20, false) }) (v := undef) rfl (by kernel_rfl) (by kernel_rfl) (by kernel_rfl) (fun _ _ _ h => h) (Or.inr ⟨by rfl, rfl⟩) (by assumption) ?_
      try simp only [Act.put, List.setIfInBounds_toArray, List.set_cons_zero, List.set_cons_succ]
      refine wpAnyH_take (i := 23) (oi := { dst := some 48, op := Op.load 24 (Operand.tmp 47), type := 24, pos := "ref.go:137", after := #[{ on := 22, ground := Ground.data }, { on := 20, ground := Ground.guard }], guard := some (20, false) }) (v := undef) rfl (by kernel_rfl) (by kernel_rfl) (by kernel_rfl) (fun _ _ _ h => h) (Or.inr ⟨by rfl, rfl⟩) (by assumption) ?_
      try simp only [Act.put, List.setIfInBounds_toArray, List.set_cons_zero, List.set_cons_succ]
      refine wpAnyH_take (i := 24) (oi := { dst := some 49, op := Op.move (Operand.tmp 3), type := 3, pos := "ref.go:137", after := #[{ on := 20, ground := Ground.guard }], guard := some (20, false) }) (v := undef) rfl (by kernel_rfl) (by kernel_rfl) (by kernel_rfl) (fun _ _ _ h => h) (Or.inr ⟨by rfl, rfl⟩) (by assumption) ?_
      try simp only [Act.put, List.setIfInBounds_toArray, List.set_cons_zero, List.set_cons_succ]
      refine wpAnyH_take (i := 25) (oi := { dst := some 50, op := Op.indexAddr 24 (Operand.tmp 48) (Operand.tmp 49), type := 0, pos := "ref.go:137", after := #[{ on := 23, ground := Ground.data }, { on := 24, ground := Ground.data }, { on := 20, ground := Ground.guard }], guard := some (20, false) }) (v := undef) rfl (by kernel_rfl) (by kernel_rfl) (by kernel_rfl) (fun _ _ _ h => h) (Or.inr ⟨by rfl, rfl⟩) (by assumption) ?_
      try simp only [Act.put, List.setIfInBounds_toArray, List.set_cons_zero, List.set_cons_succ]
      refine wpAnyH_take (i := 26) (oi := { dst := some 51, op := Op.load 47 (Operand.tmp 50), type := 47, pos := "ref.go:137", after := #[{ on := 25, ground := Ground.data }, { on := 20, ground := Ground.guard }], guard := some (20, false) }) (v := undef) rfl (by kernel_rfl) (by kernel_rfl) (by kernel_rfl) (fun _ _ _ h => h) (Or.inr ⟨by rfl, rfl⟩) (by assumption) ?_
      try simp only [Act.put, List.setIfInBounds_toArray, List.set_cons_zero, List.set_cons_succ]
      refine wpAnyH_take (i := 27) (oi := { dst := some 52, op := Op.call { callee := Callee.value (Operand.func 65), args := #[Operand.tmp 46, Operand.tmp 51], argTypes := #[26, 47] }, type := 4, pos := "ref.go:137", after := #[{ on := 21, ground := Ground.data }, { on := 26, ground := Ground.data }, { on := 20, ground := Ground.chain }, { on := 20, ground := Ground.guard }], guard := some (20, false) }) (v := undef) rfl (by kernel_rfl) (by kernel_rfl) (by kernel_rfl) (fun _ _ _ h => h) (Or.inr ⟨by rfl, rfl⟩) (by assumption) ?_
      try simp only [Act.put, List.setIfInBounds_toArray, List.set_cons_zero, List.set_cons_succ]
      refine wpAnyH_take (i := 28) (oi := { dst := some 53, op := Op.unOp UnOp.not 4 (Operand.tmp 52), type := 4, pos := "ref.go:137", after := #[{ on := 27, ground := Ground.data }, { on := 20, ground := Ground.guard }], guard := some (20, false) }) (v := undef) rfl (by kernel_rfl) (by kernel_rfl) (by kernel_rfl) (fun _ _ _ h => h) (Or.inr ⟨by rfl, rfl⟩) (by assumption) ?_
      try simp only [Act.put, List.setIfInBounds_toArray, List.set_cons_zero, List.set_cons_succ]
      refine wpAnyH_take (i := 29) (oi := { dst := some 54, op := Op.pick (Operand.tmp 45) (Operand.const (Value.bool true)) (Operand.tmp 53), type := 4, pos := "ref.go:137", after := #[{ on := 20, ground := Ground.data }, { on := 28, ground := Ground.data }], guard := none }) (v := .bool true) rfl (by kernel_rfl) (by kernel_rfl) (by kernel_rfl) (fun _ _ _ h => h) (Or.inl ⟨by rfl, by (intro wz hSw; (try dsimp only at hSw); go_simp)⟩) (by assumption) ?_
      try simp only [Act.put, List.setIfInBounds_toArray, List.set_cons_zero, List.set_cons_succ]
      refine wpAnyH_done (by kernel_rfl) ?_ _
      go_wp2_with fail
      go_ret
      rw [E2.out]
      exact ⟨rfl, bW⟩
    have HPM2 := Lib.hid (show pMove c n i m = gMove c n m by rw [HPM.out, hnm, show (idx (fun e => e.name == m.name) c.moves == (i : Int)) = true by simpa [bne] using hix]; rfl)
    go_upto_region 12 with (fail)
    clear c0 c1 c2 c3 hz
    go_region_held3 (fun W => (W.cell? ⟨w.heap.size, 0, none⟩ = some (.string ⟨c.name.toArray⟩) ∧ W.cell? ⟨w.heap.size, 1, none⟩ = some (.slice A c.fields.length a) ∧ W.cell? ⟨w.heap.size, 2, none⟩ = some (.slice B c.stages.length b) ∧ W.cell? ⟨w.heap.size, 3, none⟩ = some (.slice (some ad) c.moves.length d)) ∧ W.cell? (ad.add (i * 13)) = some (.string ⟨m.name.toArray⟩) ∧ W.cell? ⟨(ad.add (i * 13)).block, (ad.add (i * 13)).off + 1, none⟩ = some (.int .i64 m.frm) ∧ W.cell? ⟨(ad.add (i * 13)).block, (ad.add (i * 13)).off + 2, none⟩ = some (.int .i64 m.tgt) ∧ W.cell? ⟨(ad.add (i * 13)).block, (ad.add (i * 13)).off + 3, none⟩ = some (.int .i64 m.guard.op) ∧ W.cell? ⟨(ad.add (i * 13)).block, (ad.add (i * 13)).off + 4, none⟩ = some (.slice M m.guard.kids.length u) ∧ W.cell? ⟨(ad.add (i * 13)).block, (ad.add (i * 13)).off + 5, none⟩ = some (.string ⟨m.guard.name.toArray⟩) ∧ W.cell? ⟨(ad.add (i * 13)).block, (ad.add (i * 13)).off + 6, none⟩ = some (.int .i64 m.guard.val.kind) ∧ W.cell? ⟨(ad.add (i * 13)).block, (ad.add (i * 13)).off + 7, none⟩ = some (.int .i64 m.guard.val.int) ∧ W.cell? ⟨(ad.add (i * 13)).block, (ad.add (i * 13)).off + 8, none⟩ = some (.bool m.guard.val.bool) ∧ W.cell? ⟨(ad.add (i * 13)).block, (ad.add (i * 13)).off + 9, none⟩ = some (.string ⟨m.guard.val.text.toArray⟩) ∧ W.cell? ⟨(ad.add (i * 13)).block, (ad.add (i * 13)).off + 10, none⟩ = some (.float .f64 m.guard.val.num) ∧ W.cell? ⟨(ad.add (i * 13)).block, (ad.add (i * 13)).off + 11, none⟩ = some (.slice P m.effects.length p) ∧ W.cell? ⟨(ad.add (i * 13)).block, (ad.add (i * 13)).off + 12, none⟩ = some (.int .i64 m.org)) (exact K12.out _ bW)
      (first
      | (go_at_call 61; refine (rname_c m.name).mono ?_; rintro x9 w6 ⟨rfl, hb6⟩)
      | (go_at_call 64; refine (rmove_c m.name (HM.out _ bW)).mono ?_; rintro x9 w7 ⟨rfl, hb7⟩)
      | (go_at_call 65; refine (HGM.out _ bW).mono ?_; rintro x9 w8 ⟨rfl, hb8⟩))
    cases hgm : gMove c n m
    · have E2 := Lib.hid (E0.out (HPM2.out.trans hgm))
      go_wp2_with fail
      go_ret
      rw [E2.out]
      exact ⟨rfl, bW⟩
    · have HM2 := Lib.hid (E1.out (HPM2.out.trans hgm))
      go_wp2_with fail
      go_roundw
      case rel => exact ⟨i + 1, by omega, by go_num, HM2.out, bW⟩
      case measure => simp [intOf]; omega
end
end Go.Proofs.YtjnhgfmjehaalaaGreat
