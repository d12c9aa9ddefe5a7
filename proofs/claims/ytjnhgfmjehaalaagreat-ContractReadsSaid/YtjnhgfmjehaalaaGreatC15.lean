/- Chapter 6: the reference's Check, whole. -/
import Derived.Test.YtjnhgfmjehaalaaGreatMI
import Derived.Test.YtjnhgfmjehaalaaGreatRL
namespace Go.Proofs.YtjnhgfmjehaalaaGreat
open Go.RowKit
set_option linter.unusedVariables false
set_option linter.unusedSimpArgs false
def pMove (c : Con) (n : Nat) (i : Nat) (m : Mov) : Bool := named m.name && (idx (fun e => e.name == m.name) c.moves == (i : Int)) && gMove c n m
def chkR (c : Con) (n : Nat) : Int := if !named c.name then 50 else if !fieldsR c then 60 else if !stagesR c then 61 else if decide (8 < (c.moves.length : Int)) then 62 else if !allI (pMove c n) c.moves then 62 else 0
section
variable {w : World}
theorem rnameQ_c (s : List UInt8) : Calls Tryz.prog 61 #[.string ⟨s.toArray⟩] w fun e w' => e = .returned (.bool (named s)) ∧ w = w' := by
 have E := Lib.hid (named_eq s)
 generalize named s = r at *
 by_cases h1 : (1 : Int) ≤ (s.length : Int)
 ·by_cases h2 : (s.length : Int) ≤ 16
  ·have E1 := Lib.hid (show r = true by rw [E.out, decide_eq_true (by omega), decide_eq_true (by omega)]; rfl)
   go_enter Tryz.func61, Tryz.ntmps61
   go_wp2_with fail
   go_ret
   rw [E1.out]
   exact ⟨rfl, rfl⟩
  ·have E1 := Lib.hid (show r = false by rw [E.out, decide_eq_false (show ¬ s.length ≤ 16 by omega), Bool.and_false])
   go_enter Tryz.func61, Tryz.ntmps61
   go_wp2_with fail
   go_ret
   rw [E1.out]
   exact ⟨by simp; try omega, rfl⟩
 ·have E1 := Lib.hid (show r = false by rw [E.out, decide_eq_false (show ¬ 0 < s.length by omega)]; rfl)
  go_enter Tryz.func61, Tryz.ntmps61
  go_wp2_with fail
  go_ret
  rw [E1.out]
  exact ⟨rfl, rfl⟩
set_option maxRecDepth 20000 in
set_option maxHeartbeats 4000000 in
theorem checkR_c {A B D : Option Addr} {a b d : Nat} {c : Con} {n : Nat} (h1 : Sl kFld (fun _ => True) w (.slice A c.fields.length a) c.fields) (h2 : Sl kStg (fun _ => True) w (.slice B c.stages.length b) c.stages) (h3 : Sl (kMov n) (fun _ => True) w (.slice D c.moves.length d) c.moves) :
 Calls Tryz.prog 13 #[.agg #[.string ⟨c.name.toArray⟩, .slice A c.fields.length a, .slice B c.stages.length b, .slice D c.moves.length d]] w (Ret w (.int .i64 (chkR c n))) := by
 have SF := store_f64
 have HF := hidS h1
 have HS := hidS h2
 have HM := hidS h3
 have E := Lib.hid (show chkR c n = if !named c.name then 50 else if !fieldsR c then 60 else if !stagesR c then 61 else if decide (8 < (c.moves.length : Int)) then 62 else if !allI (pMove c n) c.moves then 62 else 0 from rfl)
 have hmax := h3.len.2.2.1
 have hnc := h3.len.2.1
 generalize chkR c n = r at *
 clear h1 h2 h3
 have hL := Loc1.new w 26 #[.string ⟨c.name.toArray⟩, .slice A c.fields.length a, .slice B c.stages.length b, .slice D c.moves.length d]
 have B0 : Below w.heap.size w (w.alloc (.cells #[.string ⟨c.name.toArray⟩, .slice A c.fields.length a, .slice B c.stages.length b, .slice D c.moves.length d] 26)) := bW
 have KK := kk4 hL
 clear hL
 by_cases hH : named c.name = true ∧ fieldsR c = true ∧ stagesR c = true ∧ (c.moves.length : Int) ≤ 8
 rotate_left
 ·go_enter Tryz.func13, Tryz.ntmps13
  go_wp2_with (first
   | (go_at_call 61; refine (rname_c _).mono ?_; rintro x9 wz ⟨rfl, hb⟩; obtain ⟨⟨c0, c1, c2, c3⟩, hz⟩ := KK.out wz bW)
   | (go_at_call 62; refine (rfields_c (HF.out _ bW)).mono ?_; rintro x9 wz ⟨rfl, hb⟩; obtain ⟨⟨c0, c1, c2, c3⟩, hz⟩ := KK.out wz bW)
   | (go_at_call 63; refine (rstages_c (HS.out _ bW)).mono ?_; rintro x9 wz ⟨rfl, hb⟩; obtain ⟨⟨c0, c1, c2, c3⟩, hz⟩ := KK.out wz bW))
  all_goals clear KK HF HS HM
  all_goals first
   | (go_ret; rw [E.out]; refine ⟨?_, bW⟩; first | (simp [*]; done) | (simp [*]; omega) | (simp_all; done) | (simp_all; omega))
   | (exfalso; apply hH; refine ⟨?_, ?_, ?_, ?_⟩ <;> first | assumption | omega | (simp_all; done))
 obtain ⟨g1, g2, g3, g4⟩ := hH
 replace E := Lib.hid (show r = if !allI (pMove c n) c.moves then 62 else 0 by rw [E.out, g1, g2, g3, decide_eq_false (by omega)]; rfl)
 go_enter Tryz.func13, Tryz.ntmps13
 go_wp2_with fail
 generalize (w.alloc (.cells #[.string ⟨c.name.toArray⟩, .slice A c.fields.length a, .slice B c.stages.length b, .slice D c.moves.length d] 26)) = w0 at *
 obtain ⟨⟨c0, c1, c2, c3⟩, hz⟩ := KK.out w0 bW
 go_wp2_with fail
 refine (rname_c _).mono ?_
 rintro x9 w1 ⟨rfl, hb1⟩
 clear c0 c1 c2 c3 hz
 obtain ⟨⟨c0, c1, c2, c3⟩, hz⟩ := KK.out w1 bW
 go_wp2_with fail
 refine (rfields_c (HF.out _ bW)).mono ?_
 rintro x9 w2 ⟨rfl, hb2⟩
 clear c0 c1 c2 c3 hz
 obtain ⟨⟨c0, c1, c2, c3⟩, hz⟩ := KK.out w2 bW
 go_wp2_with fail
 refine (rstages_c (HS.out _ bW)).mono ?_
 rintro x9 w3 ⟨rfl, hb3⟩
 clear c0 c1 c2 c3 hz
 obtain ⟨⟨c0, c1, c2, c3⟩, hz⟩ := KK.out w3 bW
 go_wp2_with fail
 clear g1 g2 g3 g4
 clear c0 c1 c2 c3 hz
 have hb4 : Below w0.heap.size w0 w3 := bW
 clear hb1 hb2 hb3
 go_loopw [3] (fun x3 wr => ∃ i : Nat, i ≤ c.moves.length ∧ x3 = .int .i64 i ∧ (∀ j e, j < i → c.moves[j]? = some e → pMove c n j e = true) ∧ Below w0.heap.size w0 wr) (fun x3 _ => c.moves.length - (intOf x3).toNat)
 case atStart => exact ⟨0, Nat.zero_le _, rfl, allI_nil, hb4⟩
 case round =>
  clear hb4
  obtain ⟨i, hi, rfl, hp, hb⟩ := hrel
  have HP := Lib.hid hp
  clear hp
  obtain ⟨⟨c0, c1, c2, c3⟩, hz⟩ := KK.out wr bW
  by_cases hlt : i < c.moves.length
  rotate_left
  ·have E1 := Lib.hid (show r = 0 by rw [E.out, allI_yes (n := i) (by omega) HP.out]; rfl)
   go_wp2_with fail
   go_ret
   rw [E1.out]
   exact ⟨rfl, bW⟩
  obtain ⟨ad, m, k', M, u, P, p, rfl, hx, hk', hg, he, q0, q1, q2, q3, q4, q5, q6, q7, q8, q9, q10, q11, q12⟩ := mov_at (HM.out wr bW) hlt
  have HX := Lib.hid hx
  have hi0 : (0 : Int) ≤ (i : Int) := by omega
  have hi1 : (i : Int) < (c.moves.length : Int) := by omega
  have HPM := Lib.hid (show pMove c n i m = (named m.name && (idx (fun e => e.name == m.name) c.moves == (i : Int)) && gMove c n m) from rfl)
  have E0 := Lib.hid (show pMove c n i m = false → r = 62 from fun h => by rw [E.out, allI_no HX.out h]; rfl)
  have E1 := Lib.hid (show pMove c n i m = true → ∀ j e, j < i + 1 → c.moves[j]? = some e → pMove c n j e = true from fun h => allI_step HP.out HX.out h)
  have HGM := Lib.hid (show ∀ W : World, Below wr.heap.size wr W → Calls Tryz.prog 65 #[.agg #[.string ⟨c.name.toArray⟩, .slice A c.fields.length a, .slice B c.stages.length b, .slice (some ad) c.moves.length d], .agg #[.string ⟨m.name.toArray⟩, .int .i64 m.frm, .int .i64 m.tgt, .int .i64 m.guard.op, .slice M m.guard.kids.length u, .string ⟨m.guard.name.toArray⟩, .int .i64 m.guard.val.kind, .int .i64 m.guard.val.int, .bool m.guard.val.bool, .string ⟨m.guard.val.text.toArray⟩, .float .f64 m.guard.val.num, .slice P m.effects.length p, .int .i64 m.org]] W (Ret W (.bool (gMove c n m))) from fun W hW => rgmove_c m hk' (HF.out W bW) (hg.below hW) (he.below hW))
  have K12 := Lib.hid (show ∀ W : World, Below wr.heap.size wr W → (W.cell? ⟨w.heap.size, 0, none⟩ = some (.string ⟨c.name.toArray⟩) ∧ W.cell? ⟨w.heap.size, 1, none⟩ = some (.slice A c.fields.length a) ∧ W.cell? ⟨w.heap.size, 2, none⟩ = some (.slice B c.stages.length b) ∧ W.cell? ⟨w.heap.size, 3, none⟩ = some (.slice (some ad) c.moves.length d)) ∧ W.cell? (ad.add (i * 13)) = some (.string ⟨m.name.toArray⟩) ∧ W.cell? ⟨(ad.add (i * 13)).block, (ad.add (i * 13)).off + 1, none⟩ = some (.int .i64 m.frm) ∧ W.cell? ⟨(ad.add (i * 13)).block, (ad.add (i * 13)).off + 2, none⟩ = some (.int .i64 m.tgt) ∧ W.cell? ⟨(ad.add (i * 13)).block, (ad.add (i * 13)).off + 3, none⟩ = some (.int .i64 m.guard.op) ∧ W.cell? ⟨(ad.add (i * 13)).block, (ad.add (i * 13)).off + 4, none⟩ = some (.slice M m.guard.kids.length u) ∧ W.cell? ⟨(ad.add (i * 13)).block, (ad.add (i * 13)).off + 5, none⟩ = some (.string ⟨m.guard.name.toArray⟩) ∧ W.cell? ⟨(ad.add (i * 13)).block, (ad.add (i * 13)).off + 6, none⟩ = some (.int .i64 m.guard.val.kind) ∧ W.cell? ⟨(ad.add (i * 13)).block, (ad.add (i * 13)).off + 7, none⟩ = some (.int .i64 m.guard.val.int) ∧ W.cell? ⟨(ad.add (i * 13)).block, (ad.add (i * 13)).off + 8, none⟩ = some (.bool m.guard.val.bool) ∧ W.cell? ⟨(ad.add (i * 13)).block, (ad.add (i * 13)).off + 9, none⟩ = some (.string ⟨m.guard.val.text.toArray⟩) ∧ W.cell? ⟨(ad.add (i * 13)).block, (ad.add (i * 13)).off + 10, none⟩ = some (.float .f64 m.guard.val.num) ∧ W.cell? ⟨(ad.add (i * 13)).block, (ad.add (i * 13)).off + 11, none⟩ = some (.slice P m.effects.length p) ∧ W.cell? ⟨(ad.add (i * 13)).block, (ad.add (i * 13)).off + 12, none⟩ = some (.int .i64 m.org) from fun W hW => ⟨(KK.out W bW).1, keepC q0 hW, keepC q1 hW, keepC q2 hW, keepC q3 hW, keepC q4 hW, keepC q5 hW, keepC q6 hW, keepC q7 hW, keepC q8 hW, keepC q9 hW, keepC q10 hW, keepC q11 hW, keepC q12 hW⟩)
  clear hx hk' hg he E HP
  cases hnm : named m.name
  ·have E2 := Lib.hid (E0.out (by rw [HPM.out, hnm]; rfl))
   go_upto_region 12 with (fail)
   go_quiet ((go_at_call 61; exact quiet_left (rnameQ_c _)))
   go_wp2_with fail
   go_ret
   rw [E2.out]
   exact ⟨rfl, bW⟩
  clear q0 q1 q2 q3 q4 q5 q6 q7 q8 q9 q10 q11 q12
  cases hix : (idx (fun e => e.name == m.name) c.moves != (i : Int))
  rotate_left
  ·have E2 := Lib.hid (E0.out (by rw [HPM.out, show (idx (fun e => e.name == m.name) c.moves == (i : Int)) = false by simpa [bne] using hix]; simp))
   go_upto_region 12 with (fail)
   clear c0 c1 c2 c3 hz
   refine wp_region_held_drew (S := fun W => (W.cell? ⟨w.heap.size, 0, none⟩ = some (.string ⟨c.name.toArray⟩) ∧ W.cell? ⟨w.heap.size, 1, none⟩ = some (.slice A c.fields.length a) ∧ W.cell? ⟨w.heap.size, 2, none⟩ = some (.slice B c.stages.length b) ∧ W.cell? ⟨w.heap.size, 3, none⟩ = some (.slice (some ad) c.moves.length d)) ∧ W.cell? (ad.add (i * 13)) = some (.string ⟨m.name.toArray⟩) ∧ W.cell? ⟨(ad.add (i * 13)).block, (ad.add (i * 13)).off + 1, none⟩ = some (.int .i64 m.frm) ∧ W.cell? ⟨(ad.add (i * 13)).block, (ad.add (i * 13)).off + 2, none⟩ = some (.int .i64 m.tgt) ∧ W.cell? ⟨(ad.add (i * 13)).block, (ad.add (i * 13)).off + 3, none⟩ = some (.int .i64 m.guard.op) ∧ W.cell? ⟨(ad.add (i * 13)).block, (ad.add (i * 13)).off + 4, none⟩ = some (.slice M m.guard.kids.length u) ∧ W.cell? ⟨(ad.add (i * 13)).block, (ad.add (i * 13)).off + 5, none⟩ = some (.string ⟨m.guard.name.toArray⟩) ∧ W.cell? ⟨(ad.add (i * 13)).block, (ad.add (i * 13)).off + 6, none⟩ = some (.int .i64 m.guard.val.kind) ∧ W.cell? ⟨(ad.add (i * 13)).block, (ad.add (i * 13)).off + 7, none⟩ = some (.int .i64 m.guard.val.int) ∧ W.cell? ⟨(ad.add (i * 13)).block, (ad.add (i * 13)).off + 8, none⟩ = some (.bool m.guard.val.bool) ∧ W.cell? ⟨(ad.add (i * 13)).block, (ad.add (i * 13)).off + 9, none⟩ = some (.string ⟨m.guard.val.text.toArray⟩) ∧ W.cell? ⟨(ad.add (i * 13)).block, (ad.add (i * 13)).off + 10, none⟩ = some (.float .f64 m.guard.val.num) ∧ W.cell? ⟨(ad.add (i * 13)).block, (ad.add (i * 13)).off + 11, none⟩ = some (.slice P m.effects.length p) ∧ W.cell? ⟨(ad.add (i * 13)).block, (ad.add (i * 13)).off + 12, none⟩ = some (.int .i64 m.org)) (by kernel_rfl) (K12.out _ bW) (fun hHeld => ?_)
   refine takeL 0 25 (.pointer (some ⟨w.heap.size, 3, none⟩)) rfl rfl (by kernel_rfl) (fun _ _ _ h => h) (Or.inl ⟨by rfl, by (intro wz hSw; (try dsimp only at hSw); go_simp)⟩) (by assumption) ?_
   try simp only [Act.put, nrmA, nrmZ, nrmS]
   refine takeL 1 26 (.slice (some ad) c.moves.length d) rfl rfl (by kernel_rfl) (fun _ _ _ h => h) (Or.inl ⟨by rfl, by (intro wz hSw; (try dsimp only at hSw); go_simp)⟩) (by assumption) ?_
   try simp only [Act.put, nrmA, nrmZ, nrmS]
   refine takeL 2 27 (.int .i64 i) rfl rfl (by kernel_rfl) (fun _ _ _ h => h) (Or.inl ⟨by rfl, by (intro wz hSw; (try dsimp only at hSw); go_simp)⟩) (by assumption) ?_
   try simp only [Act.put, nrmA, nrmZ, nrmS]
   refine takeL 3 28 (.pointer (some (ad.add (i * 13)))) rfl rfl (by kernel_rfl) (fun _ _ _ h => h) (Or.inl ⟨by rfl, by (intro wz hSw; (try dsimp only at hSw); go_simp)⟩) (by assumption) ?_
   try simp only [Act.put, nrmA, nrmZ, nrmS]
   refine takeL 4 29 (.pointer (some (ad.add (i * 13)))) rfl rfl (by kernel_rfl) (fun _ _ _ h => h) (Or.inl ⟨by rfl, by (intro wz hSw; (try dsimp only at hSw); go_simp)⟩) (by assumption) ?_
   try simp only [Act.put, nrmA, nrmZ, nrmS]
   refine takeL 5 30 (.string ⟨m.name.toArray⟩) rfl rfl (by kernel_rfl) (fun _ _ _ h => h) (Or.inl ⟨by rfl, by (intro wz hSw; (try dsimp only at hSw); go_simp)⟩) (by assumption) ?_
   try simp only [Act.put, nrmA, nrmZ, nrmS]
   refine rdL 6 rfl (by kernel_rfl) fun K hK => ?_
   go_simp
   refine (rname_c m.name).mono ?_
   rintro x9 wz ⟨rfl, hb6⟩
   refine hK.out _ _ (K12.out _ bW) (fun hHeld => ?_)
   clear hK K
   try simp only [Act.put, nrmA, nrmZ, nrmS]
   refine takeL 7 32 (.bool false) rfl rfl (by kernel_rfl) (fun _ _ _ h => h) (Or.inl ⟨by rfl, by (intro wz hSw; (try dsimp only at hSw); go_simp)⟩) (by assumption) ?_
   try simp only [Act.put, nrmA, nrmZ, nrmS]
   refine takeL 8 33 (.bool false) rfl rfl (by kernel_rfl) (fun _ _ _ h => h) (Or.inl ⟨by rfl, by (intro wz hSw; (try dsimp only at hSw); go_simp)⟩) (by assumption) ?_
   try simp only [Act.put, nrmA, nrmZ, nrmS]
   refine takeL 9 34 (.agg #[.string ⟨c.name.toArray⟩, .slice A c.fields.length a, .slice B c.stages.length b, .slice (some ad) c.moves.length d]) rfl rfl (by kernel_rfl) (fun _ _ _ h => h) (Or.inl ⟨by rfl, by (intro wz hSw; (try dsimp only at hSw); go_simp)⟩) (by assumption) ?_
   try simp only [Act.put, nrmA, nrmZ, nrmS]
   refine takeL 10 35 (.pointer (some ⟨w.heap.size, 3, none⟩)) rfl rfl (by kernel_rfl) (fun _ _ _ h => h) (Or.inl ⟨by rfl, by (intro wz hSw; (try dsimp only at hSw); go_simp)⟩) (by assumption) ?_
   try simp only [Act.put, nrmA, nrmZ, nrmS]
   refine takeL 11 36 (.slice (some ad) c.moves.length d) rfl rfl (by kernel_rfl) (fun _ _ _ h => h) (Or.inl ⟨by rfl, by (intro wz hSw; (try dsimp only at hSw); go_simp)⟩) (by assumption) ?_
   try simp only [Act.put, nrmA, nrmZ, nrmS]
   refine takeL 12 37 (.int .i64 i) rfl rfl (by kernel_rfl) (fun _ _ _ h => h) (Or.inl ⟨by rfl, by (intro wz hSw; (try dsimp only at hSw); go_simp)⟩) (by assumption) ?_
   try simp only [Act.put, nrmA, nrmZ, nrmS]
   refine takeL 13 38 (.pointer (some (ad.add (i * 13)))) rfl rfl (by kernel_rfl) (fun _ _ _ h => h) (Or.inl ⟨by rfl, by (intro wz hSw; (try dsimp only at hSw); go_simp)⟩) (by assumption) ?_
   try simp only [Act.put, nrmA, nrmZ, nrmS]
   refine takeL 14 39 (.pointer (some (ad.add (i * 13)))) rfl rfl (by kernel_rfl) (fun _ _ _ h => h) (Or.inl ⟨by rfl, by (intro wz hSw; (try dsimp only at hSw); go_simp)⟩) (by assumption) ?_
   try simp only [Act.put, nrmA, nrmZ, nrmS]
   refine takeL 15 40 (.string ⟨m.name.toArray⟩) rfl rfl (by kernel_rfl) (fun _ _ _ h => h) (Or.inl ⟨by rfl, by (intro wz hSw; (try dsimp only at hSw); go_simp)⟩) (by assumption) ?_
   try simp only [Act.put, nrmA, nrmZ, nrmS]
   refine takeL 17 42 (.int .i64 i) rfl rfl (by kernel_rfl) (fun _ _ _ h => h) (Or.inl ⟨by rfl, by (intro wz hSw; (try dsimp only at hSw); go_simp)⟩) (by assumption) ?_
   try simp only [Act.put, nrmA, nrmZ, nrmS]
   refine rdL 16 rfl (by kernel_rfl) fun K hK => ?_
   go_simp
   refine (rmove_c m.name (HM.out _ bW)).mono ?_
   rintro x9 wz ⟨rfl, hb7⟩
   refine hK.out _ _ (K12.out _ bW) (fun hHeld => ?_)
   clear hK K
   try simp only [Act.put, nrmA, nrmZ, nrmS]
   refine takeL 18 43 (.bool true) rfl rfl (by kernel_rfl) (fun _ _ _ h => h) (Or.inl ⟨by rfl, by (intro wz hSw; (try dsimp only at hSw); go_simp)⟩) (by assumption) ?_
   try simp only [Act.put, nrmA, nrmZ, nrmS]
   refine takeL 19 44 (.bool true) rfl rfl (by kernel_rfl) (fun _ _ _ h => h) (Or.inl ⟨by rfl, by (intro wz hSw; (try dsimp only at hSw); go_simp)⟩) (by assumption) ?_
   try simp only [Act.put, nrmA, nrmZ, nrmS]
   refine takeL 20 45 (.bool true) rfl rfl (by kernel_rfl) (fun _ _ _ h => h) (Or.inl ⟨by rfl, by (intro wz hSw; (try dsimp only at hSw); go_simp)⟩) (by assumption) ?_
   try simp only [Act.put, nrmA, nrmZ, nrmS]
   refine skipL 21 rfl (by kernel_rfl) (fun _ _ _ h => h) (Or.inr ⟨by rfl, rfl⟩) (by assumption) ?_
   try simp only [Act.put, nrmA, nrmZ, nrmS]
   refine skipL 22 rfl (by kernel_rfl) (fun _ _ _ h => h) (Or.inr ⟨by rfl, rfl⟩) (by assumption) ?_
   try simp only [Act.put, nrmA, nrmZ, nrmS]
   refine skipL 23 rfl (by kernel_rfl) (fun _ _ _ h => h) (Or.inr ⟨by rfl, rfl⟩) (by assumption) ?_
   try simp only [Act.put, nrmA, nrmZ, nrmS]
   refine skipL 24 rfl (by kernel_rfl) (fun _ _ _ h => h) (Or.inr ⟨by rfl, rfl⟩) (by assumption) ?_
   try simp only [Act.put, nrmA, nrmZ, nrmS]
   refine skipL 25 rfl (by kernel_rfl) (fun _ _ _ h => h) (Or.inr ⟨by rfl, rfl⟩) (by assumption) ?_
   try simp only [Act.put, nrmA, nrmZ, nrmS]
   refine skipL 26 rfl (by kernel_rfl) (fun _ _ _ h => h) (Or.inr ⟨by rfl, rfl⟩) (by assumption) ?_
   try simp only [Act.put, nrmA, nrmZ, nrmS]
   refine skipL 27 rfl (by kernel_rfl) (fun _ _ _ h => h) (Or.inr ⟨by rfl, rfl⟩) (by assumption) ?_
   try simp only [Act.put, nrmA, nrmZ, nrmS]
   refine skipL 28 rfl (by kernel_rfl) (fun _ _ _ h => h) (Or.inr ⟨by rfl, rfl⟩) (by assumption) ?_
   try simp only [Act.put, nrmA, nrmZ, nrmS]
   refine takeL 29 54 (.bool true) rfl rfl (by kernel_rfl) (fun _ _ _ h => h) (Or.inl ⟨by rfl, by (intro wz hSw; (try dsimp only at hSw); go_simp)⟩) (by assumption) ?_
   try simp only [Act.put, nrmA, nrmZ, nrmS]
   refine wpAnyH_done (by kernel_rfl) ?_ _
   go_wp2_with fail
   go_ret
   rw [E2.out]
   exact ⟨rfl, bW⟩
  have HPM2 := Lib.hid (show pMove c n i m = gMove c n m by rw [HPM.out, hnm, show (idx (fun e => e.name == m.name) c.moves == (i : Int)) = true by simpa [bne] using hix]; rfl)
  go_upto_region 12 with (fail)
  clear c0 c1 c2 c3 hz
  go_region_held3 (fun W => (W.cell? ⟨w.heap.size, 0, none⟩ = some (.string ⟨c.name.toArray⟩) ∧ W.cell? ⟨w.heap.size, 1, none⟩ = some (.slice A c.fields.length a) ∧ W.cell? ⟨w.heap.size, 2, none⟩ = some (.slice B c.stages.length b) ∧ W.cell? ⟨w.heap.size, 3, none⟩ = some (.slice (some ad) c.moves.length d)) ∧ W.cell? (ad.add (i * 13)) = some (.string ⟨m.name.toArray⟩) ∧ W.cell? ⟨(ad.add (i * 13)).block, (ad.add (i * 13)).off + 1, none⟩ = some (.int .i64 m.frm) ∧ W.cell? ⟨(ad.add (i * 13)).block, (ad.add (i * 13)).off + 2, none⟩ = some (.int .i64 m.tgt) ∧ W.cell? ⟨(ad.add (i * 13)).block, (ad.add (i * 13)).off + 3, none⟩ = some (.int .i64 m.guard.op) ∧ W.cell? ⟨(ad.add (i * 13)).block, (ad.add (i * 13)).off + 4, none⟩ = some (.slice M m.guard.kids.length u) ∧ W.cell? ⟨(ad.add (i * 13)).block, (ad.add (i * 13)).off + 5, none⟩ = some (.string ⟨m.guard.name.toArray⟩) ∧ W.cell? ⟨(ad.add (i * 13)).block, (ad.add (i * 13)).off + 6, none⟩ = some (.int .i64 m.guard.val.kind) ∧ W.cell? ⟨(ad.add (i * 13)).block, (ad.add (i * 13)).off + 7, none⟩ = some (.int .i64 m.guard.val.int) ∧ W.cell? ⟨(ad.add (i * 13)).block, (ad.add (i * 13)).off + 8, none⟩ = some (.bool m.guard.val.bool) ∧ W.cell? ⟨(ad.add (i * 13)).block, (ad.add (i * 13)).off + 9, none⟩ = some (.string ⟨m.guard.val.text.toArray⟩) ∧ W.cell? ⟨(ad.add (i * 13)).block, (ad.add (i * 13)).off + 10, none⟩ = some (.float .f64 m.guard.val.num) ∧ W.cell? ⟨(ad.add (i * 13)).block, (ad.add (i * 13)).off + 11, none⟩ = some (.slice P m.effects.length p) ∧ W.cell? ⟨(ad.add (i * 13)).block, (ad.add (i * 13)).off + 12, none⟩ = some (.int .i64 m.org)) (exact K12.out _ bW)
   (first
   | (go_at_call 61; refine (rname_c m.name).mono ?_; rintro x9 w6 ⟨rfl, hb6⟩)
   | (go_at_call 64; refine (rmove_c m.name (HM.out _ bW)).mono ?_; rintro x9 w7 ⟨rfl, hb7⟩)
   | (go_at_call 65; refine (HGM.out _ bW).mono ?_; rintro x9 w8 ⟨rfl, hb8⟩))
  cases hgm : gMove c n m
  ·have E2 := Lib.hid (E0.out (HPM2.out.trans hgm))
   go_wp2_with fail
   go_ret
   rw [E2.out]
   exact ⟨rfl, bW⟩
  ·have HM2 := Lib.hid (E1.out (HPM2.out.trans hgm))
   go_wp2_with fail
   go_roundw
   case rel => exact ⟨i + 1, by omega, by go_num, HM2.out, bW⟩
   case measure => simp [intOf]; omega
end
end Go.Proofs.YtjnhgfmjehaalaaGreat
