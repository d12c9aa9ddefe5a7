/- Chapter 6: the reference's moves. -/
import Derived.Test.YtjnhgfmjehaalaaC13
import Derived.Test.YtjnhgfmjehaalaaC10
import Derived.Test.YtjnhgfmjehaalaaC9
import Derived.Test.YtjnhgfmjehaalaaC6
namespace Go.Proofs.Ytjnhgfmjehaalaa
open Go.RowKit
set_option linter.unusedVariables false
set_option linter.unusedSimpArgs false
def pMv (c : Con) (n : Nat) (l : List Eff) (i : Nat) (x : Eff) : Bool := gEff c.fields n x && (idx (fun y => y.field == x.field) l == (i : Int))
theorem idx_map {α β : Type} (f : α → β) (p : β → Bool) (l : List α) : idx p (l.map f) = idx (fun x => p (f x)) l := by
  unfold idx
  rw [List.findIdx?_map]
  rfl
theorem gMove_eq (c : Con) (n : Nat) (m : Mov) : gMove c n m = (gHead c n m && allI (pMv c n m.effects) m.effects) := by
  unfold gMove
  congr 1
  rw [Bool.eq_iff_iff, Bool.and_eq_true, List.all_eq_true, allI_iff]
  unfold apartB
  rw [allI_iff]
  constructor
  · rintro ⟨h1, h2⟩ j x hx
    have h3 := h2 j x.field (by rw [List.getElem?_map, hx]; rfl)
    rw [idx_map] at h3
    unfold pMv
    rw [h1 x (List.mem_of_getElem? hx), h3]; rfl
  · intro h
    refine ⟨fun x hx => ?_, fun j s hs => ?_⟩
    · obtain ⟨j, hj, rfl⟩ := List.getElem_of_mem hx
      have := h j _ (List.getElem?_eq_getElem hj)
      unfold pMv at this
      rw [Bool.and_eq_true] at this
      exact this.1
    · rw [List.getElem?_map] at hs
      cases hx : m.effects[j]? with
      | none => rw [hx] at hs; cases hs
      | some x =>
        rw [hx] at hs
        injection hs with hs
        subst hs
        have := h j x hx
        unfold pMv at this
        rw [Bool.and_eq_true] at this
        rw [idx_map]
        exact this.2
section
variable {w : World}
set_option maxRecDepth 100000 in
set_option maxHeartbeats 4000000 in
theorem rgmove_c {A B D : Option Addr} {a b d : Nat} {c : Con} {n : Nat} (m : Mov) {k : Nat} {M P : Option Addr} {u p : Nat} (hn : n = k + 1) (h1 : Sl kFld (fun _ => True) w (.slice A c.fields.length a) c.fields)
    (hg : Sl (kExp k) (fun _ => True) w (.slice M m.guard.kids.length u) m.guard.kids) (he : Sl (kEff n) (fun _ => True) w (.slice P m.effects.length p) m.effects) :
    Calls Try.prog 34 #[.agg #[.string ⟨c.name.toArray⟩, .slice A c.fields.length a, .slice B c.stages.length b, .slice D c.moves.length d], .agg #[.string ⟨m.name.toArray⟩, .int .i64 m.frm, .int .i64 m.tgt, .int .i64 m.guard.op, .slice M m.guard.kids.length u, .string ⟨m.guard.name.toArray⟩, .int .i64 m.guard.val.kind, .int .i64 m.guard.val.int, .bool m.guard.val.bool, .string ⟨m.guard.val.text.toArray⟩, .float .f64 m.guard.val.num, .slice P m.effects.length p, .int .i64 m.org]] w (Ret w (.bool (gMove c n m))) := by
  have SF := store_f64
  have HF := Lib.hid (show ∀ W : World, Below w.heap.size w W → Sl kFld (fun _ => True) W (.slice A c.fields.length a) c.fields from fun W hW => h1.below hW)
  have HG := Lib.hid (show ∀ W : World, Below w.heap.size w W → (kExp n).R (fun _ => True) W [.int .i64 m.guard.op, .slice M m.guard.kids.length u, .string ⟨m.guard.name.toArray⟩, .int .i64 m.guard.val.kind, .int .i64 m.guard.val.int, .bool m.guard.val.bool, .string ⟨m.guard.val.text.toArray⟩, .float .f64 m.guard.val.num] m.guard from fun W hW => by rw [hn]; exact exp_mk (hg.below hW))
  have HE := Lib.hid (show ∀ W : World, Below w.heap.size w W → Sl (kEff n) (fun _ => True) W (.slice P m.effects.length p) m.effects from fun W hW => he.below hW)
  have E := Lib.hid (gMove_eq c n m)
  have EH := Lib.hid (show gHead c n m = (decide (0 ≤ m.frm) && decide (m.frm < (c.stages.length : Int)) && (decide (0 ≤ m.tgt) && decide (m.tgt < (c.stages.length : Int))) && decide (-1 ≤ m.org) && decide (m.org < 4) && decide (m.effects.length ≤ 4) && ((chkE c.fields n m.guard).2 == 0 && (chkE c.fields n m.guard).1 == 2)) from rfl)
  have hmax := he.len.2.2.1
  have hnc := he.len.2.1
  have hma := h1.len.2.2.1
  have hna := h1.len.2.1
  have B0 : Below w.heap.size w ((w.alloc (.cells #[.string ⟨c.name.toArray⟩, .slice A c.fields.length a, .slice B c.stages.length b, .slice D c.moves.length d] 26)).alloc (.cells #[.string ⟨m.name.toArray⟩, .int .i64 m.frm, .int .i64 m.tgt, .int .i64 m.guard.op, .slice M m.guard.kids.length u, .string ⟨m.guard.name.toArray⟩, .int .i64 m.guard.val.kind, .int .i64 m.guard.val.int, .bool m.guard.val.bool, .string ⟨m.guard.val.text.toArray⟩, .float .f64 m.guard.val.num, .slice P m.effects.length p, .int .i64 m.org] 47)) := (by (focus (repeat (first | with_reducible exact Below.refl _ _ | with_reducible assumption | with_reducible refine bel_al _ ?_ | with_reducible refine bel_dr ?_ | with_reducible refine bel_dn _ ?_ | with_reducible refine bel_tr (by assumption) ?_))))
  have KK := Lib.hid (show ∀ W : World, Below ((w.alloc (.cells #[.string ⟨c.name.toArray⟩, .slice A c.fields.length a, .slice B c.stages.length b, .slice D c.moves.length d] 26)).alloc (.cells #[.string ⟨m.name.toArray⟩, .int .i64 m.frm, .int .i64 m.tgt, .int .i64 m.guard.op, .slice M m.guard.kids.length u, .string ⟨m.guard.name.toArray⟩, .int .i64 m.guard.val.kind, .int .i64 m.guard.val.int, .bool m.guard.val.bool, .string ⟨m.guard.val.text.toArray⟩, .float .f64 m.guard.val.num, .slice P m.effects.length p, .int .i64 m.org] 47)).heap.size ((w.alloc (.cells #[.string ⟨c.name.toArray⟩, .slice A c.fields.length a, .slice B c.stages.length b, .slice D c.moves.length d] 26)).alloc (.cells #[.string ⟨m.name.toArray⟩, .int .i64 m.frm, .int .i64 m.tgt, .int .i64 m.guard.op, .slice M m.guard.kids.length u, .string ⟨m.guard.name.toArray⟩, .int .i64 m.guard.val.kind, .int .i64 m.guard.val.int, .bool m.guard.val.bool, .string ⟨m.guard.val.text.toArray⟩, .float .f64 m.guard.val.num, .slice P m.effects.length p, .int .i64 m.org] 47)) W → (W.cell? ⟨w.heap.size, 0, none⟩ = some (.string ⟨c.name.toArray⟩) ∧ W.cell? ⟨w.heap.size, 1, none⟩ = some (.slice A c.fields.length a) ∧ W.cell? ⟨w.heap.size, 2, none⟩ = some (.slice B c.stages.length b) ∧ W.cell? ⟨w.heap.size, 3, none⟩ = some (.slice D c.moves.length d)) ∧ (W.cell? ⟨w.heap.size + 1, 0, none⟩ = some (.string ⟨m.name.toArray⟩) ∧ W.cell? ⟨w.heap.size + 1, 1, none⟩ = some (.int .i64 m.frm) ∧ W.cell? ⟨w.heap.size + 1, 2, none⟩ = some (.int .i64 m.tgt) ∧ W.cell? ⟨w.heap.size + 1, 3, none⟩ = some (.int .i64 m.guard.op) ∧ W.cell? ⟨w.heap.size + 1, 4, none⟩ = some (.slice M m.guard.kids.length u) ∧ W.cell? ⟨w.heap.size + 1, 5, none⟩ = some (.string ⟨m.guard.name.toArray⟩) ∧ W.cell? ⟨w.heap.size + 1, 6, none⟩ = some (.int .i64 m.guard.val.kind) ∧ W.cell? ⟨w.heap.size + 1, 7, none⟩ = some (.int .i64 m.guard.val.int) ∧ W.cell? ⟨w.heap.size + 1, 8, none⟩ = some (.bool m.guard.val.bool) ∧ W.cell? ⟨w.heap.size + 1, 9, none⟩ = some (.string ⟨m.guard.val.text.toArray⟩) ∧ W.cell? ⟨w.heap.size + 1, 10, none⟩ = some (.float .f64 m.guard.val.num) ∧ W.cell? ⟨w.heap.size + 1, 11, none⟩ = some (.slice P m.effects.length p) ∧ W.cell? ⟨w.heap.size + 1, 12, none⟩ = some (.int .i64 m.org)) ∧ w.heap.size + 1 < W.heap.size from fun W hW => by
    have h1 : Loc1 w.heap.size 26 #[.string ⟨c.name.toArray⟩, .slice A c.fields.length a, .slice B c.stages.length b, .slice D c.moves.length d] ((w.alloc (.cells #[.string ⟨c.name.toArray⟩, .slice A c.fields.length a, .slice B c.stages.length b, .slice D c.moves.length d] 26)).alloc (.cells #[.string ⟨m.name.toArray⟩, .int .i64 m.frm, .int .i64 m.tgt, .int .i64 m.guard.op, .slice M m.guard.kids.length u, .string ⟨m.guard.name.toArray⟩, .int .i64 m.guard.val.kind, .int .i64 m.guard.val.int, .bool m.guard.val.bool, .string ⟨m.guard.val.text.toArray⟩, .float .f64 m.guard.val.num, .slice P m.effects.length p, .int .i64 m.org] 47)) := (by (focus (repeat (first | with_reducible assumption | exact Loc1.newE _ _ _ (by simp) | with_reducible refine Loc1.al _ ?_ | with_reducible refine Loc1.dr ?_ | with_reducible refine Loc1.bel (by assumption) ?_))))
    have h2 : Loc1 (w.heap.size + 1) 47 #[.string ⟨m.name.toArray⟩, .int .i64 m.frm, .int .i64 m.tgt, .int .i64 m.guard.op, .slice M m.guard.kids.length u, .string ⟨m.guard.name.toArray⟩, .int .i64 m.guard.val.kind, .int .i64 m.guard.val.int, .bool m.guard.val.bool, .string ⟨m.guard.val.text.toArray⟩, .float .f64 m.guard.val.num, .slice P m.effects.length p, .int .i64 m.org] ((w.alloc (.cells #[.string ⟨c.name.toArray⟩, .slice A c.fields.length a, .slice B c.stages.length b, .slice D c.moves.length d] 26)).alloc (.cells #[.string ⟨m.name.toArray⟩, .int .i64 m.frm, .int .i64 m.tgt, .int .i64 m.guard.op, .slice M m.guard.kids.length u, .string ⟨m.guard.name.toArray⟩, .int .i64 m.guard.val.kind, .int .i64 m.guard.val.int, .bool m.guard.val.bool, .string ⟨m.guard.val.text.toArray⟩, .float .f64 m.guard.val.num, .slice P m.effects.length p, .int .i64 m.org] 47)) := (by (focus (repeat (first | with_reducible assumption | exact Loc1.newE _ _ _ (by simp) | with_reducible refine Loc1.al _ ?_ | with_reducible refine Loc1.dr ?_ | with_reducible refine Loc1.bel (by assumption) ?_))))
    exact ⟨⟨cell_of (h1.bel hW) 0, cell_of (h1.bel hW) 1, cell_of (h1.bel hW) 2, cell_of (h1.bel hW) 3⟩, ⟨cell_of (h2.bel hW) 0, cell_of (h2.bel hW) 1, cell_of (h2.bel hW) 2, cell_of (h2.bel hW) 3, cell_of (h2.bel hW) 4, cell_of (h2.bel hW) 5, cell_of (h2.bel hW) 6, cell_of (h2.bel hW) 7, cell_of (h2.bel hW) 8, cell_of (h2.bel hW) 9, cell_of (h2.bel hW) 10, cell_of (h2.bel hW) 11, cell_of (h2.bel hW) 12⟩, lt_of_heap (h2.bel hW)⟩)
  generalize gMove c n m = r at *
  have HCG := Lib.hid (show ∀ W : World, Below w.heap.size w W → Calls Try.prog 51 #[.agg #[.int .i64 m.guard.op, .slice M m.guard.kids.length u, .string ⟨m.guard.name.toArray⟩, .int .i64 m.guard.val.kind, .int .i64 m.guard.val.int, .bool m.guard.val.bool, .string ⟨m.guard.val.text.toArray⟩, .float .f64 m.guard.val.num], .slice A c.fields.length a] W (Ret W (.tuple #[.int .i64 (chkE c.fields n m.guard).1, .int .i64 (chkE c.fields n m.guard).2])) from fun W hW => rCheckE_c (HG.out W hW) (HF.out W hW))
  generalize chkE c.fields n m.guard = ck at *
  obtain ⟨k1, e1⟩ := ck
  clear h1 hg he hn HG
  cases hH : gHead c n m
  · have E1 := Lib.hid (show r = false by rw [E.out, hH]; rfl)
    rw [hH] at EH
    clear hH
    have je : (e1 == 0) = !(e1 != 0) := by simp [bne]
    have jk : (k1 == 2) = !(k1 != 2) := by simp [bne]
    cases he : (e1 != 0) <;> cases hk : (k1 != 2)
    all_goals rw [he] at je
    all_goals rw [hk] at jk
    all_goals rw [je, jk] at EH
    all_goals clear je jk
    all_goals (go_enter Try.func34, Try.ntmps34)
    all_goals go_wp2_with (first
      | (go_at_call 51; refine (HCG.out _ (by (focus (repeat (first | with_reducible exact Below.refl _ _ | with_reducible assumption | with_reducible refine bel_al _ ?_ | with_reducible refine bel_dr ?_ | with_reducible refine bel_dn _ ?_ | with_reducible refine bel_tr (by assumption) ?_))))).mono ?_; rintro x9 wz ⟨rfl, hb⟩; obtain ⟨⟨c0, c1, c2, c3⟩, ⟨m0, m1, m2, m3, m4, m5, m6, m7, m8, m9, m10, m11, m12⟩, hz⟩ := KK.out wz (by (focus (repeat (first | with_reducible exact Below.refl _ _ | with_reducible assumption | with_reducible refine bel_al _ ?_ | with_reducible refine bel_dr ?_ | with_reducible refine bel_dn _ ?_ | with_reducible refine bel_tr (by assumption) ?_))))))
    all_goals first
      | (go_ret; rw [E1.out]; exact ⟨rfl, (by (focus (repeat (first | with_reducible exact Below.refl _ _ | with_reducible assumption | with_reducible refine bel_al _ ?_ | with_reducible refine bel_dr ?_ | with_reducible refine bel_dn _ ?_ | with_reducible refine bel_tr (by assumption) ?_))))⟩)
      | (exfalso; have h9 := EH.out.symm; clear KK HF HE HCG EH E1 E; simp [*] at h9; done)
      | (exfalso; have h9 := EH.out.symm; clear KK HF HE HCG EH E1 E; simp [*] at h9; omega)
      | (exfalso; have h9 := EH.out.symm; clear KK HF HE HCG EH E1 E; simp_all; omega)
  have g := EH.out
  rw [hH] at g
  replace g := g.symm
  simp only [Bool.and_eq_true, decide_eq_true_eq] at g
  obtain ⟨⟨⟨⟨⟨⟨g1, g2⟩, g3, g4⟩, g5⟩, g6⟩, g7⟩, g8, g9⟩ := g
  have g7' : (m.effects.length : Int) ≤ 4 := by omega
  have g8' : (e1 != 0) = false := by simpa [bne] using g8
  have g9' : (k1 != 2) = false := by simpa [bne] using g9
  replace E := Lib.hid (show r = allI (pMv c n m.effects) m.effects by rw [E.out, hH]; rfl)
  clear hH EH g7 g8 g9
  go_enter Try.func34, Try.ntmps34
  go_wp2_with fail
  generalize ((w.alloc (.cells #[.string ⟨c.name.toArray⟩, .slice A c.fields.length a, .slice B c.stages.length b, .slice D c.moves.length d] 26)).alloc (.cells #[.string ⟨m.name.toArray⟩, .int .i64 m.frm, .int .i64 m.tgt, .int .i64 m.guard.op, .slice M m.guard.kids.length u, .string ⟨m.guard.name.toArray⟩, .int .i64 m.guard.val.kind, .int .i64 m.guard.val.int, .bool m.guard.val.bool, .string ⟨m.guard.val.text.toArray⟩, .float .f64 m.guard.val.num, .slice P m.effects.length p, .int .i64 m.org] 47)) = w0 at *
  obtain ⟨⟨c0, c1, c2, c3⟩, ⟨m0, m1, m2, m3, m4, m5, m6, m7, m8, m9, m10, m11, m12⟩, hz⟩ := KK.out w0 (by (focus (repeat (first | with_reducible exact Below.refl _ _ | with_reducible assumption | with_reducible refine bel_al _ ?_ | with_reducible refine bel_dr ?_ | with_reducible refine bel_dn _ ?_ | with_reducible refine bel_tr (by assumption) ?_))))
  go_wp2_with fail
  refine (HCG.out _ (by (focus (repeat (first | with_reducible exact Below.refl _ _ | with_reducible assumption | with_reducible refine bel_al _ ?_ | with_reducible refine bel_dr ?_ | with_reducible refine bel_dn _ ?_ | with_reducible refine bel_tr (by assumption) ?_))))).mono ?_
  rintro x9 w1 ⟨rfl, hb1⟩
  clear c0 c1 c2 c3 m0 m1 m2 m3 m4 m5 m6 m7 m8 m9 m10 m11 m12 hz
  obtain ⟨⟨c0, c1, c2, c3⟩, ⟨m0, m1, m2, m3, m4, m5, m6, m7, m8, m9, m10, m11, m12⟩, hz⟩ := KK.out w1 (by (focus (repeat (first | with_reducible exact Below.refl _ _ | with_reducible assumption | with_reducible refine bel_al _ ?_ | with_reducible refine bel_dr ?_ | with_reducible refine bel_dn _ ?_ | with_reducible refine bel_tr (by assumption) ?_))))
  go_wp2_with fail
  clear g1 g2 g3 g4 g5 g6 g8' g9'
  clear c0 c1 c2 c3 m0 m1 m2 m3 m4 m5 m6 m7 m8 m9 m10 m11 m12 hz
  go_loopw [7] (fun v7 wr => ∃ i : Nat, i ≤ m.effects.length ∧ v7 = .int .i64 i ∧ (∀ j x, j < i → m.effects[j]? = some x → pMv c n m.effects j x = true) ∧ Below w0.heap.size w0 wr) (fun v7 _ => m.effects.length - (intOf v7).toNat)
  case atStart => exact ⟨0, Nat.zero_le _, rfl, allI_nil, hb1⟩
  case round =>
    clear hb1
    obtain ⟨i, hi, rfl, hp, hb⟩ := hrel
    have HP := Lib.hid hp
    clear hp
    obtain ⟨⟨c0, c1, c2, c3⟩, ⟨m0, m1, m2, m3, m4, m5, m6, m7, m8, m9, m10, m11, m12⟩, hz⟩ := KK.out wr (by (focus (repeat (first | with_reducible exact Below.refl _ _ | with_reducible assumption | with_reducible refine bel_al _ ?_ | with_reducible refine bel_dr ?_ | with_reducible refine bel_dn _ ?_ | with_reducible refine bel_tr (by assumption) ?_))))
    by_cases hlt : i < m.effects.length
    rotate_left
    · have E1 := Lib.hid (show r = true by rw [E.out]; exact allI_yes (n := i) (by omega) HP.out)
      go_wp2_with fail
      go_ret
      rw [E1.out]
      exact ⟨rfl, (by (focus (repeat (first | with_reducible exact Below.refl _ _ | with_reducible assumption | with_reducible refine bel_al _ ?_ | with_reducible refine bel_dr ?_ | with_reducible refine bel_dn _ ?_ | with_reducible refine bel_tr (by assumption) ?_))))⟩
    obtain ⟨ad, x, k', X, y, rfl, hx, hk', hsx, q0, q1, q2, q3, q4, q5, q6, q7, q8⟩ := eff_at (HE.out wr (by (focus (repeat (first | with_reducible exact Below.refl _ _ | with_reducible assumption | with_reducible refine bel_al _ ?_ | with_reducible refine bel_dr ?_ | with_reducible refine bel_dn _ ?_ | with_reducible refine bel_tr (by assumption) ?_))))) hlt
    have HX := Lib.hid hx
    have HXE := Lib.hid (show ∀ W : World, Below wr.heap.size wr W → (kExp n).R (fun _ => True) W [.int .i64 x.expr.op, .slice X x.expr.kids.length y, .string ⟨x.expr.name.toArray⟩, .int .i64 x.expr.val.kind, .int .i64 x.expr.val.int, .bool x.expr.val.bool, .string ⟨x.expr.val.text.toArray⟩, .float .f64 x.expr.val.num] x.expr from fun W hW => by rw [hk']; exact exp_mk (hsx.below hW))
    have KX := Lib.hid (show ∀ W : World, Below wr.heap.size wr W → W.cell? (ad.add (i * 9)) = some (.string ⟨x.field.toArray⟩) ∧ W.cell? ⟨(ad.add (i * 9)).block, (ad.add (i * 9)).off + 1, none⟩ = some (.int .i64 x.expr.op) ∧ W.cell? ⟨(ad.add (i * 9)).block, (ad.add (i * 9)).off + 2, none⟩ = some (.slice X x.expr.kids.length y) ∧ W.cell? ⟨(ad.add (i * 9)).block, (ad.add (i * 9)).off + 3, none⟩ = some (.string ⟨x.expr.name.toArray⟩) ∧ W.cell? ⟨(ad.add (i * 9)).block, (ad.add (i * 9)).off + 4, none⟩ = some (.int .i64 x.expr.val.kind) ∧ W.cell? ⟨(ad.add (i * 9)).block, (ad.add (i * 9)).off + 5, none⟩ = some (.int .i64 x.expr.val.int) ∧ W.cell? ⟨(ad.add (i * 9)).block, (ad.add (i * 9)).off + 6, none⟩ = some (.bool x.expr.val.bool) ∧ W.cell? ⟨(ad.add (i * 9)).block, (ad.add (i * 9)).off + 7, none⟩ = some (.string ⟨x.expr.val.text.toArray⟩) ∧ W.cell? ⟨(ad.add (i * 9)).block, (ad.add (i * 9)).off + 8, none⟩ = some (.float .f64 x.expr.val.num) from fun W hW => ⟨keepC q0 hW, keepC q1 hW, keepC q2 hW, keepC q3 hW, keepC q4 hW, keepC q5 hW, keepC q6 hW, keepC q7 hW, keepC q8 hW⟩)
    have hi0 : (0 : Int) ≤ (i : Int) := by omega
    have hi1 : (i : Int) < (m.effects.length : Int) := by omega
    clear hx hk' hsx q0 q1 q2 q3 q4 q5 q6 q7 q8
    go_upto_region 9 with (fail)
    clear c0 c1 c2 c3 m0 m1 m2 m3 m4 m5 m6 m7 m8 m9 m10 m11 m12 hz
    have K9 := Lib.hid (show ∀ W : World, Below wr.heap.size wr W → (W.cell? ⟨w.heap.size, 0, none⟩ = some (.string ⟨c.name.toArray⟩) ∧ W.cell? ⟨w.heap.size, 1, none⟩ = some (.slice A c.fields.length a) ∧ W.cell? ⟨w.heap.size, 2, none⟩ = some (.slice B c.stages.length b) ∧ W.cell? ⟨w.heap.size, 3, none⟩ = some (.slice D c.moves.length d)) ∧ W.cell? ⟨w.heap.size + 1, 11, none⟩ = some (.slice (some ad) m.effects.length p) ∧ W.cell? (ad.add (i * 9)) = some (.string ⟨x.field.toArray⟩) from fun W hW => by
      have h1 := KX.out W hW
      have h2 := KK.out W (by (focus (repeat (first | with_reducible exact Below.refl _ _ | with_reducible assumption | with_reducible refine bel_al _ ?_ | with_reducible refine bel_dr ?_ | with_reducible refine bel_dn _ ?_ | with_reducible refine bel_tr (by assumption) ?_))))
      exact ⟨h2.1, h2.2.1.2.2.2.2.2.2.2.2.2.2.2.1, h1.1⟩)
    go_region_held3 (fun W => (W.cell? ⟨w.heap.size, 0, none⟩ = some (.string ⟨c.name.toArray⟩) ∧ W.cell? ⟨w.heap.size, 1, none⟩ = some (.slice A c.fields.length a) ∧ W.cell? ⟨w.heap.size, 2, none⟩ = some (.slice B c.stages.length b) ∧ W.cell? ⟨w.heap.size, 3, none⟩ = some (.slice D c.moves.length d)) ∧ W.cell? ⟨w.heap.size + 1, 11, none⟩ = some (.slice (some ad) m.effects.length p) ∧ W.cell? (ad.add (i * 9)) = some (.string ⟨x.field.toArray⟩)) (exact K9.out _ (by (focus (repeat (first | with_reducible exact Below.refl _ _ | with_reducible assumption | with_reducible refine bel_al _ ?_ | with_reducible refine bel_dr ?_ | with_reducible refine bel_dn _ ?_ | with_reducible refine bel_tr (by assumption) ?_)))))
      (first | (go_at_call 10; refine (rfield_c (n := 0) x.field (HF.out _ (by (focus (repeat (first | with_reducible exact Below.refl _ _ | with_reducible assumption | with_reducible refine bel_al _ ?_ | with_reducible refine bel_dr ?_ | with_reducible refine bel_dn _ ?_ | with_reducible refine bel_tr (by assumption) ?_)))))).mono ?_; rintro x9 w6 ⟨rfl, hb6⟩))
    clear K9
    have hlt' := Lib.hid (idx_lt (p := fun e : Fld => e.name == x.field) (l := c.fields))
    have HGE := Lib.hid (show pMv c n m.effects i x = ((decide (0 ≤ idx (fun e => e.name == x.field) c.fields) && ((chkE c.fields n x.expr).2 == 0 && (chkE c.fields n x.expr).1 == kindAt c.fields (idx (fun e => e.name == x.field) c.fields))) && (idx (fun y => y.field == x.field) m.effects == (i : Int))) from rfl)
    generalize idx (fun e => e.name == x.field) c.fields = ix at *
    have E0 := Lib.hid (show pMv c n m.effects i x = false → r = false from fun h => E.out.trans (allI_no HX.out h))
    have E1 := Lib.hid (show pMv c n m.effects i x = true → ∀ j e, j < i + 1 → m.effects[j]? = some e → pMv c n m.effects j e = true from fun h => allI_step HP.out HX.out h)
    clear HP E
    by_cases hix : 0 ≤ ix
    rotate_left
    · have E2 := Lib.hid (E0.out (by rw [HGE.out, decide_eq_false hix]; rfl))
      go_wp2_with fail
      go_ret
      rw [E2.out]
      exact ⟨rfl, (by (focus (repeat (first | with_reducible exact Below.refl _ _ | with_reducible assumption | with_reducible refine bel_al _ ?_ | with_reducible refine bel_dr ?_ | with_reducible refine bel_dn _ ?_ | with_reducible refine bel_tr (by assumption) ?_))))⟩
    obtain ⟨q, f, rfl, hf, -⟩ := hlt'.out hix
    clear hlt' hix
    have hq : q < c.fields.length := (List.getElem?_eq_some_iff.1 hf).1
    obtain ⟨adF, f', B', d', rfl, hf', -, -, ck, -⟩ := fld_at (HF.out w6 (by (focus (repeat (first | with_reducible exact Below.refl _ _ | with_reducible assumption | with_reducible refine bel_al _ ?_ | with_reducible refine bel_dr ?_ | with_reducible refine bel_dn _ ?_ | with_reducible refine bel_tr (by assumption) ?_))))) hq
    obtain rfl : f' = f := by rw [hf] at hf'; injection hf' with e; exact e.symm
    replace HGE := Lib.hid (show pMv c n m.effects i x = (((chkE c.fields n x.expr).2 == 0 && (chkE c.fields n x.expr).1 == f'.kind) && (idx (fun y => y.field == x.field) m.effects == (i : Int))) by
      rw [HGE.out, decide_eq_true (Int.natCast_nonneg q), Bool.true_and]
      unfold kindAt
      rw [Int.toNat_natCast, hf])
    clear hf hf'
    have HCX := Lib.hid (show ∀ W : World, Below wr.heap.size wr W → Calls Try.prog 51 #[.agg #[.int .i64 x.expr.op, .slice X x.expr.kids.length y, .string ⟨x.expr.name.toArray⟩, .int .i64 x.expr.val.kind, .int .i64 x.expr.val.int, .bool x.expr.val.bool, .string ⟨x.expr.val.text.toArray⟩, .float .f64 x.expr.val.num], .slice (some adF) c.fields.length a] W (Ret W (.tuple #[.int .i64 (chkE c.fields n x.expr).1, .int .i64 (chkE c.fields n x.expr).2])) from fun W hW => rCheckE_c (HXE.out W hW) (HF.out W (by (focus (repeat (first | with_reducible exact Below.refl _ _ | with_reducible assumption | with_reducible refine bel_al _ ?_ | with_reducible refine bel_dr ?_ | with_reducible refine bel_dn _ ?_ | with_reducible refine bel_tr (by assumption) ?_))))))
    generalize chkE c.fields n x.expr = ce at *
    obtain ⟨k2, e2⟩ := ce
    have hq' : (0 : Int) ≤ (q : Int) := by omega
    have hq2 : (q : Int) < (c.fields.length : Int) := by omega
    have hq3 : decide ((q : Int) < 0) = false := decide_eq_false (by omega)
    go_upto_region 12 with (fail)
    have K12 := Lib.hid (show ∀ W : World, Below w6.heap.size w6 W → W.cell? ⟨w.heap.size, 1, none⟩ = some (.slice (some adF) c.fields.length a) ∧ W.cell? ⟨w.heap.size + 1, 11, none⟩ = some (.slice (some ad) m.effects.length p) ∧ W.cell? ⟨(ad.add (i * 9)).block, (ad.add (i * 9)).off + 1, none⟩ = some (.int .i64 x.expr.op) ∧ W.cell? ⟨(ad.add (i * 9)).block, (ad.add (i * 9)).off + 2, none⟩ = some (.slice X x.expr.kids.length y) ∧ W.cell? ⟨(ad.add (i * 9)).block, (ad.add (i * 9)).off + 3, none⟩ = some (.string ⟨x.expr.name.toArray⟩) ∧ W.cell? ⟨(ad.add (i * 9)).block, (ad.add (i * 9)).off + 4, none⟩ = some (.int .i64 x.expr.val.kind) ∧ W.cell? ⟨(ad.add (i * 9)).block, (ad.add (i * 9)).off + 5, none⟩ = some (.int .i64 x.expr.val.int) ∧ W.cell? ⟨(ad.add (i * 9)).block, (ad.add (i * 9)).off + 6, none⟩ = some (.bool x.expr.val.bool) ∧ W.cell? ⟨(ad.add (i * 9)).block, (ad.add (i * 9)).off + 7, none⟩ = some (.string ⟨x.expr.val.text.toArray⟩) ∧ W.cell? ⟨(ad.add (i * 9)).block, (ad.add (i * 9)).off + 8, none⟩ = some (.float .f64 x.expr.val.num) from fun W hW => by
      have h1 := KX.out W (by (focus (repeat (first | with_reducible exact Below.refl _ _ | with_reducible assumption | with_reducible refine bel_al _ ?_ | with_reducible refine bel_dr ?_ | with_reducible refine bel_dn _ ?_ | with_reducible refine bel_tr (by assumption) ?_))))
      have h2 := KK.out W (by (focus (repeat (first | with_reducible exact Below.refl _ _ | with_reducible assumption | with_reducible refine bel_al _ ?_ | with_reducible refine bel_dr ?_ | with_reducible refine bel_dn _ ?_ | with_reducible refine bel_tr (by assumption) ?_))))
      exact ⟨h2.1.2.1, h2.2.1.2.2.2.2.2.2.2.2.2.2.2.1, h1.2⟩)
    go_region_held3 (fun W => W.cell? ⟨w.heap.size, 1, none⟩ = some (.slice (some adF) c.fields.length a) ∧ W.cell? ⟨w.heap.size + 1, 11, none⟩ = some (.slice (some ad) m.effects.length p) ∧ W.cell? ⟨(ad.add (i * 9)).block, (ad.add (i * 9)).off + 1, none⟩ = some (.int .i64 x.expr.op) ∧ W.cell? ⟨(ad.add (i * 9)).block, (ad.add (i * 9)).off + 2, none⟩ = some (.slice X x.expr.kids.length y) ∧ W.cell? ⟨(ad.add (i * 9)).block, (ad.add (i * 9)).off + 3, none⟩ = some (.string ⟨x.expr.name.toArray⟩) ∧ W.cell? ⟨(ad.add (i * 9)).block, (ad.add (i * 9)).off + 4, none⟩ = some (.int .i64 x.expr.val.kind) ∧ W.cell? ⟨(ad.add (i * 9)).block, (ad.add (i * 9)).off + 5, none⟩ = some (.int .i64 x.expr.val.int) ∧ W.cell? ⟨(ad.add (i * 9)).block, (ad.add (i * 9)).off + 6, none⟩ = some (.bool x.expr.val.bool) ∧ W.cell? ⟨(ad.add (i * 9)).block, (ad.add (i * 9)).off + 7, none⟩ = some (.string ⟨x.expr.val.text.toArray⟩) ∧ W.cell? ⟨(ad.add (i * 9)).block, (ad.add (i * 9)).off + 8, none⟩ = some (.float .f64 x.expr.val.num)) (exact K12.out _ (by (focus (repeat (first | with_reducible exact Below.refl _ _ | with_reducible assumption | with_reducible refine bel_al _ ?_ | with_reducible refine bel_dr ?_ | with_reducible refine bel_dn _ ?_ | with_reducible refine bel_tr (by assumption) ?_)))))
      (first | (go_at_call 51; refine (HCX.out _ (by (focus (repeat (first | with_reducible exact Below.refl _ _ | with_reducible assumption | with_reducible refine bel_al _ ?_ | with_reducible refine bel_dr ?_ | with_reducible refine bel_dn _ ?_ | with_reducible refine bel_tr (by assumption) ?_))))).mono ?_; rintro x9 w7 ⟨rfl, hb7⟩))
    clear K12
    have ck7 := keepC ck (show Below w6.heap.size w6 w7 from (by (focus (repeat (first | with_reducible exact Below.refl _ _ | with_reducible assumption | with_reducible refine bel_al _ ?_ | with_reducible refine bel_dr ?_ | with_reducible refine bel_dn _ ?_ | with_reducible refine bel_tr (by assumption) ?_)))))
    obtain ⟨⟨c0, c1, c2, c3⟩, ⟨m0, m1, m2, m3, m4, m5, m6, m7, m8, m9, m10, m11, m12⟩, hz⟩ := KK.out w7 (by (focus (repeat (first | with_reducible exact Below.refl _ _ | with_reducible assumption | with_reducible refine bel_al _ ?_ | with_reducible refine bel_dr ?_ | with_reducible refine bel_dn _ ?_ | with_reducible refine bel_tr (by assumption) ?_))))
    cases he2 : (e2 != 0)
    rotate_left
    · have E2 := Lib.hid (E0.out (by rw [HGE.out, show (e2 == 0) = false by simpa [bne] using he2]; rfl))
      go_wp2_with fail
      go_ret
      rw [E2.out]
      exact ⟨rfl, (by (focus (repeat (first | with_reducible exact Below.refl _ _ | with_reducible assumption | with_reducible refine bel_al _ ?_ | with_reducible refine bel_dr ?_ | with_reducible refine bel_dn _ ?_ | with_reducible refine bel_tr (by assumption) ?_))))⟩
    cases hk2 : (k2 != f'.kind)
    rotate_left
    · have E2 := Lib.hid (E0.out (by rw [HGE.out, show (k2 == f'.kind) = false by simpa [bne] using hk2]; simp))
      go_wp2_with fail
      go_ret
      rw [E2.out]
      exact ⟨rfl, (by (focus (repeat (first | with_reducible exact Below.refl _ _ | with_reducible assumption | with_reducible refine bel_al _ ?_ | with_reducible refine bel_dr ?_ | with_reducible refine bel_dn _ ?_ | with_reducible refine bel_tr (by assumption) ?_))))⟩
    replace HGE := Lib.hid (show pMv c n m.effects i x = (idx (fun y => y.field == x.field) m.effects == (i : Int)) by
      rw [HGE.out, show (e2 == 0) = true by simpa [bne] using he2, show (k2 == f'.kind) = true by simpa [bne] using hk2]; rfl)
    go_wp2_with fail
    clear c0 c1 c2 c3 m0 m1 m2 m3 m4 m5 m6 m7 m8 m9 m10 m11 m12 hz
    clear ck ck7 he2 hk2 hq' hq2 hq3
    go_loopw [11] (fun v11 wy => ∃ t : Nat, t ≤ i ∧ v11 = .int .i64 t ∧ (∀ j o, j < t → m.effects[j]? = some o → (fun (_ : Nat) (o : Eff) => o.field == x.field) j o = false) ∧ Below w7.heap.size w7 wy) (fun v11 _ => i - (intOf v11).toNat)
    case atStart => exact ⟨0, Nat.zero_le _, rfl, allI_nil, Below.refl _ _⟩
    case round =>
      obtain ⟨t, ht, rfl, hq, hby⟩ := hrel
      have HQ := Lib.hid hq
      clear hq
      obtain ⟨⟨c0, c1, c2, c3⟩, ⟨m0, m1, m2, m3, m4, m5, m6, m7, m8, m9, m10, m11, m12⟩, hz⟩ := KK.out wr (by (focus (repeat (first | with_reducible exact Below.refl _ _ | with_reducible assumption | with_reducible refine bel_al _ ?_ | with_reducible refine bel_dr ?_ | with_reducible refine bel_dn _ ?_ | with_reducible refine bel_tr (by assumption) ?_))))
      by_cases hti : t < i
      rotate_left
      · have hti' : t = i := by omega
        have HM := Lib.hid (E1.out (by rw [HGE.out, idx_at (i := i) (p := fun y : Eff => y.field == x.field) (fun j o hj ho => HQ.out j o (by omega) ho) HX.out (by simp)]; simp))
        clear hti'
        go_wp2_with fail
        go_roundw
        case rel => exact ⟨i + 1, by omega, by go_num, HM.out, (by (focus (repeat (first | with_reducible exact Below.refl _ _ | with_reducible assumption | with_reducible refine bel_al _ ?_ | with_reducible refine bel_dr ?_ | with_reducible refine bel_dn _ ?_ | with_reducible refine bel_tr (by assumption) ?_))))⟩
        case measure => simp [intOf]; omega
      obtain ⟨ad2, z, -, -, -, ea, hz', -, -, cz, -⟩ := eff_at (HE.out wr (by (focus (repeat (first | with_reducible exact Below.refl _ _ | with_reducible assumption | with_reducible refine bel_al _ ?_ | with_reducible refine bel_dr ?_ | with_reducible refine bel_dn _ ?_ | with_reducible refine bel_tr (by assumption) ?_))))) (show t < m.effects.length by omega)
      injection ea with ea
      subst ea
      have HZ := Lib.hid hz'
      have cx := (KX.out wr (by (focus (repeat (first | with_reducible exact Below.refl _ _ | with_reducible assumption | with_reducible refine bel_al _ ?_ | with_reducible refine bel_dr ?_ | with_reducible refine bel_dn _ ?_ | with_reducible refine bel_tr (by assumption) ?_))))).1
      have ht0 : (0 : Int) ≤ (t : Int) := by omega
      have ht1 : (t : Int) < (m.effects.length : Int) := by omega
      clear hz'
      cases hm : (z.field == x.field)
      · have HS2 := Lib.hid (allI_step (q := fun (_ : Nat) (o : Eff) => o.field == x.field) HQ.out HZ.out hm)
        go_wp2_with fail
        go_quiet ((fail))
        go_wp2_with fail
        go_roundw
        case rel => exact ⟨t + 1, by omega, by go_num, HS2.out, (by (focus (repeat (first | with_reducible exact Below.refl _ _ | with_reducible assumption | with_reducible refine bel_al _ ?_ | with_reducible refine bel_dr ?_ | with_reducible refine bel_dn _ ?_ | with_reducible refine bel_tr (by assumption) ?_))))⟩
        case measure => simp [intOf]; omega
      · have hid := idx_le (p := fun y : Eff => y.field == x.field) HZ.out hm
        have E2 := Lib.hid (E0.out (by rw [HGE.out, beq_eq_false_iff_ne]; omega))
        clear hid
        go_wp2_with fail
        go_quiet ((fail))
        go_wp2_with fail
        go_ret
        rw [E2.out]
        exact ⟨rfl, (by (focus (repeat (first | with_reducible exact Below.refl _ _ | with_reducible assumption | with_reducible refine bel_al _ ?_ | with_reducible refine bel_dr ?_ | with_reducible refine bel_dn _ ?_ | with_reducible refine bel_tr (by assumption) ?_))))⟩
end
end Go.Proofs.Ytjnhgfmjehaalaa
