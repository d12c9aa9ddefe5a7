/- Chapter 6: the reference's fields and stages, all. -/
import Derived.Test.YtjnhgfmjehaalaaC8
namespace Go.Proofs.Ytjnhgfmjehaalaa
open Go.RowKit
set_option linter.unusedVariables false
set_option linter.unusedSimpArgs false
def pField (c : Con) (i : Nat) (f : Fld) : Bool := named f.name && (idx (fun e => e.name == f.name) c.fields == (i : Int)) && decide (1 ≤ f.kind) && decide (f.kind ≤ 4) && enumR f && fitsF f.init f == 0
def fieldsR (c : Con) : Bool := decide ((c.fields.length : Int) ≤ 6) && allI (pField c) c.fields
section
variable {w : World}
set_option maxRecDepth 20000 in
set_option maxHeartbeats 2000000 in
theorem rfields_c {A B D : Option Addr} {a b d : Nat} {c : Con} (h : Sl kFld (fun _ => True) w (.slice A c.fields.length a) c.fields) : Calls Try.prog 32 #[.agg #[.string ⟨c.name.toArray⟩, .slice A c.fields.length a, .slice B c.stages.length b, .slice D c.moves.length d]] w (Ret w (.bool (fieldsR c))) := by
  have SF := store_f64
  have HS := Lib.hid (show ∀ W : World, Below w.heap.size w W → Sl kFld (fun _ => True) W (.slice A c.fields.length a) c.fields from fun W hW => h.below hW)
  have E := Lib.hid (show fieldsR c = (decide ((c.fields.length : Int) ≤ 6) && allI (pField c) c.fields) from rfl)
  have hmax := h.len.2.2.1
  have hnc := h.len.2.1
  generalize fieldsR c = r at *
  clear h
  have hL : Loc1 w.heap.size 26 #[.string ⟨c.name.toArray⟩, .slice A c.fields.length a, .slice B c.stages.length b, .slice D c.moves.length d] (w.alloc (.cells #[.string ⟨c.name.toArray⟩, .slice A c.fields.length a, .slice B c.stages.length b, .slice D c.moves.length d] 26)) := Loc1.new _ _ _
  have B0 : Below w.heap.size w (w.alloc (.cells #[.string ⟨c.name.toArray⟩, .slice A c.fields.length a, .slice B c.stages.length b, .slice D c.moves.length d] 26)) := (by (focus (repeat (first | with_reducible exact Below.refl _ _ | with_reducible assumption | with_reducible refine bel_al _ ?_ | with_reducible refine bel_dr ?_ | with_reducible refine bel_dn _ ?_ | with_reducible refine bel_tr (by assumption) ?_))))
  have KK := Lib.hid (show ∀ W : World, Below (w.alloc (.cells #[.string ⟨c.name.toArray⟩, .slice A c.fields.length a, .slice B c.stages.length b, .slice D c.moves.length d] 26)).heap.size (w.alloc (.cells #[.string ⟨c.name.toArray⟩, .slice A c.fields.length a, .slice B c.stages.length b, .slice D c.moves.length d] 26)) W → (W.cell? ⟨w.heap.size, 0, none⟩ = some (.string ⟨c.name.toArray⟩) ∧ W.cell? ⟨w.heap.size, 1, none⟩ = some (.slice A c.fields.length a) ∧ W.cell? ⟨w.heap.size, 2, none⟩ = some (.slice B c.stages.length b) ∧ W.cell? ⟨w.heap.size, 3, none⟩ = some (.slice D c.moves.length d)) ∧ w.heap.size < W.heap.size from fun W hW => ⟨⟨cell_of (hL.bel hW) 0, cell_of (hL.bel hW) 1, cell_of (hL.bel hW) 2, cell_of (hL.bel hW) 3⟩, lt_of_heap (hL.bel hW)⟩)
  clear hL
  by_cases hN : (c.fields.length : Int) ≤ 6
  rotate_left
  · have E1 := Lib.hid (show r = false by rw [E.out, decide_eq_false hN]; rfl)
    go_enter Try.func32, Try.ntmps32
    go_wp2_with fail
    go_ret
    rw [E1.out]
    exact ⟨rfl, (by (focus (repeat (first | with_reducible exact Below.refl _ _ | with_reducible assumption | with_reducible refine bel_al _ ?_ | with_reducible refine bel_dr ?_ | with_reducible refine bel_dn _ ?_ | with_reducible refine bel_tr (by assumption) ?_))))⟩
  replace E := Lib.hid (show r = allI (pField c) c.fields by rw [E.out, decide_eq_true hN]; rfl)
  go_enter Try.func32, Try.ntmps32
  go_wp2_with fail
  clear hN
  go_loopw [3] (fun x3 wr => ∃ k : Nat, k ≤ c.fields.length ∧ x3 = .int .i64 k ∧ (∀ j e, j < k → c.fields[j]? = some e → pField c j e = true) ∧ Below (w.alloc (.cells #[.string ⟨c.name.toArray⟩, .slice A c.fields.length a, .slice B c.stages.length b, .slice D c.moves.length d] 26)).heap.size (w.alloc (.cells #[.string ⟨c.name.toArray⟩, .slice A c.fields.length a, .slice B c.stages.length b, .slice D c.moves.length d] 26)) wr) (fun x3 _ => c.fields.length - (intOf x3).toNat)
  case atStart => exact ⟨0, Nat.zero_le _, rfl, allI_nil, Below.refl _ _⟩
  case round =>
    obtain ⟨k, hk, rfl, hp, hb⟩ := hrel
    have HP := Lib.hid hp
    clear hp
    obtain ⟨⟨c0, c1, c2, c3⟩, hz⟩ := KK.out wr (by (focus (repeat (first | with_reducible exact Below.refl _ _ | with_reducible assumption | with_reducible refine bel_al _ ?_ | with_reducible refine bel_dr ?_ | with_reducible refine bel_dn _ ?_ | with_reducible refine bel_tr (by assumption) ?_))))
    by_cases hlt : k < c.fields.length
    rotate_left
    · have E1 := Lib.hid (E.out.trans (allI_yes (n := k) (by omega) HP.out))
      go_wp2_with fail
      go_ret
      rw [E1.out]
      exact ⟨rfl, (by (focus (repeat (first | with_reducible exact Below.refl _ _ | with_reducible assumption | with_reducible refine bel_al _ ?_ | with_reducible refine bel_dr ?_ | with_reducible refine bel_dn _ ?_ | with_reducible refine bel_tr (by assumption) ?_))))⟩
    obtain ⟨ad, f, X, y, rfl, he, hs, q0, q1, q2, q3, q4, q5, q6, q7⟩ := fld_at (HS.out wr (by (focus (repeat (first | with_reducible exact Below.refl _ _ | with_reducible assumption | with_reducible refine bel_al _ ?_ | with_reducible refine bel_dr ?_ | with_reducible refine bel_dn _ ?_ | with_reducible refine bel_tr (by assumption) ?_))))) hlt
    have HE := Lib.hid he
    have HX := Lib.hid (show ∀ W : World, Below wr.heap.size wr W → Sl kStr (fun _ => True) W (.slice X f.enum.length y) f.enum from fun W hW => hs.below hW)
    clear he hs
    go_upto_region 7 with (fail)
    have LX : Loc1 wr.heap.size 38 #[.string ⟨f.name.toArray⟩, .int .i64 f.kind, .slice X f.enum.length y, .int .i64 f.init.kind, .int .i64 f.init.int, .bool f.init.bool, .string ⟨f.init.text.toArray⟩, .float .f64 f.init.num] (wr.alloc (.cells #[.string ⟨f.name.toArray⟩, .int .i64 f.kind, .slice X f.enum.length y, .int .i64 f.init.kind, .int .i64 f.init.int, .bool f.init.bool, .string ⟨f.init.text.toArray⟩, .float .f64 f.init.num] 38)) := Loc1.new _ _ _
    have hb0 : Below wr.heap.size wr (wr.alloc (.cells #[.string ⟨f.name.toArray⟩, .int .i64 f.kind, .slice X f.enum.length y, .int .i64 f.init.kind, .int .i64 f.init.int, .bool f.init.bool, .string ⟨f.init.text.toArray⟩, .float .f64 f.init.num] 38)) := (by (focus (repeat (first | with_reducible exact Below.refl _ _ | with_reducible assumption | with_reducible refine bel_al _ ?_ | with_reducible refine bel_dr ?_ | with_reducible refine bel_dn _ ?_ | with_reducible refine bel_tr (by assumption) ?_))))
    generalize (wr.alloc (.cells #[.string ⟨f.name.toArray⟩, .int .i64 f.kind, .slice X f.enum.length y, .int .i64 f.init.kind, .int .i64 f.init.int, .bool f.init.bool, .string ⟨f.init.text.toArray⟩, .float .f64 f.init.num] 38)) = w5 at *
    have KX := Lib.hid (show ∀ W : World, Below w5.heap.size w5 W → (W.cell? ⟨wr.heap.size, 0, none⟩ = some (.string ⟨f.name.toArray⟩) ∧ W.cell? ⟨wr.heap.size, 1, none⟩ = some (.int .i64 f.kind) ∧ W.cell? ⟨wr.heap.size, 2, none⟩ = some (.slice X f.enum.length y) ∧ W.cell? ⟨wr.heap.size, 3, none⟩ = some (.int .i64 f.init.kind) ∧ W.cell? ⟨wr.heap.size, 4, none⟩ = some (.int .i64 f.init.int) ∧ W.cell? ⟨wr.heap.size, 5, none⟩ = some (.bool f.init.bool) ∧ W.cell? ⟨wr.heap.size, 6, none⟩ = some (.string ⟨f.init.text.toArray⟩) ∧ W.cell? ⟨wr.heap.size, 7, none⟩ = some (.float .f64 f.init.num)) ∧ wr.heap.size < W.heap.size from fun W hW => ⟨⟨cell_of (LX.bel hW) 0, cell_of (LX.bel hW) 1, cell_of (LX.bel hW) 2, cell_of (LX.bel hW) 3, cell_of (LX.bel hW) 4, cell_of (LX.bel hW) 5, cell_of (LX.bel hW) 6, cell_of (LX.bel hW) 7⟩, lt_of_heap (LX.bel hW)⟩)
    have HPF := Lib.hid (show pField c k f = (named f.name && (idx (fun e => e.name == f.name) c.fields == (k : Int)) && decide (1 ≤ f.kind) && decide (f.kind ≤ 4) && enumR f && fitsF f.init f == 0) from rfl)
    have E0 := Lib.hid (show pField c k f = false → r = false from fun h => E.out.trans (allI_no HE.out h))
    have E1 := Lib.hid (show pField c k f = true → ∀ j e, j < k + 1 → c.fields[j]? = some e → pField c j e = true from fun h => allI_step HP.out HE.out h)
    clear q0 q1 q2 q3 q4 q5 q6 q7 c0 c1 c2 c3 hz LX E HE HP
    obtain ⟨⟨c0, c1, c2, c3⟩, hz⟩ := KK.out w5 (by (focus (repeat (first | with_reducible exact Below.refl _ _ | with_reducible assumption | with_reducible refine bel_al _ ?_ | with_reducible refine bel_dr ?_ | with_reducible refine bel_dn _ ?_ | with_reducible refine bel_tr (by assumption) ?_)))); obtain ⟨⟨q0, q1, q2, q3, q4, q5, q6, q7⟩, hzx⟩ := KX.out w5 (by (focus (repeat (first | with_reducible exact Below.refl _ _ | with_reducible assumption | with_reducible refine bel_al _ ?_ | with_reducible refine bel_dr ?_ | with_reducible refine bel_dn _ ?_ | with_reducible refine bel_tr (by assumption) ?_))))
    cases hix : (idx (fun e => e.name == f.name) c.fields != (k : Int))
    all_goals go_wp2_with (first
      | (go_at_call 31; refine (rname_c _).mono ?_; rintro x9 wz ⟨rfl, hb⟩; obtain ⟨⟨c0, c1, c2, c3⟩, hz⟩ := KK.out wz (by (focus (repeat (first | with_reducible exact Below.refl _ _ | with_reducible assumption | with_reducible refine bel_al _ ?_ | with_reducible refine bel_dr ?_ | with_reducible refine bel_dn _ ?_ | with_reducible refine bel_tr (by assumption) ?_)))); obtain ⟨⟨q0, q1, q2, q3, q4, q5, q6, q7⟩, hzx⟩ := KX.out wz (by (focus (repeat (first | with_reducible exact Below.refl _ _ | with_reducible assumption | with_reducible refine bel_al _ ?_ | with_reducible refine bel_dr ?_ | with_reducible refine bel_dn _ ?_ | with_reducible refine bel_tr (by assumption) ?_)))))
      | (go_at_call 10; refine (rfield_c (n := 0) f.name (HS.out _ (by (focus (repeat (first | with_reducible exact Below.refl _ _ | with_reducible assumption | with_reducible refine bel_al _ ?_ | with_reducible refine bel_dr ?_ | with_reducible refine bel_dn _ ?_ | with_reducible refine bel_tr (by assumption) ?_)))))).mono ?_; rintro x9 wz ⟨rfl, hb⟩; obtain ⟨⟨c0, c1, c2, c3⟩, hz⟩ := KK.out wz (by (focus (repeat (first | with_reducible exact Below.refl _ _ | with_reducible assumption | with_reducible refine bel_al _ ?_ | with_reducible refine bel_dr ?_ | with_reducible refine bel_dn _ ?_ | with_reducible refine bel_tr (by assumption) ?_)))); obtain ⟨⟨q0, q1, q2, q3, q4, q5, q6, q7⟩, hzx⟩ := KX.out wz (by (focus (repeat (first | with_reducible exact Below.refl _ _ | with_reducible assumption | with_reducible refine bel_al _ ?_ | with_reducible refine bel_dr ?_ | with_reducible refine bel_dn _ ?_ | with_reducible refine bel_tr (by assumption) ?_)))))
      | (go_at_call 49; refine (renum_c f (HX.out _ (by (focus (repeat (first | with_reducible exact Below.refl _ _ | with_reducible assumption | with_reducible refine bel_al _ ?_ | with_reducible refine bel_dr ?_ | with_reducible refine bel_dn _ ?_ | with_reducible refine bel_tr (by assumption) ?_)))))).mono ?_; rintro x9 wz ⟨rfl, hb⟩; obtain ⟨⟨c0, c1, c2, c3⟩, hz⟩ := KK.out wz (by (focus (repeat (first | with_reducible exact Below.refl _ _ | with_reducible assumption | with_reducible refine bel_al _ ?_ | with_reducible refine bel_dr ?_ | with_reducible refine bel_dn _ ?_ | with_reducible refine bel_tr (by assumption) ?_)))); obtain ⟨⟨q0, q1, q2, q3, q4, q5, q6, q7⟩, hzx⟩ := KX.out wz (by (focus (repeat (first | with_reducible exact Below.refl _ _ | with_reducible assumption | with_reducible refine bel_al _ ?_ | with_reducible refine bel_dr ?_ | with_reducible refine bel_dn _ ?_ | with_reducible refine bel_tr (by assumption) ?_)))))
      | (go_at_call 50; refine (rfits_c f.init f (HX.out _ (by (focus (repeat (first | with_reducible exact Below.refl _ _ | with_reducible assumption | with_reducible refine bel_al _ ?_ | with_reducible refine bel_dr ?_ | with_reducible refine bel_dn _ ?_ | with_reducible refine bel_tr (by assumption) ?_)))))).mono ?_; rintro x9 wz ⟨rfl, hb⟩))
    all_goals have hix' : (idx (fun e => e.name == f.name) c.fields == (k : Int)) = !(idx (fun e => e.name == f.name) c.fields != (k : Int)) := by simp [bne]
    all_goals rw [hix] at hix'
    all_goals first
      | (go_ret
         rw [E0.out (HPF.out.trans (by first | (simp [*]; done) | (simp [*]; omega) | (simp_all; done) | (simp_all; omega)))]
         exact ⟨rfl, (by (focus (repeat (first | with_reducible exact Below.refl _ _ | with_reducible assumption | with_reducible refine bel_al _ ?_ | with_reducible refine bel_dr ?_ | with_reducible refine bel_dn _ ?_ | with_reducible refine bel_tr (by assumption) ?_))))⟩)
      | (go_roundw
         case rel => exact ⟨k + 1, by omega, by go_num, E1.out (HPF.out.trans (by first | (simp [*]; done) | (simp [*]; omega) | (simp_all; done) | (simp_all; omega))), (by (focus (repeat (first | with_reducible exact Below.refl _ _ | with_reducible assumption | with_reducible refine bel_al _ ?_ | with_reducible refine bel_dr ?_ | with_reducible refine bel_dn _ ?_ | with_reducible refine bel_tr (by assumption) ?_))))⟩
         case measure => simp [intOf]; omega)
end
end Go.Proofs.Ytjnhgfmjehaalaa
