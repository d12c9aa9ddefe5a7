/- Chapter 6: the reference's fields and stages. -/
import Derived.Test.YtjnhgfmjehaalaaC4
namespace Go.Proofs.Ytjnhgfmjehaalaa
open Go.RowKit
set_option linter.unusedVariables false
set_option linter.unusedSimpArgs false
section
variable {w : World}
theorem rname_c (s : List UInt8) : Calls Try.prog 31 #[.string ⟨s.toArray⟩] w (Ret w (.bool (named s))) := by
  have E := Lib.hid (named_eq s)
  generalize named s = r at *
  by_cases h1 : (1 : Int) ≤ (s.length : Int)
  · by_cases h2 : (s.length : Int) ≤ 16
    · have E1 := Lib.hid (show r = true by rw [E.out, decide_eq_true (by omega), decide_eq_true (by omega)]; rfl)
      go_enter Try.func31, Try.ntmps31
      go_wp2_with fail
      go_ret
      rw [E1.out]
      exact ⟨rfl, (by (focus (repeat (first | with_reducible exact Below.refl _ _ | with_reducible assumption | with_reducible refine bel_al _ ?_ | with_reducible refine bel_dr ?_ | with_reducible refine bel_dn _ ?_ | with_reducible refine bel_tr (by assumption) ?_))))⟩
    · have E1 := Lib.hid (show r = false by rw [E.out, decide_eq_false (show ¬ s.length ≤ 16 by omega), Bool.and_false])
      go_enter Try.func31, Try.ntmps31
      go_wp2_with fail
      go_ret
      rw [E1.out]
      exact ⟨by simp; try omega, (by (focus (repeat (first | with_reducible exact Below.refl _ _ | with_reducible assumption | with_reducible refine bel_al _ ?_ | with_reducible refine bel_dr ?_ | with_reducible refine bel_dn _ ?_ | with_reducible refine bel_tr (by assumption) ?_))))⟩
  · have E1 := Lib.hid (show r = false by rw [E.out, decide_eq_false (show ¬ 0 < s.length by omega)]; rfl)
    go_enter Try.func31, Try.ntmps31
    go_wp2_with fail
    go_ret
    rw [E1.out]
    exact ⟨rfl, (by (focus (repeat (first | with_reducible exact Below.refl _ _ | with_reducible assumption | with_reducible refine bel_al _ ?_ | with_reducible refine bel_dr ?_ | with_reducible refine bel_dn _ ?_ | with_reducible refine bel_tr (by assumption) ?_))))⟩
theorem rfield_c {ok : Nat → Prop} {A B D : Option Addr} {a b d : Nat} {c : Con} {n : Nat} (name : List UInt8) (h : Sl kFld ok w (.slice A c.fields.length a) c.fields) : Calls Try.prog 10 #[.agg #[.string ⟨c.name.toArray⟩, .slice A c.fields.length a, .slice B c.stages.length b, .slice D c.moves.length d], .string ⟨name.toArray⟩] w (Ret w (.int .i64 (idx (fun e => e.name == name) c.fields))) := by
  have HS := Lib.hid (show ∀ W : World, Below w.heap.size w W → Sl kFld ok W (.slice A c.fields.length a) c.fields from fun W hW => h.below hW)
  have hmax := h.len.2.2.1
  have hnc := h.len.2.1
  clear h
  have hL : Loc1 w.heap.size 26 #[.string ⟨c.name.toArray⟩, .slice A c.fields.length a, .slice B c.stages.length b, .slice D c.moves.length d] (w.alloc (.cells #[.string ⟨c.name.toArray⟩, .slice A c.fields.length a, .slice B c.stages.length b, .slice D c.moves.length d] 26)) := Loc1.new _ _ _
  have B0 : Below w.heap.size w (w.alloc (.cells #[.string ⟨c.name.toArray⟩, .slice A c.fields.length a, .slice B c.stages.length b, .slice D c.moves.length d] 26)) := (by (focus (repeat (first | with_reducible exact Below.refl _ _ | with_reducible assumption | with_reducible refine bel_al _ ?_ | with_reducible refine bel_dr ?_ | with_reducible refine bel_dn _ ?_ | with_reducible refine bel_tr (by assumption) ?_))))
  have KK := Lib.hid (show ∀ W : World, Below (w.alloc (.cells #[.string ⟨c.name.toArray⟩, .slice A c.fields.length a, .slice B c.stages.length b, .slice D c.moves.length d] 26)).heap.size (w.alloc (.cells #[.string ⟨c.name.toArray⟩, .slice A c.fields.length a, .slice B c.stages.length b, .slice D c.moves.length d] 26)) W → (W.cell? ⟨w.heap.size, 0, none⟩ = some (.string ⟨c.name.toArray⟩) ∧ W.cell? ⟨w.heap.size, 1, none⟩ = some (.slice A c.fields.length a) ∧ W.cell? ⟨w.heap.size, 2, none⟩ = some (.slice B c.stages.length b) ∧ W.cell? ⟨w.heap.size, 3, none⟩ = some (.slice D c.moves.length d)) ∧ w.heap.size < W.heap.size from fun W hW => ⟨⟨cell_of (hL.bel hW) 0, cell_of (hL.bel hW) 1, cell_of (hL.bel hW) 2, cell_of (hL.bel hW) 3⟩, lt_of_heap (hL.bel hW)⟩)
  clear hL
  go_enter Try.func10, Try.ntmps10
  go_wp2_with fail
  go_loopw [5] (fun v wr => ∃ k : Nat, k ≤ c.fields.length ∧ v = .int .i64 k ∧ (∀ j e, j < k → c.fields[j]? = some e → (fun e => e.name == name) e = false) ∧ Below (w.alloc (.cells #[.string ⟨c.name.toArray⟩, .slice A c.fields.length a, .slice B c.stages.length b, .slice D c.moves.length d] 26)).heap.size (w.alloc (.cells #[.string ⟨c.name.toArray⟩, .slice A c.fields.length a, .slice B c.stages.length b, .slice D c.moves.length d] 26)) wr) (fun v _ => c.fields.length - (intOf v).toNat)
  case atStart => exact ⟨0, Nat.zero_le _, rfl, fun j x hj => absurd hj (Nat.not_lt_zero _), Below.refl _ _⟩
  case round =>
    obtain ⟨k, hk, rfl, hp, hb⟩ := hrel
    have HP := Lib.hid hp
    clear hp
    obtain ⟨⟨c0, c1, c2, c3⟩, hz⟩ := KK.out wr (by (focus (repeat (first | with_reducible exact Below.refl _ _ | with_reducible assumption | with_reducible refine bel_al _ ?_ | with_reducible refine bel_dr ?_ | with_reducible refine bel_dn _ ?_ | with_reducible refine bel_tr (by assumption) ?_))))
    by_cases hlt : k < c.fields.length
    · obtain ⟨ad, e, B', d', rfl, he, -, c0', -⟩ := fld_at (HS.out wr (by (focus (repeat (first | with_reducible exact Below.refl _ _ | with_reducible assumption | with_reducible refine bel_al _ ?_ | with_reducible refine bel_dr ?_ | with_reducible refine bel_dn _ ?_ | with_reducible refine bel_tr (by assumption) ?_))))) hlt
      have HE := Lib.hid he
      clear he
      cases hm : (e.name == name)
      · have HM := Lib.hid hm
        go_wp2_with fail
        go_roundw
        case rel => exact ⟨k + 1, by omega, by go_num, allI_step (q := fun _ e => e.name == name) HP.out HE.out HM.out, hb⟩
        case measure => simp [intOf]; omega
      · have E1 := Lib.hid (idx_at (p := fun e => e.name == name) HP.out HE.out hm)
        go_wp2_with fail
        go_ret
        rw [E1.out]
        exact ⟨rfl, (by (focus (repeat (first | with_reducible exact Below.refl _ _ | with_reducible assumption | with_reducible refine bel_al _ ?_ | with_reducible refine bel_dr ?_ | with_reducible refine bel_dn _ ?_ | with_reducible refine bel_tr (by assumption) ?_))))⟩
    · have E1 := Lib.hid (idx_none (n := k) (by omega) HP.out)
      go_wp2_with fail
      go_ret
      rw [E1.out]
      exact ⟨rfl, (by (focus (repeat (first | with_reducible exact Below.refl _ _ | with_reducible assumption | with_reducible refine bel_al _ ?_ | with_reducible refine bel_dr ?_ | with_reducible refine bel_dn _ ?_ | with_reducible refine bel_tr (by assumption) ?_))))⟩
theorem rstage_c {ok : Nat → Prop} {A B D : Option Addr} {a b d : Nat} {c : Con} {n : Nat} (name : List UInt8) (h : Sl kStg ok w (.slice B c.stages.length b) c.stages) : Calls Try.prog 12 #[.agg #[.string ⟨c.name.toArray⟩, .slice A c.fields.length a, .slice B c.stages.length b, .slice D c.moves.length d], .string ⟨name.toArray⟩] w (Ret w (.int .i64 (idx (fun e => e.name == name) c.stages))) := by
  have HS := Lib.hid (show ∀ W : World, Below w.heap.size w W → Sl kStg ok W (.slice B c.stages.length b) c.stages from fun W hW => h.below hW)
  have hmax := h.len.2.2.1
  have hnc := h.len.2.1
  clear h
  have hL : Loc1 w.heap.size 26 #[.string ⟨c.name.toArray⟩, .slice A c.fields.length a, .slice B c.stages.length b, .slice D c.moves.length d] (w.alloc (.cells #[.string ⟨c.name.toArray⟩, .slice A c.fields.length a, .slice B c.stages.length b, .slice D c.moves.length d] 26)) := Loc1.new _ _ _
  have B0 : Below w.heap.size w (w.alloc (.cells #[.string ⟨c.name.toArray⟩, .slice A c.fields.length a, .slice B c.stages.length b, .slice D c.moves.length d] 26)) := (by (focus (repeat (first | with_reducible exact Below.refl _ _ | with_reducible assumption | with_reducible refine bel_al _ ?_ | with_reducible refine bel_dr ?_ | with_reducible refine bel_dn _ ?_ | with_reducible refine bel_tr (by assumption) ?_))))
  have KK := Lib.hid (show ∀ W : World, Below (w.alloc (.cells #[.string ⟨c.name.toArray⟩, .slice A c.fields.length a, .slice B c.stages.length b, .slice D c.moves.length d] 26)).heap.size (w.alloc (.cells #[.string ⟨c.name.toArray⟩, .slice A c.fields.length a, .slice B c.stages.length b, .slice D c.moves.length d] 26)) W → (W.cell? ⟨w.heap.size, 0, none⟩ = some (.string ⟨c.name.toArray⟩) ∧ W.cell? ⟨w.heap.size, 1, none⟩ = some (.slice A c.fields.length a) ∧ W.cell? ⟨w.heap.size, 2, none⟩ = some (.slice B c.stages.length b) ∧ W.cell? ⟨w.heap.size, 3, none⟩ = some (.slice D c.moves.length d)) ∧ w.heap.size < W.heap.size from fun W hW => ⟨⟨cell_of (hL.bel hW) 0, cell_of (hL.bel hW) 1, cell_of (hL.bel hW) 2, cell_of (hL.bel hW) 3⟩, lt_of_heap (hL.bel hW)⟩)
  clear hL
  go_enter Try.func12, Try.ntmps12
  go_wp2_with fail
  go_loopw [5] (fun v wr => ∃ k : Nat, k ≤ c.stages.length ∧ v = .int .i64 k ∧ (∀ j e, j < k → c.stages[j]? = some e → (fun e => e.name == name) e = false) ∧ Below (w.alloc (.cells #[.string ⟨c.name.toArray⟩, .slice A c.fields.length a, .slice B c.stages.length b, .slice D c.moves.length d] 26)).heap.size (w.alloc (.cells #[.string ⟨c.name.toArray⟩, .slice A c.fields.length a, .slice B c.stages.length b, .slice D c.moves.length d] 26)) wr) (fun v _ => c.stages.length - (intOf v).toNat)
  case atStart => exact ⟨0, Nat.zero_le _, rfl, fun j x hj => absurd hj (Nat.not_lt_zero _), Below.refl _ _⟩
  case round =>
    obtain ⟨k, hk, rfl, hp, hb⟩ := hrel
    have HP := Lib.hid hp
    clear hp
    obtain ⟨⟨c0, c1, c2, c3⟩, hz⟩ := KK.out wr (by (focus (repeat (first | with_reducible exact Below.refl _ _ | with_reducible assumption | with_reducible refine bel_al _ ?_ | with_reducible refine bel_dr ?_ | with_reducible refine bel_dn _ ?_ | with_reducible refine bel_tr (by assumption) ?_))))
    by_cases hlt : k < c.stages.length
    · obtain ⟨ad, e, B', d', rfl, he, -, c0', -⟩ := stg_at (HS.out wr (by (focus (repeat (first | with_reducible exact Below.refl _ _ | with_reducible assumption | with_reducible refine bel_al _ ?_ | with_reducible refine bel_dr ?_ | with_reducible refine bel_dn _ ?_ | with_reducible refine bel_tr (by assumption) ?_))))) hlt
      have HE := Lib.hid he
      clear he
      cases hm : (e.name == name)
      · have HM := Lib.hid hm
        go_wp2_with fail
        go_roundw
        case rel => exact ⟨k + 1, by omega, by go_num, allI_step (q := fun _ e => e.name == name) HP.out HE.out HM.out, hb⟩
        case measure => simp [intOf]; omega
      · have E1 := Lib.hid (idx_at (p := fun e => e.name == name) HP.out HE.out hm)
        go_wp2_with fail
        go_ret
        rw [E1.out]
        exact ⟨rfl, (by (focus (repeat (first | with_reducible exact Below.refl _ _ | with_reducible assumption | with_reducible refine bel_al _ ?_ | with_reducible refine bel_dr ?_ | with_reducible refine bel_dn _ ?_ | with_reducible refine bel_tr (by assumption) ?_))))⟩
    · have E1 := Lib.hid (idx_none (n := k) (by omega) HP.out)
      go_wp2_with fail
      go_ret
      rw [E1.out]
      exact ⟨rfl, (by (focus (repeat (first | with_reducible exact Below.refl _ _ | with_reducible assumption | with_reducible refine bel_al _ ?_ | with_reducible refine bel_dr ?_ | with_reducible refine bel_dn _ ?_ | with_reducible refine bel_tr (by assumption) ?_))))⟩
theorem rmove_c {ok : Nat → Prop} {A B D : Option Addr} {a b d : Nat} {c : Con} {n : Nat} (name : List UInt8) (h : Sl (kMov n) ok w (.slice D c.moves.length d) c.moves) : Calls Try.prog 14 #[.agg #[.string ⟨c.name.toArray⟩, .slice A c.fields.length a, .slice B c.stages.length b, .slice D c.moves.length d], .string ⟨name.toArray⟩] w (Ret w (.int .i64 (idx (fun e => e.name == name) c.moves))) := by
  have HS := Lib.hid (show ∀ W : World, Below w.heap.size w W → Sl (kMov n) ok W (.slice D c.moves.length d) c.moves from fun W hW => h.below hW)
  have hmax := h.len.2.2.1
  have hnc := h.len.2.1
  clear h
  have hL : Loc1 w.heap.size 26 #[.string ⟨c.name.toArray⟩, .slice A c.fields.length a, .slice B c.stages.length b, .slice D c.moves.length d] (w.alloc (.cells #[.string ⟨c.name.toArray⟩, .slice A c.fields.length a, .slice B c.stages.length b, .slice D c.moves.length d] 26)) := Loc1.new _ _ _
  have B0 : Below w.heap.size w (w.alloc (.cells #[.string ⟨c.name.toArray⟩, .slice A c.fields.length a, .slice B c.stages.length b, .slice D c.moves.length d] 26)) := (by (focus (repeat (first | with_reducible exact Below.refl _ _ | with_reducible assumption | with_reducible refine bel_al _ ?_ | with_reducible refine bel_dr ?_ | with_reducible refine bel_dn _ ?_ | with_reducible refine bel_tr (by assumption) ?_))))
  have KK := Lib.hid (show ∀ W : World, Below (w.alloc (.cells #[.string ⟨c.name.toArray⟩, .slice A c.fields.length a, .slice B c.stages.length b, .slice D c.moves.length d] 26)).heap.size (w.alloc (.cells #[.string ⟨c.name.toArray⟩, .slice A c.fields.length a, .slice B c.stages.length b, .slice D c.moves.length d] 26)) W → (W.cell? ⟨w.heap.size, 0, none⟩ = some (.string ⟨c.name.toArray⟩) ∧ W.cell? ⟨w.heap.size, 1, none⟩ = some (.slice A c.fields.length a) ∧ W.cell? ⟨w.heap.size, 2, none⟩ = some (.slice B c.stages.length b) ∧ W.cell? ⟨w.heap.size, 3, none⟩ = some (.slice D c.moves.length d)) ∧ w.heap.size < W.heap.size from fun W hW => ⟨⟨cell_of (hL.bel hW) 0, cell_of (hL.bel hW) 1, cell_of (hL.bel hW) 2, cell_of (hL.bel hW) 3⟩, lt_of_heap (hL.bel hW)⟩)
  clear hL
  go_enter Try.func14, Try.ntmps14
  go_wp2_with fail
  go_loopw [5] (fun v wr => ∃ k : Nat, k ≤ c.moves.length ∧ v = .int .i64 k ∧ (∀ j e, j < k → c.moves[j]? = some e → (fun e => e.name == name) e = false) ∧ Below (w.alloc (.cells #[.string ⟨c.name.toArray⟩, .slice A c.fields.length a, .slice B c.stages.length b, .slice D c.moves.length d] 26)).heap.size (w.alloc (.cells #[.string ⟨c.name.toArray⟩, .slice A c.fields.length a, .slice B c.stages.length b, .slice D c.moves.length d] 26)) wr) (fun v _ => c.moves.length - (intOf v).toNat)
  case atStart => exact ⟨0, Nat.zero_le _, rfl, fun j x hj => absurd hj (Nat.not_lt_zero _), Below.refl _ _⟩
  case round =>
    obtain ⟨k, hk, rfl, hp, hb⟩ := hrel
    have HP := Lib.hid hp
    clear hp
    obtain ⟨⟨c0, c1, c2, c3⟩, hz⟩ := KK.out wr (by (focus (repeat (first | with_reducible exact Below.refl _ _ | with_reducible assumption | with_reducible refine bel_al _ ?_ | with_reducible refine bel_dr ?_ | with_reducible refine bel_dn _ ?_ | with_reducible refine bel_tr (by assumption) ?_))))
    by_cases hlt : k < c.moves.length
    · obtain ⟨ad, e, k', B', b', D', d', rfl, he, -, -, -, c0', -⟩ := mov_at (HS.out wr (by (focus (repeat (first | with_reducible exact Below.refl _ _ | with_reducible assumption | with_reducible refine bel_al _ ?_ | with_reducible refine bel_dr ?_ | with_reducible refine bel_dn _ ?_ | with_reducible refine bel_tr (by assumption) ?_))))) hlt
      have HE := Lib.hid he
      clear he
      cases hm : (e.name == name)
      · have HM := Lib.hid hm
        go_wp2_with fail
        go_roundw
        case rel => exact ⟨k + 1, by omega, by go_num, allI_step (q := fun _ e => e.name == name) HP.out HE.out HM.out, hb⟩
        case measure => simp [intOf]; omega
      · have E1 := Lib.hid (idx_at (p := fun e => e.name == name) HP.out HE.out hm)
        go_wp2_with fail
        go_ret
        rw [E1.out]
        exact ⟨rfl, (by (focus (repeat (first | with_reducible exact Below.refl _ _ | with_reducible assumption | with_reducible refine bel_al _ ?_ | with_reducible refine bel_dr ?_ | with_reducible refine bel_dn _ ?_ | with_reducible refine bel_tr (by assumption) ?_))))⟩
    · have E1 := Lib.hid (idx_none (n := k) (by omega) HP.out)
      go_wp2_with fail
      go_ret
      rw [E1.out]
      exact ⟨rfl, (by (focus (repeat (first | with_reducible exact Below.refl _ _ | with_reducible assumption | with_reducible refine bel_al _ ?_ | with_reducible refine bel_dr ?_ | with_reducible refine bel_dn _ ?_ | with_reducible refine bel_tr (by assumption) ?_))))⟩
theorem len_pos0 {α : Type} {l : List α} (h : ((l.length : Int) == 0) = true) : decide (0 < l.length) = false := by
  have h : (l.length : Int) = 0 := by simpa using h
  exact decide_eq_false (by omega)
theorem len_pos1 {α : Type} {l : List α} (h : ((l.length : Int) == 0) = false) : decide (0 < l.length) = true := by
  have h : ¬ (l.length : Int) = 0 := by simpa using h
  exact decide_eq_true (by omega)
theorem any_step {α : Type} {l : List α} {p : α → Bool} {i : Nat} {y : α} (he : l[i]? = some y) (hy : p y = true) : l.any p = true := List.any_eq_true.2 ⟨y, List.mem_of_getElem? he, hy⟩
theorem any_none {α : Type} {l : List α} {p : α → Bool} {n : Nat} (hn : l.length ≤ n) (h : ∀ (j : Nat) (x : α), j < n → l[j]? = some x → (fun (_ : Nat) x => p x) j x = false) : l.any p = false := by
  rw [List.any_eq_false]
  intro x hx
  obtain ⟨j, hj, rfl⟩ := List.getElem_of_mem hx
  rw [show p l[j] = false from h j _ (by omega) (List.getElem?_eq_getElem hj)]; decide
set_option maxHeartbeats 2000000 in
theorem rfits_c {ok : Nat → Prop} (v : Val) (f : Fld) {B : Option Addr} {d : Nat} (h : Sl kStr ok w (.slice B f.enum.length d) f.enum) : Calls Try.prog 50 #[.agg #[.int .i64 v.kind, .int .i64 v.int, .bool v.bool, .string ⟨v.text.toArray⟩, .float .f64 v.num], .agg #[.string ⟨f.name.toArray⟩, .int .i64 f.kind, .slice B f.enum.length d, .int .i64 f.init.kind, .int .i64 f.init.int, .bool f.init.bool, .string ⟨f.init.text.toArray⟩, .float .f64 f.init.num]] w (Ret w (.int .i64 (fitsF v f))) := by
  have SF := store_f64
  have HS := Lib.hid (show ∀ W : World, Below w.heap.size w W → Sl kStr ok W (.slice B f.enum.length d) f.enum from fun W hW => h.below hW)
  have E := Lib.hid (show fitsF v f = if !goodV v || v.kind != f.kind then 40 else if v.kind == 3 && decide (0 < f.enum.length) && !(f.enum.any fun x => x == v.text) then 60 else 0 from rfl)
  have KK := Lib.hid (show ∀ W : World, Below ((w.alloc (.cells #[.int .i64 v.kind, .int .i64 v.int, .bool v.bool, .string ⟨v.text.toArray⟩, .float .f64 v.num] 36)).alloc (.cells #[.string ⟨f.name.toArray⟩, .int .i64 f.kind, .slice B f.enum.length d, .int .i64 f.init.kind, .int .i64 f.init.int, .bool f.init.bool, .string ⟨f.init.text.toArray⟩, .float .f64 f.init.num] 38)).heap.size ((w.alloc (.cells #[.int .i64 v.kind, .int .i64 v.int, .bool v.bool, .string ⟨v.text.toArray⟩, .float .f64 v.num] 36)).alloc (.cells #[.string ⟨f.name.toArray⟩, .int .i64 f.kind, .slice B f.enum.length d, .int .i64 f.init.kind, .int .i64 f.init.int, .bool f.init.bool, .string ⟨f.init.text.toArray⟩, .float .f64 f.init.num] 38)) W → W.cell? ⟨w.heap.size, 0, none⟩ = some (.int .i64 v.kind) ∧ W.cell? ⟨w.heap.size, 1, none⟩ = some (.int .i64 v.int) ∧ W.cell? ⟨w.heap.size, 2, none⟩ = some (.bool v.bool) ∧ W.cell? ⟨w.heap.size, 3, none⟩ = some (.string ⟨v.text.toArray⟩) ∧ W.cell? ⟨w.heap.size, 4, none⟩ = some (.float .f64 v.num) ∧ W.cell? ⟨w.heap.size + 1, 0, none⟩ = some (.string ⟨f.name.toArray⟩) ∧ W.cell? ⟨w.heap.size + 1, 1, none⟩ = some (.int .i64 f.kind) ∧ W.cell? ⟨w.heap.size + 1, 2, none⟩ = some (.slice B f.enum.length d) ∧ W.cell? ⟨w.heap.size + 1, 3, none⟩ = some (.int .i64 f.init.kind) ∧ W.cell? ⟨w.heap.size + 1, 4, none⟩ = some (.int .i64 f.init.int) ∧ W.cell? ⟨w.heap.size + 1, 5, none⟩ = some (.bool f.init.bool) ∧ W.cell? ⟨w.heap.size + 1, 6, none⟩ = some (.string ⟨f.init.text.toArray⟩) ∧ W.cell? ⟨w.heap.size + 1, 7, none⟩ = some (.float .f64 f.init.num) ∧ w.heap.size + 1 < W.heap.size from fun W hW => by
    have h1 : Loc1 w.heap.size 36 #[.int .i64 v.kind, .int .i64 v.int, .bool v.bool, .string ⟨v.text.toArray⟩, .float .f64 v.num] ((w.alloc (.cells #[.int .i64 v.kind, .int .i64 v.int, .bool v.bool, .string ⟨v.text.toArray⟩, .float .f64 v.num] 36)).alloc (.cells #[.string ⟨f.name.toArray⟩, .int .i64 f.kind, .slice B f.enum.length d, .int .i64 f.init.kind, .int .i64 f.init.int, .bool f.init.bool, .string ⟨f.init.text.toArray⟩, .float .f64 f.init.num] 38)) := (by (focus (repeat (first | with_reducible assumption | exact Loc1.newE _ _ _ (by simp) | with_reducible refine Loc1.al _ ?_ | with_reducible refine Loc1.dr ?_ | with_reducible refine Loc1.bel (by assumption) ?_))))
    have h2 : Loc1 (w.heap.size + 1) 38 #[.string ⟨f.name.toArray⟩, .int .i64 f.kind, .slice B f.enum.length d, .int .i64 f.init.kind, .int .i64 f.init.int, .bool f.init.bool, .string ⟨f.init.text.toArray⟩, .float .f64 f.init.num] ((w.alloc (.cells #[.int .i64 v.kind, .int .i64 v.int, .bool v.bool, .string ⟨v.text.toArray⟩, .float .f64 v.num] 36)).alloc (.cells #[.string ⟨f.name.toArray⟩, .int .i64 f.kind, .slice B f.enum.length d, .int .i64 f.init.kind, .int .i64 f.init.int, .bool f.init.bool, .string ⟨f.init.text.toArray⟩, .float .f64 f.init.num] 38)) := (by (focus (repeat (first | with_reducible assumption | exact Loc1.newE _ _ _ (by simp) | with_reducible refine Loc1.al _ ?_ | with_reducible refine Loc1.dr ?_ | with_reducible refine Loc1.bel (by assumption) ?_))))
    refine ⟨cell_of (h1.bel hW) 0, ?_⟩
    exact ⟨cell_of (h1.bel hW) 1, cell_of (h1.bel hW) 2, cell_of (h1.bel hW) 3, cell_of (h1.bel hW) 4, cell_of (h2.bel hW) 0, cell_of (h2.bel hW) 1, cell_of (h2.bel hW) 2, cell_of (h2.bel hW) 3, cell_of (h2.bel hW) 4, cell_of (h2.bel hW) 5, cell_of (h2.bel hW) 6, cell_of (h2.bel hW) 7, lt_of_heap (h2.bel hW)⟩)
  have hmax := h.len.2.2.1
  have hnc := h.len.2.1
  generalize fitsF v f = r at *
  clear h
  cases hg : goodV v
  · have E1 := Lib.hid (show r = 40 from by rw [E.out]; simp [hg])
    go_enter Try.func50, Try.ntmps50
    go_wp2_with fail
    refine (good4_c v).mono ?_
    rintro x9 w1 ⟨rfl, hb1⟩
    obtain ⟨v0, v1, v2, v3, v4, c0, c1, c2, c3, c4, c5, c6, c7, hz⟩ := KK.out w1 (by (focus (repeat (first | with_reducible exact Below.refl _ _ | with_reducible assumption | with_reducible refine bel_al _ ?_ | with_reducible refine bel_dr ?_ | with_reducible refine bel_dn _ ?_ | with_reducible refine bel_tr (by assumption) ?_))))
    go_wp2_with fail
    go_ret
    rw [E1.out]
    exact ⟨rfl, (by (focus (repeat (first | with_reducible exact Below.refl _ _ | with_reducible assumption | with_reducible refine bel_al _ ?_ | with_reducible refine bel_dr ?_ | with_reducible refine bel_dn _ ?_ | with_reducible refine bel_tr (by assumption) ?_))))⟩
  cases hk : (v.kind != f.kind)
  rotate_left
  · have E1 := Lib.hid (show r = 40 from by rw [E.out, hk]; simp)
    go_enter Try.func50, Try.ntmps50
    go_wp2_with fail
    refine (good4_c v).mono ?_
    rintro x9 w1 ⟨rfl, hb1⟩
    obtain ⟨v0, v1, v2, v3, v4, c0, c1, c2, c3, c4, c5, c6, c7, hz⟩ := KK.out w1 (by (focus (repeat (first | with_reducible exact Below.refl _ _ | with_reducible assumption | with_reducible refine bel_al _ ?_ | with_reducible refine bel_dr ?_ | with_reducible refine bel_dn _ ?_ | with_reducible refine bel_tr (by assumption) ?_))))
    go_wp2_with fail
    go_ret
    rw [E1.out]
    exact ⟨rfl, (by (focus (repeat (first | with_reducible exact Below.refl _ _ | with_reducible assumption | with_reducible refine bel_al _ ?_ | with_reducible refine bel_dr ?_ | with_reducible refine bel_dn _ ?_ | with_reducible refine bel_tr (by assumption) ?_))))⟩
  cases h0 : ((f.enum.length : Int) == 0)
  rotate_left
  · have E1 := Lib.hid (show r = 0 from by rw [E.out, hg, hk, len_pos0 h0]; simp)
    go_enter Try.func50, Try.ntmps50
    go_wp2_with fail
    refine (good4_c v).mono ?_
    rintro x9 w1 ⟨rfl, hb1⟩
    obtain ⟨v0, v1, v2, v3, v4, c0, c1, c2, c3, c4, c5, c6, c7, hz⟩ := KK.out w1 (by (focus (repeat (first | with_reducible exact Below.refl _ _ | with_reducible assumption | with_reducible refine bel_al _ ?_ | with_reducible refine bel_dr ?_ | with_reducible refine bel_dn _ ?_ | with_reducible refine bel_tr (by assumption) ?_))))
    go_wp2_with fail
    go_ret
    rw [E1.out]
    exact ⟨rfl, (by (focus (repeat (first | with_reducible exact Below.refl _ _ | with_reducible assumption | with_reducible refine bel_al _ ?_ | with_reducible refine bel_dr ?_ | with_reducible refine bel_dn _ ?_ | with_reducible refine bel_tr (by assumption) ?_))))⟩
  cases h3 : (v.kind != 3)
  rotate_left
  · have E1 := Lib.hid (show r = 0 from by rw [E.out, hg, hk, show (v.kind == 3) = false by simpa using h3]; simp)
    go_enter Try.func50, Try.ntmps50
    go_wp2_with fail
    refine (good4_c v).mono ?_
    rintro x9 w1 ⟨rfl, hb1⟩
    obtain ⟨v0, v1, v2, v3, v4, c0, c1, c2, c3, c4, c5, c6, c7, hz⟩ := KK.out w1 (by (focus (repeat (first | with_reducible exact Below.refl _ _ | with_reducible assumption | with_reducible refine bel_al _ ?_ | with_reducible refine bel_dr ?_ | with_reducible refine bel_dn _ ?_ | with_reducible refine bel_tr (by assumption) ?_))))
    go_wp2_with fail
    go_ret
    rw [E1.out]
    exact ⟨rfl, (by (focus (repeat (first | with_reducible exact Below.refl _ _ | with_reducible assumption | with_reducible refine bel_al _ ?_ | with_reducible refine bel_dr ?_ | with_reducible refine bel_dn _ ?_ | with_reducible refine bel_tr (by assumption) ?_))))⟩
  replace E := Lib.hid (show r = if f.enum.any fun x => x == v.text then 0 else 60 by
    rw [E.out, hg, hk, show (v.kind == 3) = true by simpa using h3, len_pos1 h0]
    cases f.enum.any fun x => x == v.text <;> simp)
  go_enter Try.func50, Try.ntmps50
  go_wp2_with fail
  refine (good4_c v).mono ?_
  rintro x9 w1 ⟨rfl, hb1⟩
  obtain ⟨v0, v1, v2, v3, v4, c0, c1, c2, c3, c4, c5, c6, c7, hz⟩ := KK.out w1 (by (focus (repeat (first | with_reducible exact Below.refl _ _ | with_reducible assumption | with_reducible refine bel_al _ ?_ | with_reducible refine bel_dr ?_ | with_reducible refine bel_dn _ ?_ | with_reducible refine bel_tr (by assumption) ?_))))
  go_wp2_with fail
  clear v0 v1 v2 v3 v4 c0 c1 c2 c3 c4 c5 c6 c7 hz
  clear h0 h3 hg hk
  go_loopw [5] (fun x5 wr => ∃ k : Nat, k ≤ f.enum.length ∧ x5 = .int .i64 k ∧ (∀ j e, j < k → f.enum[j]? = some e → (fun (_ : Nat) e => e == v.text) j e = false) ∧ Below w1.heap.size w1 wr) (fun x5 _ => f.enum.length - (intOf x5).toNat)
  case atStart => exact ⟨0, Nat.zero_le _, rfl, allI_nil, Below.refl _ _⟩
  case round =>
    obtain ⟨k, hk, rfl, hp, hb⟩ := hrel
    have HP := Lib.hid hp
    clear hp
    obtain ⟨v0, v1, v2, v3, v4, c0, c1, c2, c3, c4, c5, c6, c7, hz⟩ := KK.out wr (by (focus (repeat (first | with_reducible exact Below.refl _ _ | with_reducible assumption | with_reducible refine bel_al _ ?_ | with_reducible refine bel_dr ?_ | with_reducible refine bel_dn _ ?_ | with_reducible refine bel_tr (by assumption) ?_))))
    by_cases hlt : k < f.enum.length
    · obtain ⟨ad, e, rfl, he, c0'⟩ := str_at (HS.out wr (by (focus (repeat (first | with_reducible exact Below.refl _ _ | with_reducible assumption | with_reducible refine bel_al _ ?_ | with_reducible refine bel_dr ?_ | with_reducible refine bel_dn _ ?_ | with_reducible refine bel_tr (by assumption) ?_))))) hlt
      have HE := Lib.hid he
      clear he
      have hk1 : (0 : Int) ≤ (k : Int) := by omega
      have hk2 : (k : Int) < (f.enum.length : Int) := by omega
      cases hm : (e == v.text)
      · have HM := Lib.hid hm
        go_wp2_with fail
        go_quiet ((fail))
        go_wp2_with fail
        go_roundw
        case rel => exact ⟨k + 1, by omega, by go_num, allI_step (q := fun _ e => e == v.text) HP.out HE.out HM.out, (by (focus (repeat (first | with_reducible exact Below.refl _ _ | with_reducible assumption | with_reducible refine bel_al _ ?_ | with_reducible refine bel_dr ?_ | with_reducible refine bel_dn _ ?_ | with_reducible refine bel_tr (by assumption) ?_))))⟩
        case measure => simp [intOf]; omega
      · have E1 := Lib.hid (show r = 0 by rw [E.out, any_step HE.out hm]; rfl)
        go_wp2_with fail
        go_quiet ((fail))
        go_wp2_with fail
        go_ret
        rw [E1.out]
        exact ⟨rfl, (by (focus (repeat (first | with_reducible exact Below.refl _ _ | with_reducible assumption | with_reducible refine bel_al _ ?_ | with_reducible refine bel_dr ?_ | with_reducible refine bel_dn _ ?_ | with_reducible refine bel_tr (by assumption) ?_))))⟩
    · have E1 := Lib.hid (show r = 60 by rw [E.out, any_none (n := k) (by omega) HP.out]; rfl)
      go_wp2_with fail
      go_ret
      rw [E1.out]
      exact ⟨rfl, (by (focus (repeat (first | with_reducible exact Below.refl _ _ | with_reducible assumption | with_reducible refine bel_al _ ?_ | with_reducible refine bel_dr ?_ | with_reducible refine bel_dn _ ?_ | with_reducible refine bel_tr (by assumption) ?_))))⟩
end
end Go.Proofs.Ytjnhgfmjehaalaa
