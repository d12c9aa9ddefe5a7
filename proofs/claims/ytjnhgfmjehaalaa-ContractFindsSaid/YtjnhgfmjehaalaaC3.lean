/- Chapter 6: names found. -/
import Derived.Test.YtjnhgfmjehaalaaC2
namespace Go.Proofs.Ytjnhgfmjehaalaa
open Go.RowKit
set_option linter.unusedVariables false
set_option linter.unusedSimpArgs false
section
variable {w : World}
theorem fname_c (e : Fld) (B : Option Addr) (d : Nat) : Calls Try.prog 19 #[.agg #[.string ⟨e.name.toArray⟩, .int .i64 e.kind, .slice B e.enum.length d, .int .i64 e.init.kind, .int .i64 e.init.int, .bool e.init.bool, .string ⟨e.init.text.toArray⟩, .float .f64 e.init.num]] w (Ret w (.string ⟨e.name.toArray⟩)) := by
  have SF := store_f64
  go_enter Try.func19, Try.ntmps19
  go_wp2_with fail
  go_ret
  exact ⟨rfl, (by (focus (repeat (first | with_reducible exact Below.refl _ _ | with_reducible assumption | with_reducible refine bel_al _ ?_ | with_reducible refine bel_dr ?_ | with_reducible refine bel_dn _ ?_ | with_reducible refine bel_tr (by assumption) ?_))))⟩
theorem gname_c (e : Stg) (B : Option Addr) (d : Nat) : Calls Try.prog 24 #[.agg #[.string ⟨e.name.toArray⟩, .int .i64 e.need, .slice B e.orgs.length d]] w (Ret w (.string ⟨e.name.toArray⟩)) := by
  have SF := store_f64
  go_enter Try.func24, Try.ntmps24
  go_wp2_with fail
  go_ret
  exact ⟨rfl, (by (focus (repeat (first | with_reducible exact Below.refl _ _ | with_reducible assumption | with_reducible refine bel_al _ ?_ | with_reducible refine bel_dr ?_ | with_reducible refine bel_dn _ ?_ | with_reducible refine bel_tr (by assumption) ?_))))⟩
theorem mname_c (e : Mov) (B : Option Addr) (b : Nat) (D : Option Addr) (d : Nat) : Calls Try.prog 29 #[.agg #[.string ⟨e.name.toArray⟩, .int .i64 e.frm, .int .i64 e.tgt, .int .i64 e.guard.op, .slice B e.guard.kids.length b, .string ⟨e.guard.name.toArray⟩, .int .i64 e.guard.val.kind, .int .i64 e.guard.val.int, .bool e.guard.val.bool, .string ⟨e.guard.val.text.toArray⟩, .float .f64 e.guard.val.num, .slice D e.effects.length d, .int .i64 e.org]] w (Ret w (.string ⟨e.name.toArray⟩)) := by
  have SF := store_f64
  go_enter Try.func29, Try.ntmps29
  go_wp2_with fail
  go_ret
  exact ⟨rfl, (by (focus (repeat (first | with_reducible exact Below.refl _ _ | with_reducible assumption | with_reducible refine bel_al _ ?_ | with_reducible refine bel_dr ?_ | with_reducible refine bel_dn _ ?_ | with_reducible refine bel_tr (by assumption) ?_))))⟩
theorem clof_c (name : List UInt8) {P Q : Nat} {t u : TypeId} (e : Fld) (B : Option Addr) (d : Nat) (hP : Loc1 P t #[.func (.func 19) #[] #[]] w) (hQ : Loc1 Q u #[.string ⟨name.toArray⟩] w) : Calls Try.prog 67 #[.agg #[.string ⟨e.name.toArray⟩, .int .i64 e.kind, .slice B e.enum.length d, .int .i64 e.init.kind, .int .i64 e.init.int, .bool e.init.bool, .string ⟨e.init.text.toArray⟩, .float .f64 e.init.num], .pointer (some ⟨P, 0, none⟩), .pointer (some ⟨Q, 0, none⟩)] w (Ret w (.bool (e.name == name))) := by
  have SF := store_f64
  have E := Lib.hid (show (e.name == name) = (e.name == name) from rfl)
  have hr : ∃ r, (e.name == name) = r := ⟨_, rfl⟩
  have KK := Lib.hid (show ∀ W : World, Below (w.alloc (.cells #[.string ⟨e.name.toArray⟩, .int .i64 e.kind, .slice B e.enum.length d, .int .i64 e.init.kind, .int .i64 e.init.int, .bool e.init.bool, .string ⟨e.init.text.toArray⟩, .float .f64 e.init.num] 38)).heap.size (w.alloc (.cells #[.string ⟨e.name.toArray⟩, .int .i64 e.kind, .slice B e.enum.length d, .int .i64 e.init.kind, .int .i64 e.init.int, .bool e.init.bool, .string ⟨e.init.text.toArray⟩, .float .f64 e.init.num] 38)) W → W.cell? ⟨P, 0, none⟩ = some (.func (.func 19) #[] #[]) ∧ W.cell? ⟨Q, 0, none⟩ = some (.string ⟨name.toArray⟩) ∧ W.cell? ⟨w.heap.size, 0, none⟩ = some (.string ⟨e.name.toArray⟩) ∧ W.cell? ⟨w.heap.size, 1, none⟩ = some (.int .i64 e.kind) ∧ W.cell? ⟨w.heap.size, 2, none⟩ = some (.slice B e.enum.length d) ∧ W.cell? ⟨w.heap.size, 3, none⟩ = some (.int .i64 e.init.kind) ∧ W.cell? ⟨w.heap.size, 4, none⟩ = some (.int .i64 e.init.int) ∧ W.cell? ⟨w.heap.size, 5, none⟩ = some (.bool e.init.bool) ∧ W.cell? ⟨w.heap.size, 6, none⟩ = some (.string ⟨e.init.text.toArray⟩) ∧ W.cell? ⟨w.heap.size, 7, none⟩ = some (.float .f64 e.init.num) from fun W hW => by
    have h1 : Loc1 P t #[.func (.func 19) #[] #[]] (w.alloc (.cells #[.string ⟨e.name.toArray⟩, .int .i64 e.kind, .slice B e.enum.length d, .int .i64 e.init.kind, .int .i64 e.init.int, .bool e.init.bool, .string ⟨e.init.text.toArray⟩, .float .f64 e.init.num] 38)) := (by (focus (repeat (first | with_reducible assumption | exact Loc1.newE _ _ _ (by simp) | with_reducible refine Loc1.al _ ?_ | with_reducible refine Loc1.dr ?_ | with_reducible refine Loc1.bel (by assumption) ?_))))
    have h2 : Loc1 Q u #[.string ⟨name.toArray⟩] (w.alloc (.cells #[.string ⟨e.name.toArray⟩, .int .i64 e.kind, .slice B e.enum.length d, .int .i64 e.init.kind, .int .i64 e.init.int, .bool e.init.bool, .string ⟨e.init.text.toArray⟩, .float .f64 e.init.num] 38)) := (by (focus (repeat (first | with_reducible assumption | exact Loc1.newE _ _ _ (by simp) | with_reducible refine Loc1.al _ ?_ | with_reducible refine Loc1.dr ?_ | with_reducible refine Loc1.bel (by assumption) ?_))))
    have h3 : Loc1 w.heap.size 38 #[.string ⟨e.name.toArray⟩, .int .i64 e.kind, .slice B e.enum.length d, .int .i64 e.init.kind, .int .i64 e.init.int, .bool e.init.bool, .string ⟨e.init.text.toArray⟩, .float .f64 e.init.num] (w.alloc (.cells #[.string ⟨e.name.toArray⟩, .int .i64 e.kind, .slice B e.enum.length d, .int .i64 e.init.kind, .int .i64 e.init.int, .bool e.init.bool, .string ⟨e.init.text.toArray⟩, .float .f64 e.init.num] 38)) := Loc1.new _ _ _
    exact ⟨cell_of (h1.bel hW) 0, cell_of (h2.bel hW) 0, cell_of (h3.bel hW) 0, cell_of (h3.bel hW) 1, cell_of (h3.bel hW) 2, cell_of (h3.bel hW) 3, cell_of (h3.bel hW) 4, cell_of (h3.bel hW) 5, cell_of (h3.bel hW) 6, cell_of (h3.bel hW) 7⟩)
  have hz1 := lt_of_heap hP
  have hz2 := lt_of_heap hQ
  clear hP hQ
  go_enter Try.func67, Try.ntmps67
  go_wp2_with fail
  go_region_held3 (fun W => W.cell? ⟨P, 0, none⟩ = some (.func (.func 19) #[] #[]) ∧ W.cell? ⟨Q, 0, none⟩ = some (.string ⟨name.toArray⟩) ∧ W.cell? ⟨w.heap.size, 0, none⟩ = some (.string ⟨e.name.toArray⟩) ∧ W.cell? ⟨w.heap.size, 1, none⟩ = some (.int .i64 e.kind) ∧ W.cell? ⟨w.heap.size, 2, none⟩ = some (.slice B e.enum.length d) ∧ W.cell? ⟨w.heap.size, 3, none⟩ = some (.int .i64 e.init.kind) ∧ W.cell? ⟨w.heap.size, 4, none⟩ = some (.int .i64 e.init.int) ∧ W.cell? ⟨w.heap.size, 5, none⟩ = some (.bool e.init.bool) ∧ W.cell? ⟨w.heap.size, 6, none⟩ = some (.string ⟨e.init.text.toArray⟩) ∧ W.cell? ⟨w.heap.size, 7, none⟩ = some (.float .f64 e.init.num)) (exact KK.out _ (by (focus (repeat (first | with_reducible exact Below.refl _ _ | with_reducible assumption | with_reducible refine bel_al _ ?_ | with_reducible refine bel_dr ?_ | with_reducible refine bel_dn _ ?_ | with_reducible refine bel_tr (by assumption) ?_)))))
    (first | (go_at_call 19; refine (fname_c e B d).mono ?_; rintro x9 wz ⟨rfl, hb⟩))
  go_wp2_with fail
  go_ret
  exact ⟨rfl, (by (focus (repeat (first | with_reducible exact Below.refl _ _ | with_reducible assumption | with_reducible refine bel_al _ ?_ | with_reducible refine bel_dr ?_ | with_reducible refine bel_dn _ ?_ | with_reducible refine bel_tr (by assumption) ?_))))⟩
theorem clog_c (name : List UInt8) {P Q : Nat} {t u : TypeId} (e : Stg) (B : Option Addr) (d : Nat) (hP : Loc1 P t #[.func (.func 24) #[] #[]] w) (hQ : Loc1 Q u #[.string ⟨name.toArray⟩] w) : Calls Try.prog 68 #[.agg #[.string ⟨e.name.toArray⟩, .int .i64 e.need, .slice B e.orgs.length d], .pointer (some ⟨P, 0, none⟩), .pointer (some ⟨Q, 0, none⟩)] w (Ret w (.bool (e.name == name))) := by
  have SF := store_f64
  have E := Lib.hid (show (e.name == name) = (e.name == name) from rfl)
  have hr : ∃ r, (e.name == name) = r := ⟨_, rfl⟩
  have KK := Lib.hid (show ∀ W : World, Below (w.alloc (.cells #[.string ⟨e.name.toArray⟩, .int .i64 e.need, .slice B e.orgs.length d] 41)).heap.size (w.alloc (.cells #[.string ⟨e.name.toArray⟩, .int .i64 e.need, .slice B e.orgs.length d] 41)) W → W.cell? ⟨P, 0, none⟩ = some (.func (.func 24) #[] #[]) ∧ W.cell? ⟨Q, 0, none⟩ = some (.string ⟨name.toArray⟩) ∧ W.cell? ⟨w.heap.size, 0, none⟩ = some (.string ⟨e.name.toArray⟩) ∧ W.cell? ⟨w.heap.size, 1, none⟩ = some (.int .i64 e.need) ∧ W.cell? ⟨w.heap.size, 2, none⟩ = some (.slice B e.orgs.length d) from fun W hW => by
    have h1 : Loc1 P t #[.func (.func 24) #[] #[]] (w.alloc (.cells #[.string ⟨e.name.toArray⟩, .int .i64 e.need, .slice B e.orgs.length d] 41)) := (by (focus (repeat (first | with_reducible assumption | exact Loc1.newE _ _ _ (by simp) | with_reducible refine Loc1.al _ ?_ | with_reducible refine Loc1.dr ?_ | with_reducible refine Loc1.bel (by assumption) ?_))))
    have h2 : Loc1 Q u #[.string ⟨name.toArray⟩] (w.alloc (.cells #[.string ⟨e.name.toArray⟩, .int .i64 e.need, .slice B e.orgs.length d] 41)) := (by (focus (repeat (first | with_reducible assumption | exact Loc1.newE _ _ _ (by simp) | with_reducible refine Loc1.al _ ?_ | with_reducible refine Loc1.dr ?_ | with_reducible refine Loc1.bel (by assumption) ?_))))
    have h3 : Loc1 w.heap.size 41 #[.string ⟨e.name.toArray⟩, .int .i64 e.need, .slice B e.orgs.length d] (w.alloc (.cells #[.string ⟨e.name.toArray⟩, .int .i64 e.need, .slice B e.orgs.length d] 41)) := Loc1.new _ _ _
    exact ⟨cell_of (h1.bel hW) 0, cell_of (h2.bel hW) 0, cell_of (h3.bel hW) 0, cell_of (h3.bel hW) 1, cell_of (h3.bel hW) 2⟩)
  have hz1 := lt_of_heap hP
  have hz2 := lt_of_heap hQ
  clear hP hQ
  go_enter Try.func68, Try.ntmps68
  go_wp2_with fail
  go_region_held3 (fun W => W.cell? ⟨P, 0, none⟩ = some (.func (.func 24) #[] #[]) ∧ W.cell? ⟨Q, 0, none⟩ = some (.string ⟨name.toArray⟩) ∧ W.cell? ⟨w.heap.size, 0, none⟩ = some (.string ⟨e.name.toArray⟩) ∧ W.cell? ⟨w.heap.size, 1, none⟩ = some (.int .i64 e.need) ∧ W.cell? ⟨w.heap.size, 2, none⟩ = some (.slice B e.orgs.length d)) (exact KK.out _ (by (focus (repeat (first | with_reducible exact Below.refl _ _ | with_reducible assumption | with_reducible refine bel_al _ ?_ | with_reducible refine bel_dr ?_ | with_reducible refine bel_dn _ ?_ | with_reducible refine bel_tr (by assumption) ?_)))))
    (first | (go_at_call 24; refine (gname_c e B d).mono ?_; rintro x9 wz ⟨rfl, hb⟩))
  go_wp2_with fail
  go_ret
  exact ⟨rfl, (by (focus (repeat (first | with_reducible exact Below.refl _ _ | with_reducible assumption | with_reducible refine bel_al _ ?_ | with_reducible refine bel_dr ?_ | with_reducible refine bel_dn _ ?_ | with_reducible refine bel_tr (by assumption) ?_))))⟩
theorem clom_c (name : List UInt8) {P Q : Nat} {t u : TypeId} (e : Mov) (B : Option Addr) (b : Nat) (D : Option Addr) (d : Nat) (hP : Loc1 P t #[.func (.func 29) #[] #[]] w) (hQ : Loc1 Q u #[.string ⟨name.toArray⟩] w) : Calls Try.prog 69 #[.agg #[.string ⟨e.name.toArray⟩, .int .i64 e.frm, .int .i64 e.tgt, .int .i64 e.guard.op, .slice B e.guard.kids.length b, .string ⟨e.guard.name.toArray⟩, .int .i64 e.guard.val.kind, .int .i64 e.guard.val.int, .bool e.guard.val.bool, .string ⟨e.guard.val.text.toArray⟩, .float .f64 e.guard.val.num, .slice D e.effects.length d, .int .i64 e.org], .pointer (some ⟨P, 0, none⟩), .pointer (some ⟨Q, 0, none⟩)] w (Ret w (.bool (e.name == name))) := by
  have SF := store_f64
  have E := Lib.hid (show (e.name == name) = (e.name == name) from rfl)
  have hr : ∃ r, (e.name == name) = r := ⟨_, rfl⟩
  have KK := Lib.hid (show ∀ W : World, Below (w.alloc (.cells #[.string ⟨e.name.toArray⟩, .int .i64 e.frm, .int .i64 e.tgt, .int .i64 e.guard.op, .slice B e.guard.kids.length b, .string ⟨e.guard.name.toArray⟩, .int .i64 e.guard.val.kind, .int .i64 e.guard.val.int, .bool e.guard.val.bool, .string ⟨e.guard.val.text.toArray⟩, .float .f64 e.guard.val.num, .slice D e.effects.length d, .int .i64 e.org] 47)).heap.size (w.alloc (.cells #[.string ⟨e.name.toArray⟩, .int .i64 e.frm, .int .i64 e.tgt, .int .i64 e.guard.op, .slice B e.guard.kids.length b, .string ⟨e.guard.name.toArray⟩, .int .i64 e.guard.val.kind, .int .i64 e.guard.val.int, .bool e.guard.val.bool, .string ⟨e.guard.val.text.toArray⟩, .float .f64 e.guard.val.num, .slice D e.effects.length d, .int .i64 e.org] 47)) W → W.cell? ⟨P, 0, none⟩ = some (.func (.func 29) #[] #[]) ∧ W.cell? ⟨Q, 0, none⟩ = some (.string ⟨name.toArray⟩) ∧ W.cell? ⟨w.heap.size, 0, none⟩ = some (.string ⟨e.name.toArray⟩) ∧ W.cell? ⟨w.heap.size, 1, none⟩ = some (.int .i64 e.frm) ∧ W.cell? ⟨w.heap.size, 2, none⟩ = some (.int .i64 e.tgt) ∧ W.cell? ⟨w.heap.size, 3, none⟩ = some (.int .i64 e.guard.op) ∧ W.cell? ⟨w.heap.size, 4, none⟩ = some (.slice B e.guard.kids.length b) ∧ W.cell? ⟨w.heap.size, 5, none⟩ = some (.string ⟨e.guard.name.toArray⟩) ∧ W.cell? ⟨w.heap.size, 6, none⟩ = some (.int .i64 e.guard.val.kind) ∧ W.cell? ⟨w.heap.size, 7, none⟩ = some (.int .i64 e.guard.val.int) ∧ W.cell? ⟨w.heap.size, 8, none⟩ = some (.bool e.guard.val.bool) ∧ W.cell? ⟨w.heap.size, 9, none⟩ = some (.string ⟨e.guard.val.text.toArray⟩) ∧ W.cell? ⟨w.heap.size, 10, none⟩ = some (.float .f64 e.guard.val.num) ∧ W.cell? ⟨w.heap.size, 11, none⟩ = some (.slice D e.effects.length d) ∧ W.cell? ⟨w.heap.size, 12, none⟩ = some (.int .i64 e.org) from fun W hW => by
    have h1 : Loc1 P t #[.func (.func 29) #[] #[]] (w.alloc (.cells #[.string ⟨e.name.toArray⟩, .int .i64 e.frm, .int .i64 e.tgt, .int .i64 e.guard.op, .slice B e.guard.kids.length b, .string ⟨e.guard.name.toArray⟩, .int .i64 e.guard.val.kind, .int .i64 e.guard.val.int, .bool e.guard.val.bool, .string ⟨e.guard.val.text.toArray⟩, .float .f64 e.guard.val.num, .slice D e.effects.length d, .int .i64 e.org] 47)) := (by (focus (repeat (first | with_reducible assumption | exact Loc1.newE _ _ _ (by simp) | with_reducible refine Loc1.al _ ?_ | with_reducible refine Loc1.dr ?_ | with_reducible refine Loc1.bel (by assumption) ?_))))
    have h2 : Loc1 Q u #[.string ⟨name.toArray⟩] (w.alloc (.cells #[.string ⟨e.name.toArray⟩, .int .i64 e.frm, .int .i64 e.tgt, .int .i64 e.guard.op, .slice B e.guard.kids.length b, .string ⟨e.guard.name.toArray⟩, .int .i64 e.guard.val.kind, .int .i64 e.guard.val.int, .bool e.guard.val.bool, .string ⟨e.guard.val.text.toArray⟩, .float .f64 e.guard.val.num, .slice D e.effects.length d, .int .i64 e.org] 47)) := (by (focus (repeat (first | with_reducible assumption | exact Loc1.newE _ _ _ (by simp) | with_reducible refine Loc1.al _ ?_ | with_reducible refine Loc1.dr ?_ | with_reducible refine Loc1.bel (by assumption) ?_))))
    have h3 : Loc1 w.heap.size 47 #[.string ⟨e.name.toArray⟩, .int .i64 e.frm, .int .i64 e.tgt, .int .i64 e.guard.op, .slice B e.guard.kids.length b, .string ⟨e.guard.name.toArray⟩, .int .i64 e.guard.val.kind, .int .i64 e.guard.val.int, .bool e.guard.val.bool, .string ⟨e.guard.val.text.toArray⟩, .float .f64 e.guard.val.num, .slice D e.effects.length d, .int .i64 e.org] (w.alloc (.cells #[.string ⟨e.name.toArray⟩, .int .i64 e.frm, .int .i64 e.tgt, .int .i64 e.guard.op, .slice B e.guard.kids.length b, .string ⟨e.guard.name.toArray⟩, .int .i64 e.guard.val.kind, .int .i64 e.guard.val.int, .bool e.guard.val.bool, .string ⟨e.guard.val.text.toArray⟩, .float .f64 e.guard.val.num, .slice D e.effects.length d, .int .i64 e.org] 47)) := Loc1.new _ _ _
    exact ⟨cell_of (h1.bel hW) 0, cell_of (h2.bel hW) 0, cell_of (h3.bel hW) 0, cell_of (h3.bel hW) 1, cell_of (h3.bel hW) 2, cell_of (h3.bel hW) 3, cell_of (h3.bel hW) 4, cell_of (h3.bel hW) 5, cell_of (h3.bel hW) 6, cell_of (h3.bel hW) 7, cell_of (h3.bel hW) 8, cell_of (h3.bel hW) 9, cell_of (h3.bel hW) 10, cell_of (h3.bel hW) 11, cell_of (h3.bel hW) 12⟩)
  have hz1 := lt_of_heap hP
  have hz2 := lt_of_heap hQ
  clear hP hQ
  go_enter Try.func69, Try.ntmps69
  go_wp2_with fail
  go_region_held3 (fun W => W.cell? ⟨P, 0, none⟩ = some (.func (.func 29) #[] #[]) ∧ W.cell? ⟨Q, 0, none⟩ = some (.string ⟨name.toArray⟩) ∧ W.cell? ⟨w.heap.size, 0, none⟩ = some (.string ⟨e.name.toArray⟩) ∧ W.cell? ⟨w.heap.size, 1, none⟩ = some (.int .i64 e.frm) ∧ W.cell? ⟨w.heap.size, 2, none⟩ = some (.int .i64 e.tgt) ∧ W.cell? ⟨w.heap.size, 3, none⟩ = some (.int .i64 e.guard.op) ∧ W.cell? ⟨w.heap.size, 4, none⟩ = some (.slice B e.guard.kids.length b) ∧ W.cell? ⟨w.heap.size, 5, none⟩ = some (.string ⟨e.guard.name.toArray⟩) ∧ W.cell? ⟨w.heap.size, 6, none⟩ = some (.int .i64 e.guard.val.kind) ∧ W.cell? ⟨w.heap.size, 7, none⟩ = some (.int .i64 e.guard.val.int) ∧ W.cell? ⟨w.heap.size, 8, none⟩ = some (.bool e.guard.val.bool) ∧ W.cell? ⟨w.heap.size, 9, none⟩ = some (.string ⟨e.guard.val.text.toArray⟩) ∧ W.cell? ⟨w.heap.size, 10, none⟩ = some (.float .f64 e.guard.val.num) ∧ W.cell? ⟨w.heap.size, 11, none⟩ = some (.slice D e.effects.length d) ∧ W.cell? ⟨w.heap.size, 12, none⟩ = some (.int .i64 e.org)) (exact KK.out _ (by (focus (repeat (first | with_reducible exact Below.refl _ _ | with_reducible assumption | with_reducible refine bel_al _ ?_ | with_reducible refine bel_dr ?_ | with_reducible refine bel_dn _ ?_ | with_reducible refine bel_tr (by assumption) ?_)))))
    (first | (go_at_call 29; refine (mname_c e B b D d).mono ?_; rintro x9 wz ⟨rfl, hb⟩))
  go_wp2_with fail
  go_ret
  exact ⟨rfl, (by (focus (repeat (first | with_reducible exact Below.refl _ _ | with_reducible assumption | with_reducible refine bel_al _ ?_ | with_reducible refine bel_dr ?_ | with_reducible refine bel_dn _ ?_ | with_reducible refine bel_tr (by assumption) ?_))))⟩
theorem fndf_c {ok : Nat → Prop} {A : Option Addr} {n c : Nat} {l : List _} {m : Nat} (name : List UInt8) (h : Sl kFld ok w (.slice A n c) l) :
    Calls Try.prog 37 #[.slice A n c, .string ⟨name.toArray⟩, .func (.func 19) #[] #[]] w (Ret w (.int .i64 (idx (fun e => e.name == name) l))) := by
  have hmf : ∀ (fn : Fn) (first cap : Array Value) (w : World), (Instr.makeFunc fn first cap).run Try.prog w = .ok (.func fn first cap) w := fun _ _ _ _ => rfl
  have H := Lib.hid h
  clear h
  go_enter Try.func37, Try.ntmps37
  go_wp2_with fail
  have HI := Lib.hid (ixf_f (m := m) 67 #[.pointer (some ⟨w.heap.size + 1, 0, none⟩), .pointer (some ⟨w.heap.size, 0, none⟩)] (fun e => e.name == name) (H.out.below (show Below w.heap.size w ((w.alloc (.cells #[.string ⟨name.toArray⟩] 9)).alloc (.cells #[.func (.func 19) #[] #[]] 52)) from (by (focus (repeat (first | with_reducible exact Below.refl _ _ | with_reducible assumption | with_reducible refine bel_al _ ?_ | with_reducible refine bel_dr ?_ | with_reducible refine bel_dn _ ?_ | with_reducible refine bel_tr (by assumption) ?_)))))) (enters Try.func67 (by kernel_rfl) (by kernel_rfl)) (fun W e B d hW _ _ => clof_c name e B d (Loc1.bel hW (by (focus (repeat (first | with_reducible assumption | exact Loc1.newE _ _ _ (by simp) | with_reducible refine Loc1.al _ ?_ | with_reducible refine Loc1.dr ?_ | with_reducible refine Loc1.bel (by assumption) ?_))))) (Loc1.bel hW (by (focus (repeat (first | with_reducible assumption | exact Loc1.newE _ _ _ (by simp) | with_reducible refine Loc1.al _ ?_ | with_reducible refine Loc1.dr ?_ | with_reducible refine Loc1.bel (by assumption) ?_)))))))
  refine HI.out.mono ?_
  rintro x9 w1 ⟨rfl, hb1⟩
  go_wp2_with fail
  go_ret
  exact ⟨rfl, (by (focus (repeat (first | with_reducible exact Below.refl _ _ | with_reducible assumption | with_reducible refine bel_al _ ?_ | with_reducible refine bel_dr ?_ | with_reducible refine bel_dn _ ?_ | with_reducible refine bel_tr (by assumption) ?_))))⟩
theorem fndg_c {ok : Nat → Prop} {A : Option Addr} {n c : Nat} {l : List _} {m : Nat} (name : List UInt8) (h : Sl kStg ok w (.slice A n c) l) :
    Calls Try.prog 38 #[.slice A n c, .string ⟨name.toArray⟩, .func (.func 24) #[] #[]] w (Ret w (.int .i64 (idx (fun e => e.name == name) l))) := by
  have hmf : ∀ (fn : Fn) (first cap : Array Value) (w : World), (Instr.makeFunc fn first cap).run Try.prog w = .ok (.func fn first cap) w := fun _ _ _ _ => rfl
  have H := Lib.hid h
  clear h
  go_enter Try.func38, Try.ntmps38
  go_wp2_with fail
  have HI := Lib.hid (ixf_g (m := m) 68 #[.pointer (some ⟨w.heap.size + 1, 0, none⟩), .pointer (some ⟨w.heap.size, 0, none⟩)] (fun e => e.name == name) (H.out.below (show Below w.heap.size w ((w.alloc (.cells #[.string ⟨name.toArray⟩] 9)).alloc (.cells #[.func (.func 24) #[] #[]] 56)) from (by (focus (repeat (first | with_reducible exact Below.refl _ _ | with_reducible assumption | with_reducible refine bel_al _ ?_ | with_reducible refine bel_dr ?_ | with_reducible refine bel_dn _ ?_ | with_reducible refine bel_tr (by assumption) ?_)))))) (enters Try.func68 (by kernel_rfl) (by kernel_rfl)) (fun W e B d hW _ _ => clog_c name e B d (Loc1.bel hW (by (focus (repeat (first | with_reducible assumption | exact Loc1.newE _ _ _ (by simp) | with_reducible refine Loc1.al _ ?_ | with_reducible refine Loc1.dr ?_ | with_reducible refine Loc1.bel (by assumption) ?_))))) (Loc1.bel hW (by (focus (repeat (first | with_reducible assumption | exact Loc1.newE _ _ _ (by simp) | with_reducible refine Loc1.al _ ?_ | with_reducible refine Loc1.dr ?_ | with_reducible refine Loc1.bel (by assumption) ?_)))))))
  refine HI.out.mono ?_
  rintro x9 w1 ⟨rfl, hb1⟩
  go_wp2_with fail
  go_ret
  exact ⟨rfl, (by (focus (repeat (first | with_reducible exact Below.refl _ _ | with_reducible assumption | with_reducible refine bel_al _ ?_ | with_reducible refine bel_dr ?_ | with_reducible refine bel_dn _ ?_ | with_reducible refine bel_tr (by assumption) ?_))))⟩
theorem fndm_c {ok : Nat → Prop} {A : Option Addr} {n c : Nat} {l : List _} {m : Nat} (name : List UInt8) (h : Sl (kMov m) ok w (.slice A n c) l) :
    Calls Try.prog 39 #[.slice A n c, .string ⟨name.toArray⟩, .func (.func 29) #[] #[]] w (Ret w (.int .i64 (idx (fun e => e.name == name) l))) := by
  have hmf : ∀ (fn : Fn) (first cap : Array Value) (w : World), (Instr.makeFunc fn first cap).run Try.prog w = .ok (.func fn first cap) w := fun _ _ _ _ => rfl
  have H := Lib.hid h
  clear h
  go_enter Try.func39, Try.ntmps39
  go_wp2_with fail
  have HI := Lib.hid (ixf_m (m := m) 69 #[.pointer (some ⟨w.heap.size + 1, 0, none⟩), .pointer (some ⟨w.heap.size, 0, none⟩)] (fun e => e.name == name) (H.out.below (show Below w.heap.size w ((w.alloc (.cells #[.string ⟨name.toArray⟩] 9)).alloc (.cells #[.func (.func 29) #[] #[]] 60)) from (by (focus (repeat (first | with_reducible exact Below.refl _ _ | with_reducible assumption | with_reducible refine bel_al _ ?_ | with_reducible refine bel_dr ?_ | with_reducible refine bel_dn _ ?_ | with_reducible refine bel_tr (by assumption) ?_)))))) (enters Try.func69 (by kernel_rfl) (by kernel_rfl)) (fun W e k B b D d hW _ _ _ _ => clom_c name e B b D d (Loc1.bel hW (by (focus (repeat (first | with_reducible assumption | exact Loc1.newE _ _ _ (by simp) | with_reducible refine Loc1.al _ ?_ | with_reducible refine Loc1.dr ?_ | with_reducible refine Loc1.bel (by assumption) ?_))))) (Loc1.bel hW (by (focus (repeat (first | with_reducible assumption | exact Loc1.newE _ _ _ (by simp) | with_reducible refine Loc1.al _ ?_ | with_reducible refine Loc1.dr ?_ | with_reducible refine Loc1.bel (by assumption) ?_)))))))
  refine HI.out.mono ?_
  rintro x9 w1 ⟨rfl, hb1⟩
  go_wp2_with fail
  go_ret
  exact ⟨rfl, (by (focus (repeat (first | with_reducible exact Below.refl _ _ | with_reducible assumption | with_reducible refine bel_al _ ?_ | with_reducible refine bel_dr ?_ | with_reducible refine bel_dn _ ?_ | with_reducible refine bel_tr (by assumption) ?_))))⟩
/-- each one has a name of its own -/
def onceB {α : Type} (of : α → List UInt8) (l : List α) : Bool := allI (fun i e => named (of e) && idx (fun x => of x == of e) l == (i : Int)) l
theorem oncf_c {ok : Nat → Prop} {A : Option Addr} {n c : Nat} {l : List _} {m : Nat} (h : Sl kFld ok w (.slice A n c) l) :
    Calls Try.prog 18 #[.slice A n c, .func (.func 19) #[] #[]] w (Ret w (.bool (onceB (fun e => e.name) l))) := by
  have SF := store_f64
  have H := Lib.hid h
  have hmax := h.len.2.2.1
  have hnc := h.len.2.1
  have E := Lib.hid (show onceB (fun e => e.name) l = allI (fun i e => named e.name && idx (fun x => x.name == e.name) l == (i : Int)) l from rfl)
  generalize onceB (fun e => e.name) l = r at *
  clear h
  go_enter Try.func18, Try.ntmps18
  go_wp2_with fail
  go_loopw [9] (fun v wr => ∃ k : Nat, k ≤ n ∧ v = .int .i64 k ∧ (∀ j e, j < k → l[j]? = some e → (fun (i : Nat) e => named e.name && idx (fun x => x.name == e.name) l == (i : Int)) j e = true) ∧ Below w.heap.size w wr) (fun v _ => n - (intOf v).toNat)
  case atStart => exact ⟨0, Nat.zero_le _, rfl, fun j x hj => absurd hj (Nat.not_lt_zero _), Below.refl _ _⟩
  case round =>
    obtain ⟨k, hk, rfl, hp, hb⟩ := hrel
    have HP := Lib.hid hp
    clear hp
    by_cases hlt : k < n
    · obtain ⟨ad, e, B, d, rfl, he, hs, c0, c1, c2, c3, c4, c5, c6, c7⟩ := fld_at (H.out.below hb) hlt
      have HE := Lib.hid he
      clear he hs
      go_wp2_with fail
      have LE : Loc1 wr.heap.size 38 #[.string ⟨e.name.toArray⟩, .int .i64 e.kind, .slice B e.enum.length d, .int .i64 e.init.kind, .int .i64 e.init.int, .bool e.init.bool, .string ⟨e.init.text.toArray⟩, .float .f64 e.init.num] (wr.alloc (.cells #[.string ⟨e.name.toArray⟩, .int .i64 e.kind, .slice B e.enum.length d, .int .i64 e.init.kind, .int .i64 e.init.int, .bool e.init.bool, .string ⟨e.init.text.toArray⟩, .float .f64 e.init.num] 38)) := Loc1.new _ _ _
      have hb0 : Below wr.heap.size wr (wr.alloc (.cells #[.string ⟨e.name.toArray⟩, .int .i64 e.kind, .slice B e.enum.length d, .int .i64 e.init.kind, .int .i64 e.init.int, .bool e.init.bool, .string ⟨e.init.text.toArray⟩, .float .f64 e.init.num] 38)) := (by (focus (repeat (first | with_reducible exact Below.refl _ _ | with_reducible assumption | with_reducible refine bel_al _ ?_ | with_reducible refine bel_dr ?_ | with_reducible refine bel_dn _ ?_ | with_reducible refine bel_tr (by assumption) ?_))))
      generalize (wr.alloc (.cells #[.string ⟨e.name.toArray⟩, .int .i64 e.kind, .slice B e.enum.length d, .int .i64 e.init.kind, .int .i64 e.init.int, .bool e.init.bool, .string ⟨e.init.text.toArray⟩, .float .f64 e.init.num] 38)) = w0 at *
      clear c0 c1 c2 c3 c4 c5 c6 c7
      obtain ⟨c0, c1, c2, c3, c4, c5, c6, c7⟩ := cells8 LE
      have hz := lt_of_heap LE
      go_wp2_with fail
      refine (fname_c e B d).mono ?_
      rintro x9 w1 ⟨rfl, hb1⟩
      replace LE := LE.bel hb1
      clear c0 c1 c2 c3 c4 c5 c6 c7 hz
      obtain ⟨c0, c1, c2, c3, c4, c5, c6, c7⟩ := cells8 LE
      have hz := lt_of_heap LE
      go_wp2_with fail
      refine (named_c e.name).mono ?_
      rintro x9 w2 ⟨rfl, hb2⟩
      replace LE := LE.bel hb2
      clear c0 c1 c2 c3 c4 c5 c6 c7 hz
      obtain ⟨c0, c1, c2, c3, c4, c5, c6, c7⟩ := cells8 LE
      have hz := lt_of_heap LE
      cases hnm : named e.name
      · have E1 := Lib.hid (E.out.trans (allI_no HE.out (by show (named e.name && _) = false; rw [hnm]; rfl)))
        go_wp2_with fail
        go_ret
        rw [E1.out]
        exact ⟨rfl, (by (focus (repeat (first | with_reducible exact Below.refl _ _ | with_reducible assumption | with_reducible refine bel_al _ ?_ | with_reducible refine bel_dr ?_ | with_reducible refine bel_dn _ ?_ | with_reducible refine bel_tr (by assumption) ?_))))⟩
      go_wp2_with fail
      refine (fname_c e B d).mono ?_
      rintro x9 w3 ⟨rfl, hb3⟩
      clear c0 c1 c2 c3 c4 c5 c6 c7 hz LE
      go_wp2_with fail
      refine (fndf_c (m := m) e.name (H.out.below (by (focus (repeat (first | with_reducible exact Below.refl _ _ | with_reducible assumption | with_reducible refine bel_al _ ?_ | with_reducible refine bel_dr ?_ | with_reducible refine bel_dn _ ?_ | with_reducible refine bel_tr (by assumption) ?_)))))).mono ?_
      rintro x9 w4 ⟨rfl, hb4⟩
      have HI := Lib.hid (show (named e.name && idx (fun x => x.name == e.name) l == (k : Int)) = (fun (i : Nat) e => named e.name && idx (fun x => x.name == e.name) l == (i : Int)) k e from rfl)
      rw [hnm, Bool.true_and] at HI
      clear hnm
      generalize idx (fun x => x.name == e.name) l = r1 at HI ⊢
      by_cases hm : r1 = (k : Int)
      · have HM := Lib.hid (HI.out.symm.trans (show (r1 == (k : Int)) = true by rw [hm]; simp))
        have hm' : (r1 != (k : Int)) = false := by simpa using hm
        clear hm
        go_wp2_with fail
        go_roundw
        case rel => exact ⟨k + 1, by omega, by go_num, allI_step HP.out HE.out HM.out, (by (focus (repeat (first | with_reducible exact Below.refl _ _ | with_reducible assumption | with_reducible refine bel_al _ ?_ | with_reducible refine bel_dr ?_ | with_reducible refine bel_dn _ ?_ | with_reducible refine bel_tr (by assumption) ?_))))⟩
        case measure => simp [intOf]; omega
      · have E1 := Lib.hid (E.out.trans (allI_no HE.out (HI.out.symm.trans (show (r1 == (k : Int)) = false by simpa using hm))))
        have hm' : (r1 != (k : Int)) = true := by simpa using hm
        clear hm
        go_wp2_with fail
        go_ret
        rw [E1.out]
        exact ⟨rfl, (by (focus (repeat (first | with_reducible exact Below.refl _ _ | with_reducible assumption | with_reducible refine bel_al _ ?_ | with_reducible refine bel_dr ?_ | with_reducible refine bel_dn _ ?_ | with_reducible refine bel_tr (by assumption) ?_))))⟩
    · have E1 := Lib.hid (E.out.trans (allI_yes (n := k) (by have := H.out.len.1; omega) HP.out))
      go_wp2_with fail
      go_ret
      rw [E1.out]
      exact ⟨rfl, hb⟩
theorem oncg_c {ok : Nat → Prop} {A : Option Addr} {n c : Nat} {l : List _} {m : Nat} (h : Sl kStg ok w (.slice A n c) l) :
    Calls Try.prog 23 #[.slice A n c, .func (.func 24) #[] #[]] w (Ret w (.bool (onceB (fun e => e.name) l))) := by
  have SF := store_f64
  have H := Lib.hid h
  have hmax := h.len.2.2.1
  have hnc := h.len.2.1
  have E := Lib.hid (show onceB (fun e => e.name) l = allI (fun i e => named e.name && idx (fun x => x.name == e.name) l == (i : Int)) l from rfl)
  generalize onceB (fun e => e.name) l = r at *
  clear h
  go_enter Try.func23, Try.ntmps23
  go_wp2_with fail
  go_loopw [9] (fun v wr => ∃ k : Nat, k ≤ n ∧ v = .int .i64 k ∧ (∀ j e, j < k → l[j]? = some e → (fun (i : Nat) e => named e.name && idx (fun x => x.name == e.name) l == (i : Int)) j e = true) ∧ Below w.heap.size w wr) (fun v _ => n - (intOf v).toNat)
  case atStart => exact ⟨0, Nat.zero_le _, rfl, fun j x hj => absurd hj (Nat.not_lt_zero _), Below.refl _ _⟩
  case round =>
    obtain ⟨k, hk, rfl, hp, hb⟩ := hrel
    have HP := Lib.hid hp
    clear hp
    by_cases hlt : k < n
    · obtain ⟨ad, e, B, d, rfl, he, hs, c0, c1, c2⟩ := stg_at (H.out.below hb) hlt
      have HE := Lib.hid he
      clear he hs
      go_wp2_with fail
      have LE : Loc1 wr.heap.size 41 #[.string ⟨e.name.toArray⟩, .int .i64 e.need, .slice B e.orgs.length d] (wr.alloc (.cells #[.string ⟨e.name.toArray⟩, .int .i64 e.need, .slice B e.orgs.length d] 41)) := Loc1.new _ _ _
      have hb0 : Below wr.heap.size wr (wr.alloc (.cells #[.string ⟨e.name.toArray⟩, .int .i64 e.need, .slice B e.orgs.length d] 41)) := (by (focus (repeat (first | with_reducible exact Below.refl _ _ | with_reducible assumption | with_reducible refine bel_al _ ?_ | with_reducible refine bel_dr ?_ | with_reducible refine bel_dn _ ?_ | with_reducible refine bel_tr (by assumption) ?_))))
      generalize (wr.alloc (.cells #[.string ⟨e.name.toArray⟩, .int .i64 e.need, .slice B e.orgs.length d] 41)) = w0 at *
      clear c0 c1 c2
      obtain ⟨c0, c1, c2⟩ := cells3 LE
      have hz := lt_of_heap LE
      go_wp2_with fail
      refine (gname_c e B d).mono ?_
      rintro x9 w1 ⟨rfl, hb1⟩
      replace LE := LE.bel hb1
      clear c0 c1 c2 hz
      obtain ⟨c0, c1, c2⟩ := cells3 LE
      have hz := lt_of_heap LE
      go_wp2_with fail
      refine (named_c e.name).mono ?_
      rintro x9 w2 ⟨rfl, hb2⟩
      replace LE := LE.bel hb2
      clear c0 c1 c2 hz
      obtain ⟨c0, c1, c2⟩ := cells3 LE
      have hz := lt_of_heap LE
      cases hnm : named e.name
      · have E1 := Lib.hid (E.out.trans (allI_no HE.out (by show (named e.name && _) = false; rw [hnm]; rfl)))
        go_wp2_with fail
        go_ret
        rw [E1.out]
        exact ⟨rfl, (by (focus (repeat (first | with_reducible exact Below.refl _ _ | with_reducible assumption | with_reducible refine bel_al _ ?_ | with_reducible refine bel_dr ?_ | with_reducible refine bel_dn _ ?_ | with_reducible refine bel_tr (by assumption) ?_))))⟩
      go_wp2_with fail
      refine (gname_c e B d).mono ?_
      rintro x9 w3 ⟨rfl, hb3⟩
      clear c0 c1 c2 hz LE
      go_wp2_with fail
      refine (fndg_c (m := m) e.name (H.out.below (by (focus (repeat (first | with_reducible exact Below.refl _ _ | with_reducible assumption | with_reducible refine bel_al _ ?_ | with_reducible refine bel_dr ?_ | with_reducible refine bel_dn _ ?_ | with_reducible refine bel_tr (by assumption) ?_)))))).mono ?_
      rintro x9 w4 ⟨rfl, hb4⟩
      have HI := Lib.hid (show (named e.name && idx (fun x => x.name == e.name) l == (k : Int)) = (fun (i : Nat) e => named e.name && idx (fun x => x.name == e.name) l == (i : Int)) k e from rfl)
      rw [hnm, Bool.true_and] at HI
      clear hnm
      generalize idx (fun x => x.name == e.name) l = r1 at HI ⊢
      by_cases hm : r1 = (k : Int)
      · have HM := Lib.hid (HI.out.symm.trans (show (r1 == (k : Int)) = true by rw [hm]; simp))
        have hm' : (r1 != (k : Int)) = false := by simpa using hm
        clear hm
        go_wp2_with fail
        go_roundw
        case rel => exact ⟨k + 1, by omega, by go_num, allI_step HP.out HE.out HM.out, (by (focus (repeat (first | with_reducible exact Below.refl _ _ | with_reducible assumption | with_reducible refine bel_al _ ?_ | with_reducible refine bel_dr ?_ | with_reducible refine bel_dn _ ?_ | with_reducible refine bel_tr (by assumption) ?_))))⟩
        case measure => simp [intOf]; omega
      · have E1 := Lib.hid (E.out.trans (allI_no HE.out (HI.out.symm.trans (show (r1 == (k : Int)) = false by simpa using hm))))
        have hm' : (r1 != (k : Int)) = true := by simpa using hm
        clear hm
        go_wp2_with fail
        go_ret
        rw [E1.out]
        exact ⟨rfl, (by (focus (repeat (first | with_reducible exact Below.refl _ _ | with_reducible assumption | with_reducible refine bel_al _ ?_ | with_reducible refine bel_dr ?_ | with_reducible refine bel_dn _ ?_ | with_reducible refine bel_tr (by assumption) ?_))))⟩
    · have E1 := Lib.hid (E.out.trans (allI_yes (n := k) (by have := H.out.len.1; omega) HP.out))
      go_wp2_with fail
      go_ret
      rw [E1.out]
      exact ⟨rfl, hb⟩
theorem oncm_c {ok : Nat → Prop} {A : Option Addr} {n c : Nat} {l : List _} {m : Nat} (h : Sl (kMov m) ok w (.slice A n c) l) :
    Calls Try.prog 28 #[.slice A n c, .func (.func 29) #[] #[]] w (Ret w (.bool (onceB (fun e => e.name) l))) := by
  have SF := store_f64
  have H := Lib.hid h
  have hmax := h.len.2.2.1
  have hnc := h.len.2.1
  have E := Lib.hid (show onceB (fun e => e.name) l = allI (fun i e => named e.name && idx (fun x => x.name == e.name) l == (i : Int)) l from rfl)
  generalize onceB (fun e => e.name) l = r at *
  clear h
  go_enter Try.func28, Try.ntmps28
  go_wp2_with fail
  go_loopw [9] (fun v wr => ∃ k : Nat, k ≤ n ∧ v = .int .i64 k ∧ (∀ j e, j < k → l[j]? = some e → (fun (i : Nat) e => named e.name && idx (fun x => x.name == e.name) l == (i : Int)) j e = true) ∧ Below w.heap.size w wr) (fun v _ => n - (intOf v).toNat)
  case atStart => exact ⟨0, Nat.zero_le _, rfl, fun j x hj => absurd hj (Nat.not_lt_zero _), Below.refl _ _⟩
  case round =>
    obtain ⟨k, hk, rfl, hp, hb⟩ := hrel
    have HP := Lib.hid hp
    clear hp
    by_cases hlt : k < n
    · obtain ⟨ad, e, k', B, b, D, d, rfl, he, hk', hs, hs', c0, c1, c2, c3, c4, c5, c6, c7, c8, c9, c10, c11, c12⟩ := mov_at (H.out.below hb) hlt
      have HE := Lib.hid he
      clear hk' hs';clear he hs
      go_wp2_with fail
      have LE : Loc1 wr.heap.size 47 #[.string ⟨e.name.toArray⟩, .int .i64 e.frm, .int .i64 e.tgt, .int .i64 e.guard.op, .slice B e.guard.kids.length b, .string ⟨e.guard.name.toArray⟩, .int .i64 e.guard.val.kind, .int .i64 e.guard.val.int, .bool e.guard.val.bool, .string ⟨e.guard.val.text.toArray⟩, .float .f64 e.guard.val.num, .slice D e.effects.length d, .int .i64 e.org] (wr.alloc (.cells #[.string ⟨e.name.toArray⟩, .int .i64 e.frm, .int .i64 e.tgt, .int .i64 e.guard.op, .slice B e.guard.kids.length b, .string ⟨e.guard.name.toArray⟩, .int .i64 e.guard.val.kind, .int .i64 e.guard.val.int, .bool e.guard.val.bool, .string ⟨e.guard.val.text.toArray⟩, .float .f64 e.guard.val.num, .slice D e.effects.length d, .int .i64 e.org] 47)) := Loc1.new _ _ _
      have hb0 : Below wr.heap.size wr (wr.alloc (.cells #[.string ⟨e.name.toArray⟩, .int .i64 e.frm, .int .i64 e.tgt, .int .i64 e.guard.op, .slice B e.guard.kids.length b, .string ⟨e.guard.name.toArray⟩, .int .i64 e.guard.val.kind, .int .i64 e.guard.val.int, .bool e.guard.val.bool, .string ⟨e.guard.val.text.toArray⟩, .float .f64 e.guard.val.num, .slice D e.effects.length d, .int .i64 e.org] 47)) := (by (focus (repeat (first | with_reducible exact Below.refl _ _ | with_reducible assumption | with_reducible refine bel_al _ ?_ | with_reducible refine bel_dr ?_ | with_reducible refine bel_dn _ ?_ | with_reducible refine bel_tr (by assumption) ?_))))
      generalize (wr.alloc (.cells #[.string ⟨e.name.toArray⟩, .int .i64 e.frm, .int .i64 e.tgt, .int .i64 e.guard.op, .slice B e.guard.kids.length b, .string ⟨e.guard.name.toArray⟩, .int .i64 e.guard.val.kind, .int .i64 e.guard.val.int, .bool e.guard.val.bool, .string ⟨e.guard.val.text.toArray⟩, .float .f64 e.guard.val.num, .slice D e.effects.length d, .int .i64 e.org] 47)) = w0 at *
      clear c0 c1 c2 c3 c4 c5 c6 c7 c8 c9 c10 c11 c12
      obtain ⟨c0, c1, c2, c3, c4, c5, c6, c7, c8, c9, c10, c11, c12⟩ := cells13 LE
      have hz := lt_of_heap LE
      go_wp2_with fail
      refine (mname_c e B b D d).mono ?_
      rintro x9 w1 ⟨rfl, hb1⟩
      replace LE := LE.bel hb1
      clear c0 c1 c2 c3 c4 c5 c6 c7 c8 c9 c10 c11 c12 hz
      obtain ⟨c0, c1, c2, c3, c4, c5, c6, c7, c8, c9, c10, c11, c12⟩ := cells13 LE
      have hz := lt_of_heap LE
      go_wp2_with fail
      refine (named_c e.name).mono ?_
      rintro x9 w2 ⟨rfl, hb2⟩
      replace LE := LE.bel hb2
      clear c0 c1 c2 c3 c4 c5 c6 c7 c8 c9 c10 c11 c12 hz
      obtain ⟨c0, c1, c2, c3, c4, c5, c6, c7, c8, c9, c10, c11, c12⟩ := cells13 LE
      have hz := lt_of_heap LE
      cases hnm : named e.name
      · have E1 := Lib.hid (E.out.trans (allI_no HE.out (by show (named e.name && _) = false; rw [hnm]; rfl)))
        go_wp2_with fail
        go_ret
        rw [E1.out]
        exact ⟨rfl, (by (focus (repeat (first | with_reducible exact Below.refl _ _ | with_reducible assumption | with_reducible refine bel_al _ ?_ | with_reducible refine bel_dr ?_ | with_reducible refine bel_dn _ ?_ | with_reducible refine bel_tr (by assumption) ?_))))⟩
      go_wp2_with fail
      refine (mname_c e B b D d).mono ?_
      rintro x9 w3 ⟨rfl, hb3⟩
      clear c0 c1 c2 c3 c4 c5 c6 c7 c8 c9 c10 c11 c12 hz LE
      go_wp2_with fail
      refine (fndm_c (m := m) e.name (H.out.below (by (focus (repeat (first | with_reducible exact Below.refl _ _ | with_reducible assumption | with_reducible refine bel_al _ ?_ | with_reducible refine bel_dr ?_ | with_reducible refine bel_dn _ ?_ | with_reducible refine bel_tr (by assumption) ?_)))))).mono ?_
      rintro x9 w4 ⟨rfl, hb4⟩
      have HI := Lib.hid (show (named e.name && idx (fun x => x.name == e.name) l == (k : Int)) = (fun (i : Nat) e => named e.name && idx (fun x => x.name == e.name) l == (i : Int)) k e from rfl)
      rw [hnm, Bool.true_and] at HI
      clear hnm
      generalize idx (fun x => x.name == e.name) l = r1 at HI ⊢
      by_cases hm : r1 = (k : Int)
      · have HM := Lib.hid (HI.out.symm.trans (show (r1 == (k : Int)) = true by rw [hm]; simp))
        have hm' : (r1 != (k : Int)) = false := by simpa using hm
        clear hm
        go_wp2_with fail
        go_roundw
        case rel => exact ⟨k + 1, by omega, by go_num, allI_step HP.out HE.out HM.out, (by (focus (repeat (first | with_reducible exact Below.refl _ _ | with_reducible assumption | with_reducible refine bel_al _ ?_ | with_reducible refine bel_dr ?_ | with_reducible refine bel_dn _ ?_ | with_reducible refine bel_tr (by assumption) ?_))))⟩
        case measure => simp [intOf]; omega
      · have E1 := Lib.hid (E.out.trans (allI_no HE.out (HI.out.symm.trans (show (r1 == (k : Int)) = false by simpa using hm))))
        have hm' : (r1 != (k : Int)) = true := by simpa using hm
        clear hm
        go_wp2_with fail
        go_ret
        rw [E1.out]
        exact ⟨rfl, (by (focus (repeat (first | with_reducible exact Below.refl _ _ | with_reducible assumption | with_reducible refine bel_al _ ?_ | with_reducible refine bel_dr ?_ | with_reducible refine bel_dn _ ?_ | with_reducible refine bel_tr (by assumption) ?_))))⟩
    · have E1 := Lib.hid (E.out.trans (allI_yes (n := k) (by have := H.out.len.1; omega) HP.out))
      go_wp2_with fail
      go_ret
      rw [E1.out]
      exact ⟨rfl, hb⟩
end
end Go.Proofs.Ytjnhgfmjehaalaa
