/- Chapter 6: names found. -/
import Derived.Test.YtjnhgfmjehaalaaGreatMD
namespace Go.Proofs.YtjnhgfmjehaalaaGreat
open Go.RowKit
set_option linter.unusedVariables false
set_option linter.unusedSimpArgs false
section
variable {w : World}
theorem fname_c (e : Fld) (B : Option Addr) (d : Nat) : Calls Tryz.prog 49 #[.agg #[.string ⟨e.name.toArray⟩, .int .i64 e.kind, .slice B e.enum.length d, .int .i64 e.init.kind, .int .i64 e.init.int, .bool e.init.bool, .string ⟨e.init.text.toArray⟩, .float .f64 e.init.num]] w (Ret w (.string ⟨e.name.toArray⟩)) := by
 have SF := store_f64
 go_enter Tryz.func49, Tryz.ntmps49
 go_wp2_with fail
 go_ret
 exact ⟨rfl, bW⟩
theorem gname_c (e : Stg) (B : Option Addr) (d : Nat) : Calls Tryz.prog 54 #[.agg #[.string ⟨e.name.toArray⟩, .int .i64 e.need, .slice B e.orgs.length d]] w (Ret w (.string ⟨e.name.toArray⟩)) := by
 have SF := store_f64
 go_enter Tryz.func54, Tryz.ntmps54
 go_wp2_with fail
 go_ret
 exact ⟨rfl, bW⟩
theorem mname_c (e : Mov) (B : Option Addr) (b : Nat) (D : Option Addr) (d : Nat) : Calls Tryz.prog 59 #[.agg #[.string ⟨e.name.toArray⟩, .int .i64 e.frm, .int .i64 e.tgt, .int .i64 e.guard.op, .slice B e.guard.kids.length b, .string ⟨e.guard.name.toArray⟩, .int .i64 e.guard.val.kind, .int .i64 e.guard.val.int, .bool e.guard.val.bool, .string ⟨e.guard.val.text.toArray⟩, .float .f64 e.guard.val.num, .slice D e.effects.length d, .int .i64 e.org]] w (Ret w (.string ⟨e.name.toArray⟩)) := by
 have SF := store_f64
 go_enter Tryz.func59, Tryz.ntmps59
 go_wp2_with fail
 go_ret
 exact ⟨rfl, bW⟩
theorem clof_c (name : List UInt8) {P Q : Nat} {t u : TypeId} (e : Fld) (B : Option Addr) (d : Nat) (hP : Loc1 P t #[.func (.func 49) #[] #[]] w) (hQ : Loc1 Q u #[.string ⟨name.toArray⟩] w) : Calls Tryz.prog 125 #[.agg #[.string ⟨e.name.toArray⟩, .int .i64 e.kind, .slice B e.enum.length d, .int .i64 e.init.kind, .int .i64 e.init.int, .bool e.init.bool, .string ⟨e.init.text.toArray⟩, .float .f64 e.init.num], .pointer (some ⟨P, 0, none⟩), .pointer (some ⟨Q, 0, none⟩)] w (Ret w (.bool (e.name == name))) := by
 have SF := store_f64
 have E := Lib.hid (show (e.name == name) = (e.name == name) from rfl)
 have hr : ∃ r, (e.name == name) = r := ⟨_, rfl⟩
 have KK := Lib.hid (show ∀ W : World, Below (w.alloc (.cells #[.string ⟨e.name.toArray⟩, .int .i64 e.kind, .slice B e.enum.length d, .int .i64 e.init.kind, .int .i64 e.init.int, .bool e.init.bool, .string ⟨e.init.text.toArray⟩, .float .f64 e.init.num] 41)).heap.size (w.alloc (.cells #[.string ⟨e.name.toArray⟩, .int .i64 e.kind, .slice B e.enum.length d, .int .i64 e.init.kind, .int .i64 e.init.int, .bool e.init.bool, .string ⟨e.init.text.toArray⟩, .float .f64 e.init.num] 41)) W → W.cell? ⟨P, 0, none⟩ = some (.func (.func 49) #[] #[]) ∧ W.cell? ⟨Q, 0, none⟩ = some (.string ⟨name.toArray⟩) ∧ W.cell? ⟨w.heap.size, 0, none⟩ = some (.string ⟨e.name.toArray⟩) ∧ W.cell? ⟨w.heap.size, 1, none⟩ = some (.int .i64 e.kind) ∧ W.cell? ⟨w.heap.size, 2, none⟩ = some (.slice B e.enum.length d) ∧ W.cell? ⟨w.heap.size, 3, none⟩ = some (.int .i64 e.init.kind) ∧ W.cell? ⟨w.heap.size, 4, none⟩ = some (.int .i64 e.init.int) ∧ W.cell? ⟨w.heap.size, 5, none⟩ = some (.bool e.init.bool) ∧ W.cell? ⟨w.heap.size, 6, none⟩ = some (.string ⟨e.init.text.toArray⟩) ∧ W.cell? ⟨w.heap.size, 7, none⟩ = some (.float .f64 e.init.num) from fun W hW => by
  have h1 : Loc1 P t #[.func (.func 49) #[] #[]] (w.alloc (.cells #[.string ⟨e.name.toArray⟩, .int .i64 e.kind, .slice B e.enum.length d, .int .i64 e.init.kind, .int .i64 e.init.int, .bool e.init.bool, .string ⟨e.init.text.toArray⟩, .float .f64 e.init.num] 41)) := (by (focus (repeat (first | with_reducible assumption | exact Loc1.newE _ _ _ (by simp) | with_reducible refine Loc1.al _ ?_ | with_reducible refine Loc1.dr ?_ | with_reducible refine Loc1.bel (by assumption) ?_))))
  have h2 : Loc1 Q u #[.string ⟨name.toArray⟩] (w.alloc (.cells #[.string ⟨e.name.toArray⟩, .int .i64 e.kind, .slice B e.enum.length d, .int .i64 e.init.kind, .int .i64 e.init.int, .bool e.init.bool, .string ⟨e.init.text.toArray⟩, .float .f64 e.init.num] 41)) := (by (focus (repeat (first | with_reducible assumption | exact Loc1.newE _ _ _ (by simp) | with_reducible refine Loc1.al _ ?_ | with_reducible refine Loc1.dr ?_ | with_reducible refine Loc1.bel (by assumption) ?_))))
  have h3 := Loc1.new w 41 #[.string ⟨e.name.toArray⟩, .int .i64 e.kind, .slice B e.enum.length d, .int .i64 e.init.kind, .int .i64 e.init.int, .bool e.init.bool, .string ⟨e.init.text.toArray⟩, .float .f64 e.init.num]
  exact ⟨cell_of (h1.bel hW) 0, cell_of (h2.bel hW) 0, cell_of (h3.bel hW) 0, cell_of (h3.bel hW) 1, cell_of (h3.bel hW) 2, cell_of (h3.bel hW) 3, cell_of (h3.bel hW) 4, cell_of (h3.bel hW) 5, cell_of (h3.bel hW) 6, cell_of (h3.bel hW) 7⟩)
 have hz1 := lt_of_heap hP
 have hz2 := lt_of_heap hQ
 clear hP hQ
 go_enter Tryz.func125, Tryz.ntmps125
 go_wp2_with fail
 go_region_held3 (fun W => W.cell? ⟨P, 0, none⟩ = some (.func (.func 49) #[] #[]) ∧ W.cell? ⟨Q, 0, none⟩ = some (.string ⟨name.toArray⟩) ∧ W.cell? ⟨w.heap.size, 0, none⟩ = some (.string ⟨e.name.toArray⟩) ∧ W.cell? ⟨w.heap.size, 1, none⟩ = some (.int .i64 e.kind) ∧ W.cell? ⟨w.heap.size, 2, none⟩ = some (.slice B e.enum.length d) ∧ W.cell? ⟨w.heap.size, 3, none⟩ = some (.int .i64 e.init.kind) ∧ W.cell? ⟨w.heap.size, 4, none⟩ = some (.int .i64 e.init.int) ∧ W.cell? ⟨w.heap.size, 5, none⟩ = some (.bool e.init.bool) ∧ W.cell? ⟨w.heap.size, 6, none⟩ = some (.string ⟨e.init.text.toArray⟩) ∧ W.cell? ⟨w.heap.size, 7, none⟩ = some (.float .f64 e.init.num)) (exact KK.out _ bW)
  (first | (go_at_call 49; refine (fname_c e B d).mono ?_; rintro x9 wz ⟨rfl, hb⟩))
 go_wp2_with fail
 go_ret
 exact ⟨rfl, bW⟩
theorem clog_c (name : List UInt8) {P Q : Nat} {t u : TypeId} (e : Stg) (B : Option Addr) (d : Nat) (hP : Loc1 P t #[.func (.func 54) #[] #[]] w) (hQ : Loc1 Q u #[.string ⟨name.toArray⟩] w) : Calls Tryz.prog 147 #[.agg #[.string ⟨e.name.toArray⟩, .int .i64 e.need, .slice B e.orgs.length d], .pointer (some ⟨P, 0, none⟩), .pointer (some ⟨Q, 0, none⟩)] w (Ret w (.bool (e.name == name))) := by
 have SF := store_f64
 have E := Lib.hid (show (e.name == name) = (e.name == name) from rfl)
 have hr : ∃ r, (e.name == name) = r := ⟨_, rfl⟩
 have KK := Lib.hid (show ∀ W : World, Below (w.alloc (.cells #[.string ⟨e.name.toArray⟩, .int .i64 e.need, .slice B e.orgs.length d] 68)).heap.size (w.alloc (.cells #[.string ⟨e.name.toArray⟩, .int .i64 e.need, .slice B e.orgs.length d] 68)) W → W.cell? ⟨P, 0, none⟩ = some (.func (.func 54) #[] #[]) ∧ W.cell? ⟨Q, 0, none⟩ = some (.string ⟨name.toArray⟩) ∧ W.cell? ⟨w.heap.size, 0, none⟩ = some (.string ⟨e.name.toArray⟩) ∧ W.cell? ⟨w.heap.size, 1, none⟩ = some (.int .i64 e.need) ∧ W.cell? ⟨w.heap.size, 2, none⟩ = some (.slice B e.orgs.length d) from fun W hW => by
  have h1 : Loc1 P t #[.func (.func 54) #[] #[]] (w.alloc (.cells #[.string ⟨e.name.toArray⟩, .int .i64 e.need, .slice B e.orgs.length d] 68)) := (by (focus (repeat (first | with_reducible assumption | exact Loc1.newE _ _ _ (by simp) | with_reducible refine Loc1.al _ ?_ | with_reducible refine Loc1.dr ?_ | with_reducible refine Loc1.bel (by assumption) ?_))))
  have h2 : Loc1 Q u #[.string ⟨name.toArray⟩] (w.alloc (.cells #[.string ⟨e.name.toArray⟩, .int .i64 e.need, .slice B e.orgs.length d] 68)) := (by (focus (repeat (first | with_reducible assumption | exact Loc1.newE _ _ _ (by simp) | with_reducible refine Loc1.al _ ?_ | with_reducible refine Loc1.dr ?_ | with_reducible refine Loc1.bel (by assumption) ?_))))
  have h3 := Loc1.new w 68 #[.string ⟨e.name.toArray⟩, .int .i64 e.need, .slice B e.orgs.length d]
  exact ⟨cell_of (h1.bel hW) 0, cell_of (h2.bel hW) 0, cell_of (h3.bel hW) 0, cell_of (h3.bel hW) 1, cell_of (h3.bel hW) 2⟩)
 have hz1 := lt_of_heap hP
 have hz2 := lt_of_heap hQ
 clear hP hQ
 go_enter Tryz.func147, Tryz.ntmps147
 go_wp2_with fail
 go_region_held3 (fun W => W.cell? ⟨P, 0, none⟩ = some (.func (.func 54) #[] #[]) ∧ W.cell? ⟨Q, 0, none⟩ = some (.string ⟨name.toArray⟩) ∧ W.cell? ⟨w.heap.size, 0, none⟩ = some (.string ⟨e.name.toArray⟩) ∧ W.cell? ⟨w.heap.size, 1, none⟩ = some (.int .i64 e.need) ∧ W.cell? ⟨w.heap.size, 2, none⟩ = some (.slice B e.orgs.length d)) (exact KK.out _ bW)
  (first | (go_at_call 54; refine (gname_c e B d).mono ?_; rintro x9 wz ⟨rfl, hb⟩))
 go_wp2_with fail
 go_ret
 exact ⟨rfl, bW⟩
theorem clom_c (name : List UInt8) {P Q : Nat} {t u : TypeId} (e : Mov) (B : Option Addr) (b : Nat) (D : Option Addr) (d : Nat) (hP : Loc1 P t #[.func (.func 59) #[] #[]] w) (hQ : Loc1 Q u #[.string ⟨name.toArray⟩] w) : Calls Tryz.prog 152 #[.agg #[.string ⟨e.name.toArray⟩, .int .i64 e.frm, .int .i64 e.tgt, .int .i64 e.guard.op, .slice B e.guard.kids.length b, .string ⟨e.guard.name.toArray⟩, .int .i64 e.guard.val.kind, .int .i64 e.guard.val.int, .bool e.guard.val.bool, .string ⟨e.guard.val.text.toArray⟩, .float .f64 e.guard.val.num, .slice D e.effects.length d, .int .i64 e.org], .pointer (some ⟨P, 0, none⟩), .pointer (some ⟨Q, 0, none⟩)] w (Ret w (.bool (e.name == name))) := by
 have SF := store_f64
 have E := Lib.hid (show (e.name == name) = (e.name == name) from rfl)
 have hr : ∃ r, (e.name == name) = r := ⟨_, rfl⟩
 have KK := Lib.hid (show ∀ W : World, Below (w.alloc (.cells #[.string ⟨e.name.toArray⟩, .int .i64 e.frm, .int .i64 e.tgt, .int .i64 e.guard.op, .slice B e.guard.kids.length b, .string ⟨e.guard.name.toArray⟩, .int .i64 e.guard.val.kind, .int .i64 e.guard.val.int, .bool e.guard.val.bool, .string ⟨e.guard.val.text.toArray⟩, .float .f64 e.guard.val.num, .slice D e.effects.length d, .int .i64 e.org] 47)).heap.size (w.alloc (.cells #[.string ⟨e.name.toArray⟩, .int .i64 e.frm, .int .i64 e.tgt, .int .i64 e.guard.op, .slice B e.guard.kids.length b, .string ⟨e.guard.name.toArray⟩, .int .i64 e.guard.val.kind, .int .i64 e.guard.val.int, .bool e.guard.val.bool, .string ⟨e.guard.val.text.toArray⟩, .float .f64 e.guard.val.num, .slice D e.effects.length d, .int .i64 e.org] 47)) W → W.cell? ⟨P, 0, none⟩ = some (.func (.func 59) #[] #[]) ∧ W.cell? ⟨Q, 0, none⟩ = some (.string ⟨name.toArray⟩) ∧ W.cell? ⟨w.heap.size, 0, none⟩ = some (.string ⟨e.name.toArray⟩) ∧ W.cell? ⟨w.heap.size, 1, none⟩ = some (.int .i64 e.frm) ∧ W.cell? ⟨w.heap.size, 2, none⟩ = some (.int .i64 e.tgt) ∧ W.cell? ⟨w.heap.size, 3, none⟩ = some (.int .i64 e.guard.op) ∧ W.cell? ⟨w.heap.size, 4, none⟩ = some (.slice B e.guard.kids.length b) ∧ W.cell? ⟨w.heap.size, 5, none⟩ = some (.string ⟨e.guard.name.toArray⟩) ∧ W.cell? ⟨w.heap.size, 6, none⟩ = some (.int .i64 e.guard.val.kind) ∧ W.cell? ⟨w.heap.size, 7, none⟩ = some (.int .i64 e.guard.val.int) ∧ W.cell? ⟨w.heap.size, 8, none⟩ = some (.bool e.guard.val.bool) ∧ W.cell? ⟨w.heap.size, 9, none⟩ = some (.string ⟨e.guard.val.text.toArray⟩) ∧ W.cell? ⟨w.heap.size, 10, none⟩ = some (.float .f64 e.guard.val.num) ∧ W.cell? ⟨w.heap.size, 11, none⟩ = some (.slice D e.effects.length d) ∧ W.cell? ⟨w.heap.size, 12, none⟩ = some (.int .i64 e.org) from fun W hW => by
  have h1 : Loc1 P t #[.func (.func 59) #[] #[]] (w.alloc (.cells #[.string ⟨e.name.toArray⟩, .int .i64 e.frm, .int .i64 e.tgt, .int .i64 e.guard.op, .slice B e.guard.kids.length b, .string ⟨e.guard.name.toArray⟩, .int .i64 e.guard.val.kind, .int .i64 e.guard.val.int, .bool e.guard.val.bool, .string ⟨e.guard.val.text.toArray⟩, .float .f64 e.guard.val.num, .slice D e.effects.length d, .int .i64 e.org] 47)) := (by (focus (repeat (first | with_reducible assumption | exact Loc1.newE _ _ _ (by simp) | with_reducible refine Loc1.al _ ?_ | with_reducible refine Loc1.dr ?_ | with_reducible refine Loc1.bel (by assumption) ?_))))
  have h2 : Loc1 Q u #[.string ⟨name.toArray⟩] (w.alloc (.cells #[.string ⟨e.name.toArray⟩, .int .i64 e.frm, .int .i64 e.tgt, .int .i64 e.guard.op, .slice B e.guard.kids.length b, .string ⟨e.guard.name.toArray⟩, .int .i64 e.guard.val.kind, .int .i64 e.guard.val.int, .bool e.guard.val.bool, .string ⟨e.guard.val.text.toArray⟩, .float .f64 e.guard.val.num, .slice D e.effects.length d, .int .i64 e.org] 47)) := (by (focus (repeat (first | with_reducible assumption | exact Loc1.newE _ _ _ (by simp) | with_reducible refine Loc1.al _ ?_ | with_reducible refine Loc1.dr ?_ | with_reducible refine Loc1.bel (by assumption) ?_))))
  have h3 := Loc1.new w 47 #[.string ⟨e.name.toArray⟩, .int .i64 e.frm, .int .i64 e.tgt, .int .i64 e.guard.op, .slice B e.guard.kids.length b, .string ⟨e.guard.name.toArray⟩, .int .i64 e.guard.val.kind, .int .i64 e.guard.val.int, .bool e.guard.val.bool, .string ⟨e.guard.val.text.toArray⟩, .float .f64 e.guard.val.num, .slice D e.effects.length d, .int .i64 e.org]
  exact ⟨cell_of (h1.bel hW) 0, cell_of (h2.bel hW) 0, cell_of (h3.bel hW) 0, cell_of (h3.bel hW) 1, cell_of (h3.bel hW) 2, cell_of (h3.bel hW) 3, cell_of (h3.bel hW) 4, cell_of (h3.bel hW) 5, cell_of (h3.bel hW) 6, cell_of (h3.bel hW) 7, cell_of (h3.bel hW) 8, cell_of (h3.bel hW) 9, cell_of (h3.bel hW) 10, cell_of (h3.bel hW) 11, cell_of (h3.bel hW) 12⟩)
 have hz1 := lt_of_heap hP
 have hz2 := lt_of_heap hQ
 clear hP hQ
 go_enter Tryz.func152, Tryz.ntmps152
 go_wp2_with fail
 go_region_held3 (fun W => W.cell? ⟨P, 0, none⟩ = some (.func (.func 59) #[] #[]) ∧ W.cell? ⟨Q, 0, none⟩ = some (.string ⟨name.toArray⟩) ∧ W.cell? ⟨w.heap.size, 0, none⟩ = some (.string ⟨e.name.toArray⟩) ∧ W.cell? ⟨w.heap.size, 1, none⟩ = some (.int .i64 e.frm) ∧ W.cell? ⟨w.heap.size, 2, none⟩ = some (.int .i64 e.tgt) ∧ W.cell? ⟨w.heap.size, 3, none⟩ = some (.int .i64 e.guard.op) ∧ W.cell? ⟨w.heap.size, 4, none⟩ = some (.slice B e.guard.kids.length b) ∧ W.cell? ⟨w.heap.size, 5, none⟩ = some (.string ⟨e.guard.name.toArray⟩) ∧ W.cell? ⟨w.heap.size, 6, none⟩ = some (.int .i64 e.guard.val.kind) ∧ W.cell? ⟨w.heap.size, 7, none⟩ = some (.int .i64 e.guard.val.int) ∧ W.cell? ⟨w.heap.size, 8, none⟩ = some (.bool e.guard.val.bool) ∧ W.cell? ⟨w.heap.size, 9, none⟩ = some (.string ⟨e.guard.val.text.toArray⟩) ∧ W.cell? ⟨w.heap.size, 10, none⟩ = some (.float .f64 e.guard.val.num) ∧ W.cell? ⟨w.heap.size, 11, none⟩ = some (.slice D e.effects.length d) ∧ W.cell? ⟨w.heap.size, 12, none⟩ = some (.int .i64 e.org)) (exact KK.out _ bW)
  (first | (go_at_call 59; refine (mname_c e B b D d).mono ?_; rintro x9 wz ⟨rfl, hb⟩))
 go_wp2_with fail
 go_ret
 exact ⟨rfl, bW⟩
theorem fndf_c {ok : Nat → Prop} {A : Option Addr} {n c : Nat} {l : List _} {m : Nat} (name : List UInt8) (h : Sl kFld ok w (.slice A n c) l) :
 Calls Tryz.prog 73 #[.slice A n c, .string ⟨name.toArray⟩, .func (.func 49) #[] #[]] w (Ret w (.int .i64 (idx (fun e => e.name == name) l))) := by
 have hmf : ∀ (fn : Fn) (first cap : Array Value) (w : World), (Instr.makeFunc fn first cap).run Tryz.prog w = .ok (.func fn first cap) w := fun _ _ _ _ => rfl
 have H := Lib.hid h
 clear h
 go_enter Tryz.func73, Tryz.ntmps73
 go_wp2_with fail
 have HI := Lib.hid (ixf_f (m := m) 125 #[.pointer (some ⟨w.heap.size + 1, 0, none⟩), .pointer (some ⟨w.heap.size, 0, none⟩)] (fun e => e.name == name) (H.out.below (show Below w.heap.size w ((w.alloc (.cells #[.string ⟨name.toArray⟩] 9)).alloc (.cells #[.func (.func 49) #[] #[]] 90)) from bW)) (enters Tryz.func125 (by kernel_rfl) (by kernel_rfl)) (fun W e B d hW _ _ => clof_c name e B d (Loc1.bel hW (by (focus (repeat (first | with_reducible assumption | exact Loc1.newE _ _ _ (by simp) | with_reducible refine Loc1.al _ ?_ | with_reducible refine Loc1.dr ?_ | with_reducible refine Loc1.bel (by assumption) ?_))))) (Loc1.bel hW (by (focus (repeat (first | with_reducible assumption | exact Loc1.newE _ _ _ (by simp) | with_reducible refine Loc1.al _ ?_ | with_reducible refine Loc1.dr ?_ | with_reducible refine Loc1.bel (by assumption) ?_)))))))
 refine HI.out.mono ?_
 rintro x9 w1 ⟨rfl, hb1⟩
 go_wp2_with fail
 go_ret
 exact ⟨rfl, bW⟩
theorem fndg_c {ok : Nat → Prop} {A : Option Addr} {n c : Nat} {l : List _} {m : Nat} (name : List UInt8) (h : Sl kStg ok w (.slice A n c) l) :
 Calls Tryz.prog 95 #[.slice A n c, .string ⟨name.toArray⟩, .func (.func 54) #[] #[]] w (Ret w (.int .i64 (idx (fun e => e.name == name) l))) := by
 have hmf : ∀ (fn : Fn) (first cap : Array Value) (w : World), (Instr.makeFunc fn first cap).run Tryz.prog w = .ok (.func fn first cap) w := fun _ _ _ _ => rfl
 have H := Lib.hid h
 clear h
 go_enter Tryz.func95, Tryz.ntmps95
 go_wp2_with fail
 have HI := Lib.hid (ixf_g (m := m) 147 #[.pointer (some ⟨w.heap.size + 1, 0, none⟩), .pointer (some ⟨w.heap.size, 0, none⟩)] (fun e => e.name == name) (H.out.below (show Below w.heap.size w ((w.alloc (.cells #[.string ⟨name.toArray⟩] 9)).alloc (.cells #[.func (.func 54) #[] #[]] 94)) from bW)) (enters Tryz.func147 (by kernel_rfl) (by kernel_rfl)) (fun W e B d hW _ _ => clog_c name e B d (Loc1.bel hW (by (focus (repeat (first | with_reducible assumption | exact Loc1.newE _ _ _ (by simp) | with_reducible refine Loc1.al _ ?_ | with_reducible refine Loc1.dr ?_ | with_reducible refine Loc1.bel (by assumption) ?_))))) (Loc1.bel hW (by (focus (repeat (first | with_reducible assumption | exact Loc1.newE _ _ _ (by simp) | with_reducible refine Loc1.al _ ?_ | with_reducible refine Loc1.dr ?_ | with_reducible refine Loc1.bel (by assumption) ?_)))))))
 refine HI.out.mono ?_
 rintro x9 w1 ⟨rfl, hb1⟩
 go_wp2_with fail
 go_ret
 exact ⟨rfl, bW⟩
theorem fndm_c {ok : Nat → Prop} {A : Option Addr} {n c : Nat} {l : List _} {m : Nat} (name : List UInt8) (h : Sl (kMov m) ok w (.slice A n c) l) :
 Calls Tryz.prog 104 #[.slice A n c, .string ⟨name.toArray⟩, .func (.func 59) #[] #[]] w (Ret w (.int .i64 (idx (fun e => e.name == name) l))) := by
 have hmf : ∀ (fn : Fn) (first cap : Array Value) (w : World), (Instr.makeFunc fn first cap).run Tryz.prog w = .ok (.func fn first cap) w := fun _ _ _ _ => rfl
 have H := Lib.hid h
 clear h
 go_enter Tryz.func104, Tryz.ntmps104
 go_wp2_with fail
 have HI := Lib.hid (ixf_m (m := m) 152 #[.pointer (some ⟨w.heap.size + 1, 0, none⟩), .pointer (some ⟨w.heap.size, 0, none⟩)] (fun e => e.name == name) (H.out.below (show Below w.heap.size w ((w.alloc (.cells #[.string ⟨name.toArray⟩] 9)).alloc (.cells #[.func (.func 59) #[] #[]] 98)) from bW)) (enters Tryz.func152 (by kernel_rfl) (by kernel_rfl)) (fun W e k B b D d hW _ _ _ _ => clom_c name e B b D d (Loc1.bel hW (by (focus (repeat (first | with_reducible assumption | exact Loc1.newE _ _ _ (by simp) | with_reducible refine Loc1.al _ ?_ | with_reducible refine Loc1.dr ?_ | with_reducible refine Loc1.bel (by assumption) ?_))))) (Loc1.bel hW (by (focus (repeat (first | with_reducible assumption | exact Loc1.newE _ _ _ (by simp) | with_reducible refine Loc1.al _ ?_ | with_reducible refine Loc1.dr ?_ | with_reducible refine Loc1.bel (by assumption) ?_)))))))
 refine HI.out.mono ?_
 rintro x9 w1 ⟨rfl, hb1⟩
 go_wp2_with fail
 go_ret
 exact ⟨rfl, bW⟩
/-- each one has a name of its own -/
def onceB {α : Type} (of : α → List UInt8) (l : List α) : Bool := allI (fun i e => named (of e) && idx (fun x => of x == of e) l == (i : Int)) l
theorem oncf_c {ok : Nat → Prop} {A : Option Addr} {n c : Nat} {l : List _} {m : Nat} (h : Sl kFld ok w (.slice A n c) l) :
 Calls Tryz.prog 48 #[.slice A n c, .func (.func 49) #[] #[]] w (Ret w (.bool (onceB (fun e => e.name) l))) := by
 have SF := store_f64
 have H := Lib.hid h
 have hmax := h.len.2.2.1
 have hnc := h.len.2.1
 have E := Lib.hid (show onceB (fun e => e.name) l = allI (fun i e => named e.name && idx (fun x => x.name == e.name) l == (i : Int)) l from rfl)
 generalize onceB (fun e => e.name) l = r at *
 clear h
 go_enter Tryz.func48, Tryz.ntmps48
 go_wp2_with fail
 go_loopw [9] (fun v wr => ∃ k : Nat, k ≤ n ∧ v = .int .i64 k ∧ (∀ j e, j < k → l[j]? = some e → (fun (i : Nat) e => named e.name && idx (fun x => x.name == e.name) l == (i : Int)) j e = true) ∧ Below w.heap.size w wr) (fun v _ => n - (intOf v).toNat)
 case atStart => exact ⟨0, Nat.zero_le _, rfl, fun j x hj => absurd hj (Nat.not_lt_zero _), Below.refl _ _⟩
 case round =>
  obtain ⟨k, hk, rfl, hp, hb⟩ := hrel
  have HP := Lib.hid hp
  clear hp
  by_cases hlt : k < n
  ·obtain ⟨ad, e, B, d, rfl, he, hs, c0, c1, c2, c3, c4, c5, c6, c7⟩ := fld_at (H.out.below hb) hlt
   have HE := Lib.hid he
   clear he hs
   go_wp2_with fail
   have LE := Loc1.new wr 41 #[.string ⟨e.name.toArray⟩, .int .i64 e.kind, .slice B e.enum.length d, .int .i64 e.init.kind, .int .i64 e.init.int, .bool e.init.bool, .string ⟨e.init.text.toArray⟩, .float .f64 e.init.num]
   have hb0 : Below wr.heap.size wr (wr.alloc (.cells #[.string ⟨e.name.toArray⟩, .int .i64 e.kind, .slice B e.enum.length d, .int .i64 e.init.kind, .int .i64 e.init.int, .bool e.init.bool, .string ⟨e.init.text.toArray⟩, .float .f64 e.init.num] 41)) := bW
   generalize (wr.alloc (.cells #[.string ⟨e.name.toArray⟩, .int .i64 e.kind, .slice B e.enum.length d, .int .i64 e.init.kind, .int .i64 e.init.int, .bool e.init.bool, .string ⟨e.init.text.toArray⟩, .float .f64 e.init.num] 41)) = w0 at *
   clear c0 c1 c2 c3 c4 c5 c6 c7
   obtain ⟨c0, c1, c2, c3, c4, c5, c6, c7⟩ := cells8 LE
   have hz := lt_of_heap LE
   go_wp2_with fail
   refine (fname_c e B d).mono ?_
   rintro x9 w1 ⟨rfl, hb1⟩
   replace LE := LE.bel hb1
   clear c0 c1 c2 c3 c4 c5 c6 c7 hz
   obtain ⟨c0, c1, c2, c3, c4, c5, c6, c7⟩ := cells8 LE
   have hz := lt_of_heap LE
   go_wp2_with fail
   refine (named_c e.name).mono ?_
   rintro x9 w2 ⟨rfl, hb2⟩
   replace LE := LE.bel hb2
   clear c0 c1 c2 c3 c4 c5 c6 c7 hz
   obtain ⟨c0, c1, c2, c3, c4, c5, c6, c7⟩ := cells8 LE
   have hz := lt_of_heap LE
   cases hnm : named e.name
   ·have E1 := Lib.hid (E.out.trans (allI_no HE.out (by show (named e.name && _) = false; rw [hnm]; rfl)))
    go_wp2_with fail
    go_ret
    rw [E1.out]
    exact ⟨rfl, bW⟩
   go_wp2_with fail
   refine (fname_c e B d).mono ?_
   rintro x9 w3 ⟨rfl, hb3⟩
   clear c0 c1 c2 c3 c4 c5 c6 c7 hz LE
   go_wp2_with fail
   refine (fndf_c (m := m) e.name (H.out.below (by (focus (repeat (first | with_reducible exact Below.refl _ _ | with_reducible assumption | with_reducible refine bel_al _ ?_ | with_reducible refine bel_dr ?_ | with_reducible refine bel_dn _ ?_ | with_reducible refine bel_tr (by assumption) ?_)))))).mono ?_
   rintro x9 w4 ⟨rfl, hb4⟩
   have HI := Lib.hid (show (named e.name && idx (fun x => x.name == e.name) l == (k : Int)) = (fun (i : Nat) e => named e.name && idx (fun x => x.name == e.name) l == (i : Int)) k e from rfl)
   rw [hnm, Bool.true_and] at HI
   clear hnm
   generalize idx (fun x => x.name == e.name) l = r1 at HI ⊢
   by_cases hm : r1 = (k : Int)
   ·have HM := Lib.hid (HI.out.symm.trans (show (r1 == (k : Int)) = true by rw [hm]; simp))
    have hm' : (r1 != (k : Int)) = false := by simpa using hm
    clear hm
    go_wp2_with fail
    go_roundw
    case rel => exact ⟨k + 1, by omega, by go_num, allI_step HP.out HE.out HM.out, bW⟩
    case measure => simp [intOf]; omega
   ·have E1 := Lib.hid (E.out.trans (allI_no HE.out (HI.out.symm.trans (show (r1 == (k : Int)) = false by simpa using hm))))
    have hm' : (r1 != (k : Int)) = true := by simpa using hm
    clear hm
    go_wp2_with fail
    go_ret
    rw [E1.out]
    exact ⟨rfl, bW⟩
  ·have E1 := Lib.hid (E.out.trans (allI_yes (n := k) (by have := H.out.len.1; omega) HP.out))
   go_wp2_with fail
   go_ret
   rw [E1.out]
   exact ⟨rfl, hb⟩
theorem oncg_c {ok : Nat → Prop} {A : Option Addr} {n c : Nat} {l : List _} {m : Nat} (h : Sl kStg ok w (.slice A n c) l) :
 Calls Tryz.prog 53 #[.slice A n c, .func (.func 54) #[] #[]] w (Ret w (.bool (onceB (fun e => e.name) l))) := by
 have SF := store_f64
 have H := Lib.hid h
 have hmax := h.len.2.2.1
 have hnc := h.len.2.1
 have E := Lib.hid (show onceB (fun e => e.name) l = allI (fun i e => named e.name && idx (fun x => x.name == e.name) l == (i : Int)) l from rfl)
 generalize onceB (fun e => e.name) l = r at *
 clear h
 go_enter Tryz.func53, Tryz.ntmps53
 go_wp2_with fail
 go_loopw [9] (fun v wr => ∃ k : Nat, k ≤ n ∧ v = .int .i64 k ∧ (∀ j e, j < k → l[j]? = some e → (fun (i : Nat) e => named e.name && idx (fun x => x.name == e.name) l == (i : Int)) j e = true) ∧ Below w.heap.size w wr) (fun v _ => n - (intOf v).toNat)
 case atStart => exact ⟨0, Nat.zero_le _, rfl, fun j x hj => absurd hj (Nat.not_lt_zero _), Below.refl _ _⟩
 case round =>
  obtain ⟨k, hk, rfl, hp, hb⟩ := hrel
  have HP := Lib.hid hp
  clear hp
  by_cases hlt : k < n
  ·obtain ⟨ad, e, B, d, rfl, he, hs, c0, c1, c2⟩ := stg_at (H.out.below hb) hlt
   have HE := Lib.hid he
   clear he hs
   go_wp2_with fail
   have LE := Loc1.new wr 68 #[.string ⟨e.name.toArray⟩, .int .i64 e.need, .slice B e.orgs.length d]
   have hb0 : Below wr.heap.size wr (wr.alloc (.cells #[.string ⟨e.name.toArray⟩, .int .i64 e.need, .slice B e.orgs.length d] 68)) := bW
   generalize (wr.alloc (.cells #[.string ⟨e.name.toArray⟩, .int .i64 e.need, .slice B e.orgs.length d] 68)) = w0 at *
   clear c0 c1 c2
   obtain ⟨c0, c1, c2⟩ := cells3 LE
   have hz := lt_of_heap LE
   go_wp2_with fail
   refine (gname_c e B d).mono ?_
   rintro x9 w1 ⟨rfl, hb1⟩
   replace LE := LE.bel hb1
   clear c0 c1 c2 hz
   obtain ⟨c0, c1, c2⟩ := cells3 LE
   have hz := lt_of_heap LE
   go_wp2_with fail
   refine (named_c e.name).mono ?_
   rintro x9 w2 ⟨rfl, hb2⟩
   replace LE := LE.bel hb2
   clear c0 c1 c2 hz
   obtain ⟨c0, c1, c2⟩ := cells3 LE
   have hz := lt_of_heap LE
   cases hnm : named e.name
   ·have E1 := Lib.hid (E.out.trans (allI_no HE.out (by show (named e.name && _) = false; rw [hnm]; rfl)))
    go_wp2_with fail
    go_ret
    rw [E1.out]
    exact ⟨rfl, bW⟩
   go_wp2_with fail
   refine (gname_c e B d).mono ?_
   rintro x9 w3 ⟨rfl, hb3⟩
   clear c0 c1 c2 hz LE
   go_wp2_with fail
   refine (fndg_c (m := m) e.name (H.out.below (by (focus (repeat (first | with_reducible exact Below.refl _ _ | with_reducible assumption | with_reducible refine bel_al _ ?_ | with_reducible refine bel_dr ?_ | with_reducible refine bel_dn _ ?_ | with_reducible refine bel_tr (by assumption) ?_)))))).mono ?_
   rintro x9 w4 ⟨rfl, hb4⟩
   have HI := Lib.hid (show (named e.name && idx (fun x => x.name == e.name) l == (k : Int)) = (fun (i : Nat) e => named e.name && idx (fun x => x.name == e.name) l == (i : Int)) k e from rfl)
   rw [hnm, Bool.true_and] at HI
   clear hnm
   generalize idx (fun x => x.name == e.name) l = r1 at HI ⊢
   by_cases hm : r1 = (k : Int)
   ·have HM := Lib.hid (HI.out.symm.trans (show (r1 == (k : Int)) = true by rw [hm]; simp))
    have hm' : (r1 != (k : Int)) = false := by simpa using hm
    clear hm
    go_wp2_with fail
    go_roundw
    case rel => exact ⟨k + 1, by omega, by go_num, allI_step HP.out HE.out HM.out, bW⟩
    case measure => simp [intOf]; omega
   ·have E1 := Lib.hid (E.out.trans (allI_no HE.out (HI.out.symm.trans (show (r1 == (k : Int)) = false by simpa using hm))))
    have hm' : (r1 != (k : Int)) = true := by simpa using hm
    clear hm
    go_wp2_with fail
    go_ret
    rw [E1.out]
    exact ⟨rfl, bW⟩
  ·have E1 := Lib.hid (E.out.trans (allI_yes (n := k) (by have := H.out.len.1; omega) HP.out))
   go_wp2_with fail
   go_ret
   rw [E1.out]
   exact ⟨rfl, hb⟩
theorem oncm_c {ok : Nat → Prop} {A : Option Addr} {n c : Nat} {l : List _} {m : Nat} (h : Sl (kMov m) ok w (.slice A n c) l) :
 Calls Tryz.prog 58 #[.slice A n c, .func (.func 59) #[] #[]] w (Ret w (.bool (onceB (fun e => e.name) l))) := by
 have SF := store_f64
 have H := Lib.hid h
 have hmax := h.len.2.2.1
 have hnc := h.len.2.1
 have E := Lib.hid (show onceB (fun e => e.name) l = allI (fun i e => named e.name && idx (fun x => x.name == e.name) l == (i : Int)) l from rfl)
 generalize onceB (fun e => e.name) l = r at *
 clear h
 go_enter Tryz.func58, Tryz.ntmps58
 go_wp2_with fail
 go_loopw [9] (fun v wr => ∃ k : Nat, k ≤ n ∧ v = .int .i64 k ∧ (∀ j e, j < k → l[j]? = some e → (fun (i : Nat) e => named e.name && idx (fun x => x.name == e.name) l == (i : Int)) j e = true) ∧ Below w.heap.size w wr) (fun v _ => n - (intOf v).toNat)
 case atStart => exact ⟨0, Nat.zero_le _, rfl, fun j x hj => absurd hj (Nat.not_lt_zero _), Below.refl _ _⟩
 case round =>
  obtain ⟨k, hk, rfl, hp, hb⟩ := hrel
  have HP := Lib.hid hp
  clear hp
  by_cases hlt : k < n
  ·obtain ⟨ad, e, k', B, b, D, d, rfl, he, hk', hs, hs', c0, c1, c2, c3, c4, c5, c6, c7, c8, c9, c10, c11, c12⟩ := mov_at (H.out.below hb) hlt
   have HE := Lib.hid he
   clear hk' hs';clear he hs
   go_wp2_with fail
   have LE := Loc1.new wr 47 #[.string ⟨e.name.toArray⟩, .int .i64 e.frm, .int .i64 e.tgt, .int .i64 e.guard.op, .slice B e.guard.kids.length b, .string ⟨e.guard.name.toArray⟩, .int .i64 e.guard.val.kind, .int .i64 e.guard.val.int, .bool e.guard.val.bool, .string ⟨e.guard.val.text.toArray⟩, .float .f64 e.guard.val.num, .slice D e.effects.length d, .int .i64 e.org]
   have hb0 : Below wr.heap.size wr (wr.alloc (.cells #[.string ⟨e.name.toArray⟩, .int .i64 e.frm, .int .i64 e.tgt, .int .i64 e.guard.op, .slice B e.guard.kids.length b, .string ⟨e.guard.name.toArray⟩, .int .i64 e.guard.val.kind, .int .i64 e.guard.val.int, .bool e.guard.val.bool, .string ⟨e.guard.val.text.toArray⟩, .float .f64 e.guard.val.num, .slice D e.effects.length d, .int .i64 e.org] 47)) := bW
   generalize (wr.alloc (.cells #[.string ⟨e.name.toArray⟩, .int .i64 e.frm, .int .i64 e.tgt, .int .i64 e.guard.op, .slice B e.guard.kids.length b, .string ⟨e.guard.name.toArray⟩, .int .i64 e.guard.val.kind, .int .i64 e.guard.val.int, .bool e.guard.val.bool, .string ⟨e.guard.val.text.toArray⟩, .float .f64 e.guard.val.num, .slice D e.effects.length d, .int .i64 e.org] 47)) = w0 at *
   clear c0 c1 c2 c3 c4 c5 c6 c7 c8 c9 c10 c11 c12
   obtain ⟨c0, c1, c2, c3, c4, c5, c6, c7, c8, c9, c10, c11, c12⟩ := cells13 LE
   have hz := lt_of_heap LE
   go_wp2_with fail
   refine (mname_c e B b D d).mono ?_
   rintro x9 w1 ⟨rfl, hb1⟩
   replace LE := LE.bel hb1
   clear c0 c1 c2 c3 c4 c5 c6 c7 c8 c9 c10 c11 c12 hz
   obtain ⟨c0, c1, c2, c3, c4, c5, c6, c7, c8, c9, c10, c11, c12⟩ := cells13 LE
   have hz := lt_of_heap LE
   go_wp2_with fail
   refine (named_c e.name).mono ?_
   rintro x9 w2 ⟨rfl, hb2⟩
   replace LE := LE.bel hb2
   clear c0 c1 c2 c3 c4 c5 c6 c7 c8 c9 c10 c11 c12 hz
   obtain ⟨c0, c1, c2, c3, c4, c5, c6, c7, c8, c9, c10, c11, c12⟩ := cells13 LE
   have hz := lt_of_heap LE
   cases hnm : named e.name
   ·have E1 := Lib.hid (E.out.trans (allI_no HE.out (by show (named e.name && _) = false; rw [hnm]; rfl)))
    go_wp2_with fail
    go_ret
    rw [E1.out]
    exact ⟨rfl, bW⟩
   go_wp2_with fail
   refine (mname_c e B b D d).mono ?_
   rintro x9 w3 ⟨rfl, hb3⟩
   clear c0 c1 c2 c3 c4 c5 c6 c7 c8 c9 c10 c11 c12 hz LE
   go_wp2_with fail
   refine (fndm_c (m := m) e.name (H.out.below (by (focus (repeat (first | with_reducible exact Below.refl _ _ | with_reducible assumption | with_reducible refine bel_al _ ?_ | with_reducible refine bel_dr ?_ | with_reducible refine bel_dn _ ?_ | with_reducible refine bel_tr (by assumption) ?_)))))).mono ?_
   rintro x9 w4 ⟨rfl, hb4⟩
   have HI := Lib.hid (show (named e.name && idx (fun x => x.name == e.name) l == (k : Int)) = (fun (i : Nat) e => named e.name && idx (fun x => x.name == e.name) l == (i : Int)) k e from rfl)
   rw [hnm, Bool.true_and] at HI
   clear hnm
   generalize idx (fun x => x.name == e.name) l = r1 at HI ⊢
   by_cases hm : r1 = (k : Int)
   ·have HM := Lib.hid (HI.out.symm.trans (show (r1 == (k : Int)) = true by rw [hm]; simp))
    have hm' : (r1 != (k : Int)) = false := by simpa using hm
    clear hm
    go_wp2_with fail
    go_roundw
    case rel => exact ⟨k + 1, by omega, by go_num, allI_step HP.out HE.out HM.out, bW⟩
    case measure => simp [intOf]; omega
   ·have E1 := Lib.hid (E.out.trans (allI_no HE.out (HI.out.symm.trans (show (r1 == (k : Int)) = false by simpa using hm))))
    have hm' : (r1 != (k : Int)) = true := by simpa using hm
    clear hm
    go_wp2_with fail
    go_ret
    rw [E1.out]
    exact ⟨rfl, bW⟩
  ·have E1 := Lib.hid (E.out.trans (allI_yes (n := k) (by have := H.out.len.1; omega) HP.out))
   go_wp2_with fail
   go_ret
   rw [E1.out]
   exact ⟨rfl, hb⟩
end
end Go.Proofs.YtjnhgfmjehaalaaGreat
