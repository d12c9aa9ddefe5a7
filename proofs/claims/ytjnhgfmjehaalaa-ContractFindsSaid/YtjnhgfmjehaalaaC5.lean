/- Chapter 6: moves that may be; contracts checked. -/
import Derived.Test.YtjnhgfmjehaalaaC4
namespace Go.Proofs.Ytjnhgfmjehaalaa
open Go.RowKit
set_option linter.unusedVariables false
set_option linter.unusedSimpArgs false
section
variable {w : World}
theorem field_c {ok : Nat → Prop} {A B D : Option Addr} {a b d : Nat} {c : Con} {n : Nat} (name : List UInt8) (h : Sl kFld ok w (.slice A c.fields.length a) c.fields) : Calls Try.prog 9 #[.agg #[.string ⟨c.name.toArray⟩, .slice A c.fields.length a, .slice B c.stages.length b, .slice D c.moves.length d], .string ⟨name.toArray⟩] w (Ret w (.int .i64 (idx (fun e => e.name == name) c.fields))) := by
  have HS := Lib.hid (show ∀ W : World, Below w.heap.size w W → Sl kFld ok W (.slice A c.fields.length a) c.fields from fun W hW => h.below hW)
  clear h
  have hL : Loc1 w.heap.size 26 #[.string ⟨c.name.toArray⟩, .slice A c.fields.length a, .slice B c.stages.length b, .slice D c.moves.length d] (w.alloc (.cells #[.string ⟨c.name.toArray⟩, .slice A c.fields.length a, .slice B c.stages.length b, .slice D c.moves.length d] 26)) := Loc1.new _ _ _
  obtain ⟨c0, c1, c2, c3⟩ := cells4 hL
  clear hL
  go_enter Try.func9, Try.ntmps9
  go_wp2_with fail
  refine (fndf_c (m := n) name (HS.out _ (by (focus (repeat (first | with_reducible exact Below.refl _ _ | with_reducible assumption | with_reducible refine bel_al _ ?_ | with_reducible refine bel_dr ?_ | with_reducible refine bel_dn _ ?_ | with_reducible refine bel_tr (by assumption) ?_)))))).mono ?_
  rintro x9 w1 ⟨rfl, hb1⟩
  go_wp2_with fail
  go_ret
  exact ⟨rfl, (by (focus (repeat (first | with_reducible exact Below.refl _ _ | with_reducible assumption | with_reducible refine bel_al _ ?_ | with_reducible refine bel_dr ?_ | with_reducible refine bel_dn _ ?_ | with_reducible refine bel_tr (by assumption) ?_))))⟩
theorem stage_c {ok : Nat → Prop} {A B D : Option Addr} {a b d : Nat} {c : Con} {n : Nat} (name : List UInt8) (h : Sl kStg ok w (.slice B c.stages.length b) c.stages) : Calls Try.prog 11 #[.agg #[.string ⟨c.name.toArray⟩, .slice A c.fields.length a, .slice B c.stages.length b, .slice D c.moves.length d], .string ⟨name.toArray⟩] w (Ret w (.int .i64 (idx (fun e => e.name == name) c.stages))) := by
  have HS := Lib.hid (show ∀ W : World, Below w.heap.size w W → Sl kStg ok W (.slice B c.stages.length b) c.stages from fun W hW => h.below hW)
  clear h
  have hL : Loc1 w.heap.size 26 #[.string ⟨c.name.toArray⟩, .slice A c.fields.length a, .slice B c.stages.length b, .slice D c.moves.length d] (w.alloc (.cells #[.string ⟨c.name.toArray⟩, .slice A c.fields.length a, .slice B c.stages.length b, .slice D c.moves.length d] 26)) := Loc1.new _ _ _
  obtain ⟨c0, c1, c2, c3⟩ := cells4 hL
  clear hL
  go_enter Try.func11, Try.ntmps11
  go_wp2_with fail
  refine (fndg_c (m := n) name (HS.out _ (by (focus (repeat (first | with_reducible exact Below.refl _ _ | with_reducible assumption | with_reducible refine bel_al _ ?_ | with_reducible refine bel_dr ?_ | with_reducible refine bel_dn _ ?_ | with_reducible refine bel_tr (by assumption) ?_)))))).mono ?_
  rintro x9 w1 ⟨rfl, hb1⟩
  go_wp2_with fail
  go_ret
  exact ⟨rfl, (by (focus (repeat (first | with_reducible exact Below.refl _ _ | with_reducible assumption | with_reducible refine bel_al _ ?_ | with_reducible refine bel_dr ?_ | with_reducible refine bel_dn _ ?_ | with_reducible refine bel_tr (by assumption) ?_))))⟩
theorem move_c {ok : Nat → Prop} {A B D : Option Addr} {a b d : Nat} {c : Con} {n : Nat} (name : List UInt8) (h : Sl (kMov n) ok w (.slice D c.moves.length d) c.moves) : Calls Try.prog 13 #[.agg #[.string ⟨c.name.toArray⟩, .slice A c.fields.length a, .slice B c.stages.length b, .slice D c.moves.length d], .string ⟨name.toArray⟩] w (Ret w (.int .i64 (idx (fun e => e.name == name) c.moves))) := by
  have HS := Lib.hid (show ∀ W : World, Below w.heap.size w W → Sl (kMov n) ok W (.slice D c.moves.length d) c.moves from fun W hW => h.below hW)
  clear h
  have hL : Loc1 w.heap.size 26 #[.string ⟨c.name.toArray⟩, .slice A c.fields.length a, .slice B c.stages.length b, .slice D c.moves.length d] (w.alloc (.cells #[.string ⟨c.name.toArray⟩, .slice A c.fields.length a, .slice B c.stages.length b, .slice D c.moves.length d] 26)) := Loc1.new _ _ _
  obtain ⟨c0, c1, c2, c3⟩ := cells4 hL
  clear hL
  go_enter Try.func13, Try.ntmps13
  go_wp2_with fail
  refine (fndm_c (m := n) name (HS.out _ (by (focus (repeat (first | with_reducible exact Below.refl _ _ | with_reducible assumption | with_reducible refine bel_al _ ?_ | with_reducible refine bel_dr ?_ | with_reducible refine bel_dn _ ?_ | with_reducible refine bel_tr (by assumption) ?_)))))).mono ?_
  rintro x9 w1 ⟨rfl, hb1⟩
  go_wp2_with fail
  go_ret
  exact ⟨rfl, (by (focus (repeat (first | with_reducible exact Below.refl _ _ | with_reducible assumption | with_reducible refine bel_al _ ?_ | with_reducible refine bel_dr ?_ | with_reducible refine bel_dn _ ?_ | with_reducible refine bel_tr (by assumption) ?_))))⟩
/-- is there such a stage? -/
def thereB (n : Nat) (i : Int) : Bool := decide (0 ≤ i) && decide (i < (n : Int))
theorem there_c {A B D : Option Addr} {a b d : Nat} {c : Con} (i : Int) {N : Nat} {t : TypeId} (hN : Loc1 N t #[.string ⟨c.name.toArray⟩, .slice A c.fields.length a, .slice B c.stages.length b, .slice D c.moves.length d] w) : Calls Try.prog 40 #[.int .i64 i, .pointer (some ⟨N, 0, none⟩)] w (Ret w (.bool (thereB c.stages.length i))) := by
  have E := Lib.hid (show thereB c.stages.length i = (decide (0 ≤ i) && decide (i < (c.stages.length : Int))) from rfl)
  generalize thereB c.stages.length i = r at *
  obtain ⟨c0, c1, c2, c3⟩ := cells4 hN
  have hz := lt_of_heap hN
  clear hN
  go_enter Try.func40, Try.ntmps40
  go_wp2_with fail
  all_goals
    go_ret
    rw [E.out]
    exact ⟨by first | (simp [*]; done) | (simp [*]; omega) | (simp_all; done) | (simp_all; omega) | (simp [*]; intros; (repeat' split) <;> (first | omega | (simp_all; done) | (simp_all; omega))), (by (focus (repeat (first | with_reducible exact Below.refl _ _ | with_reducible assumption | with_reducible refine bel_al _ ?_ | with_reducible refine bel_dr ?_ | with_reducible refine bel_dn _ ?_ | with_reducible refine bel_tr (by assumption) ?_))))⟩
theorem keepC {w W : World} {a : Addr} {v : Value} (h : w.cell? a = some v) (hW : Below w.heap.size w W) : W.cell? a = some v := (hW.cell (cell_lt h)).trans h
def kindAt (fl : List Fld) (i : Int) : Int := match fl[i.toNat]? with | some f => f.kind | none => 0
/-- an effect that may be -/
def gEff (fl : List Fld) (n : Nat) (x : Eff) : Bool := decide (0 ≤ idx (fun e => e.name == x.field) fl) && isE fl n x.expr (kindAt fl (idx (fun e => e.name == x.field) fl))
def gHead (c : Con) (n : Nat) (m : Mov) : Bool := thereB c.stages.length m.frm && thereB c.stages.length m.tgt && decide (-1 ≤ m.org) && decide (m.org < 4) && decide (m.effects.length ≤ 4) && isE c.fields n m.guard 2
/-- a move that may be -/
def gMove (c : Con) (n : Nat) (m : Mov) : Bool := gHead c n m && (m.effects.all (gEff c.fields n) && apartB (m.effects.map fun x => x.field))
theorem infoStr : (Try.prog.info? 9).map (fun i => (i.zero, i.size, i.bytes)) = some (some (.string ⟨#[]⟩), 1, 16) := by kernel_rfl
set_option maxRecDepth 20000 in
set_option maxHeartbeats 4000000 in
theorem gmove_c {A B D : Option Addr} {a b d : Nat} {c : Con} {n : Nat} (m : Mov) {k : Nat} {M P : Option Addr} {u p : Nat} (hn : n = k + 1) (h1 : Sl kFld (fun _ => True) w (.slice A c.fields.length a) c.fields)
    (hg : Sl (kExp k) (fun _ => True) w (.slice M m.guard.kids.length u) m.guard.kids) (he : Sl (kEff n) (fun _ => True) w (.slice P m.effects.length p) m.effects) :
    Calls Try.prog 16 #[.agg #[.string ⟨c.name.toArray⟩, .slice A c.fields.length a, .slice B c.stages.length b, .slice D c.moves.length d], .agg #[.string ⟨m.name.toArray⟩, .int .i64 m.frm, .int .i64 m.tgt, .int .i64 m.guard.op, .slice M m.guard.kids.length u, .string ⟨m.guard.name.toArray⟩, .int .i64 m.guard.val.kind, .int .i64 m.guard.val.int, .bool m.guard.val.bool, .string ⟨m.guard.val.text.toArray⟩, .float .f64 m.guard.val.num, .slice P m.effects.length p, .int .i64 m.org]] w (Ret w (.bool (gMove c n m))) := by
  have SF := store_f64
  have HF := Lib.hid (show ∀ W : World, Below w.heap.size w W → Sl kFld (fun _ => True) W (.slice A c.fields.length a) c.fields from fun W hW => h1.below hW)
  have HG := Lib.hid (show ∀ W : World, Below w.heap.size w W → (kExp n).R (fun _ => True) W [.int .i64 m.guard.op, .slice M m.guard.kids.length u, .string ⟨m.guard.name.toArray⟩, .int .i64 m.guard.val.kind, .int .i64 m.guard.val.int, .bool m.guard.val.bool, .string ⟨m.guard.val.text.toArray⟩, .float .f64 m.guard.val.num] m.guard from fun W hW => by rw [hn]; exact exp_mk (hg.below hW))
  have HE := Lib.hid (show ∀ W : World, Below w.heap.size w W → Sl (kEff n) (fun _ => True) W (.slice P m.effects.length p) m.effects from fun W hW => he.below hW)
  have E := Lib.hid (show gMove c n m = (gHead c n m && (m.effects.all (gEff c.fields n) && apartB (m.effects.map fun x => x.field))) from rfl)
  have EH := Lib.hid (show gHead c n m = (thereB c.stages.length m.frm && thereB c.stages.length m.tgt && decide (-1 ≤ m.org) && decide (m.org < 4) && decide (m.effects.length ≤ 4) && isE c.fields n m.guard 2) from rfl)
  have hmf : ∀ (fn : Fn) (first cap : Array Value) (w : World), (Instr.makeFunc fn first cap).run Try.prog w = .ok (.func fn first cap) w := fun _ _ _ _ => rfl
  have hmax := he.len.2.2.1
  have hnc := he.len.2.1
  have hma := h1.len.2.2.1
  have hna := h1.len.2.1
  have B0 : Below w.heap.size w ((w.alloc (.cells #[.string ⟨c.name.toArray⟩, .slice A c.fields.length a, .slice B c.stages.length b, .slice D c.moves.length d] 26)).alloc (.cells #[.string ⟨m.name.toArray⟩, .int .i64 m.frm, .int .i64 m.tgt, .int .i64 m.guard.op, .slice M m.guard.kids.length u, .string ⟨m.guard.name.toArray⟩, .int .i64 m.guard.val.kind, .int .i64 m.guard.val.int, .bool m.guard.val.bool, .string ⟨m.guard.val.text.toArray⟩, .float .f64 m.guard.val.num, .slice P m.effects.length p, .int .i64 m.org] 47)) := (by (focus (repeat (first | with_reducible exact Below.refl _ _ | with_reducible assumption | with_reducible refine bel_al _ ?_ | with_reducible refine bel_dr ?_ | with_reducible refine bel_dn _ ?_ | with_reducible refine bel_tr (by assumption) ?_))))
  have KK := Lib.hid (show ∀ W : World, Below ((w.alloc (.cells #[.string ⟨c.name.toArray⟩, .slice A c.fields.length a, .slice B c.stages.length b, .slice D c.moves.length d] 26)).alloc (.cells #[.string ⟨m.name.toArray⟩, .int .i64 m.frm, .int .i64 m.tgt, .int .i64 m.guard.op, .slice M m.guard.kids.length u, .string ⟨m.guard.name.toArray⟩, .int .i64 m.guard.val.kind, .int .i64 m.guard.val.int, .bool m.guard.val.bool, .string ⟨m.guard.val.text.toArray⟩, .float .f64 m.guard.val.num, .slice P m.effects.length p, .int .i64 m.org] 47)).heap.size ((w.alloc (.cells #[.string ⟨c.name.toArray⟩, .slice A c.fields.length a, .slice B c.stages.length b, .slice D c.moves.length d] 26)).alloc (.cells #[.string ⟨m.name.toArray⟩, .int .i64 m.frm, .int .i64 m.tgt, .int .i64 m.guard.op, .slice M m.guard.kids.length u, .string ⟨m.guard.name.toArray⟩, .int .i64 m.guard.val.kind, .int .i64 m.guard.val.int, .bool m.guard.val.bool, .string ⟨m.guard.val.text.toArray⟩, .float .f64 m.guard.val.num, .slice P m.effects.length p, .int .i64 m.org] 47)) W → (W.cell? ⟨w.heap.size, 0, none⟩ = some (.string ⟨c.name.toArray⟩) ∧ W.cell? ⟨w.heap.size, 1, none⟩ = some (.slice A c.fields.length a) ∧ W.cell? ⟨w.heap.size, 2, none⟩ = some (.slice B c.stages.length b) ∧ W.cell? ⟨w.heap.size, 3, none⟩ = some (.slice D c.moves.length d)) ∧ (W.cell? ⟨w.heap.size + 1, 0, none⟩ = some (.string ⟨m.name.toArray⟩) ∧ W.cell? ⟨w.heap.size + 1, 1, none⟩ = some (.int .i64 m.frm) ∧ W.cell? ⟨w.heap.size + 1, 2, none⟩ = some (.int .i64 m.tgt) ∧ W.cell? ⟨w.heap.size + 1, 3, none⟩ = some (.int .i64 m.guard.op) ∧ W.cell? ⟨w.heap.size + 1, 4, none⟩ = some (.slice M m.guard.kids.length u) ∧ W.cell? ⟨w.heap.size + 1, 5, none⟩ = some (.string ⟨m.guard.name.toArray⟩) ∧ W.cell? ⟨w.heap.size + 1, 6, none⟩ = some (.int .i64 m.guard.val.kind) ∧ W.cell? ⟨w.heap.size + 1, 7, none⟩ = some (.int .i64 m.guard.val.int) ∧ W.cell? ⟨w.heap.size + 1, 8, none⟩ = some (.bool m.guard.val.bool) ∧ W.cell? ⟨w.heap.size + 1, 9, none⟩ = some (.string ⟨m.guard.val.text.toArray⟩) ∧ W.cell? ⟨w.heap.size + 1, 10, none⟩ = some (.float .f64 m.guard.val.num) ∧ W.cell? ⟨w.heap.size + 1, 11, none⟩ = some (.slice P m.effects.length p) ∧ W.cell? ⟨w.heap.size + 1, 12, none⟩ = some (.int .i64 m.org)) ∧ w.heap.size + 1 < W.heap.size from fun W hW => by
    have h1 : Loc1 w.heap.size 26 #[.string ⟨c.name.toArray⟩, .slice A c.fields.length a, .slice B c.stages.length b, .slice D c.moves.length d] ((w.alloc (.cells #[.string ⟨c.name.toArray⟩, .slice A c.fields.length a, .slice B c.stages.length b, .slice D c.moves.length d] 26)).alloc (.cells #[.string ⟨m.name.toArray⟩, .int .i64 m.frm, .int .i64 m.tgt, .int .i64 m.guard.op, .slice M m.guard.kids.length u, .string ⟨m.guard.name.toArray⟩, .int .i64 m.guard.val.kind, .int .i64 m.guard.val.int, .bool m.guard.val.bool, .string ⟨m.guard.val.text.toArray⟩, .float .f64 m.guard.val.num, .slice P m.effects.length p, .int .i64 m.org] 47)) := (by (focus (repeat (first | with_reducible assumption | exact Loc1.newE _ _ _ (by simp) | with_reducible refine Loc1.al _ ?_ | with_reducible refine Loc1.dr ?_ | with_reducible refine Loc1.bel (by assumption) ?_))))
    have h2 : Loc1 (w.heap.size + 1) 47 #[.string ⟨m.name.toArray⟩, .int .i64 m.frm, .int .i64 m.tgt, .int .i64 m.guard.op, .slice M m.guard.kids.length u, .string ⟨m.guard.name.toArray⟩, .int .i64 m.guard.val.kind, .int .i64 m.guard.val.int, .bool m.guard.val.bool, .string ⟨m.guard.val.text.toArray⟩, .float .f64 m.guard.val.num, .slice P m.effects.length p, .int .i64 m.org] ((w.alloc (.cells #[.string ⟨c.name.toArray⟩, .slice A c.fields.length a, .slice B c.stages.length b, .slice D c.moves.length d] 26)).alloc (.cells #[.string ⟨m.name.toArray⟩, .int .i64 m.frm, .int .i64 m.tgt, .int .i64 m.guard.op, .slice M m.guard.kids.length u, .string ⟨m.guard.name.toArray⟩, .int .i64 m.guard.val.kind, .int .i64 m.guard.val.int, .bool m.guard.val.bool, .string ⟨m.guard.val.text.toArray⟩, .float .f64 m.guard.val.num, .slice P m.effects.length p, .int .i64 m.org] 47)) := (by (focus (repeat (first | with_reducible assumption | exact Loc1.newE _ _ _ (by simp) | with_reducible refine Loc1.al _ ?_ | with_reducible refine Loc1.dr ?_ | with_reducible refine Loc1.bel (by assumption) ?_))))
    exact ⟨⟨cell_of (h1.bel hW) 0, cell_of (h1.bel hW) 1, cell_of (h1.bel hW) 2, cell_of (h1.bel hW) 3⟩, ⟨cell_of (h2.bel hW) 0, cell_of (h2.bel hW) 1, cell_of (h2.bel hW) 2, cell_of (h2.bel hW) 3, cell_of (h2.bel hW) 4, cell_of (h2.bel hW) 5, cell_of (h2.bel hW) 6, cell_of (h2.bel hW) 7, cell_of (h2.bel hW) 8, cell_of (h2.bel hW) 9, cell_of (h2.bel hW) 10, cell_of (h2.bel hW) 11, cell_of (h2.bel hW) 12⟩, lt_of_heap (h2.bel hW)⟩)
  have KC := Lib.hid (show ∀ W : World, Below ((w.alloc (.cells #[.string ⟨c.name.toArray⟩, .slice A c.fields.length a, .slice B c.stages.length b, .slice D c.moves.length d] 26)).alloc (.cells #[.string ⟨m.name.toArray⟩, .int .i64 m.frm, .int .i64 m.tgt, .int .i64 m.guard.op, .slice M m.guard.kids.length u, .string ⟨m.guard.name.toArray⟩, .int .i64 m.guard.val.kind, .int .i64 m.guard.val.int, .bool m.guard.val.bool, .string ⟨m.guard.val.text.toArray⟩, .float .f64 m.guard.val.num, .slice P m.effects.length p, .int .i64 m.org] 47)).heap.size ((w.alloc (.cells #[.string ⟨c.name.toArray⟩, .slice A c.fields.length a, .slice B c.stages.length b, .slice D c.moves.length d] 26)).alloc (.cells #[.string ⟨m.name.toArray⟩, .int .i64 m.frm, .int .i64 m.tgt, .int .i64 m.guard.op, .slice M m.guard.kids.length u, .string ⟨m.guard.name.toArray⟩, .int .i64 m.guard.val.kind, .int .i64 m.guard.val.int, .bool m.guard.val.bool, .string ⟨m.guard.val.text.toArray⟩, .float .f64 m.guard.val.num, .slice P m.effects.length p, .int .i64 m.org] 47)) W → Loc1 w.heap.size 26 #[.string ⟨c.name.toArray⟩, .slice A c.fields.length a, .slice B c.stages.length b, .slice D c.moves.length d] W from fun W hW => by
    have h1 : Loc1 w.heap.size 26 #[.string ⟨c.name.toArray⟩, .slice A c.fields.length a, .slice B c.stages.length b, .slice D c.moves.length d] ((w.alloc (.cells #[.string ⟨c.name.toArray⟩, .slice A c.fields.length a, .slice B c.stages.length b, .slice D c.moves.length d] 26)).alloc (.cells #[.string ⟨m.name.toArray⟩, .int .i64 m.frm, .int .i64 m.tgt, .int .i64 m.guard.op, .slice M m.guard.kids.length u, .string ⟨m.guard.name.toArray⟩, .int .i64 m.guard.val.kind, .int .i64 m.guard.val.int, .bool m.guard.val.bool, .string ⟨m.guard.val.text.toArray⟩, .float .f64 m.guard.val.num, .slice P m.effects.length p, .int .i64 m.org] 47)) := (by (focus (repeat (first | with_reducible assumption | exact Loc1.newE _ _ _ (by simp) | with_reducible refine Loc1.al _ ?_ | with_reducible refine Loc1.dr ?_ | with_reducible refine Loc1.bel (by assumption) ?_))))
    exact h1.bel hW)
  generalize gMove c n m = r at *
  clear h1 hg he hn
  cases hH : gHead c n m
  · have E1 := Lib.hid (show r = false by rw [E.out, hH]; rfl)
    rw [hH] at EH
    clear hH
    go_enter Try.func16, Try.ntmps16
    go_wp2_with (first
      | (go_at_call 40; refine (there_c _ (KC.out _ (by (focus (repeat (first | with_reducible exact Below.refl _ _ | with_reducible assumption | with_reducible refine bel_al _ ?_ | with_reducible refine bel_dr ?_ | with_reducible refine bel_dn _ ?_ | with_reducible refine bel_tr (by assumption) ?_)))))).mono ?_; rintro x9 wz ⟨rfl, hb⟩; obtain ⟨⟨c0, c1, c2, c3⟩, ⟨m0, m1, m2, m3, m4, m5, m6, m7, m8, m9, m10, m11, m12⟩, hz⟩ := KK.out wz (by (focus (repeat (first | with_reducible exact Below.refl _ _ | with_reducible assumption | with_reducible refine bel_al _ ?_ | with_reducible refine bel_dr ?_ | with_reducible refine bel_dn _ ?_ | with_reducible refine bel_tr (by assumption) ?_)))))
      | (go_at_call 41; refine (is_c 2 (HG.out _ (by (focus (repeat (first | with_reducible exact Below.refl _ _ | with_reducible assumption | with_reducible refine bel_al _ ?_ | with_reducible refine bel_dr ?_ | with_reducible refine bel_dn _ ?_ | with_reducible refine bel_tr (by assumption) ?_))))) (HF.out _ (by (focus (repeat (first | with_reducible exact Below.refl _ _ | with_reducible assumption | with_reducible refine bel_al _ ?_ | with_reducible refine bel_dr ?_ | with_reducible refine bel_dn _ ?_ | with_reducible refine bel_tr (by assumption) ?_)))))).mono ?_; rintro x9 wz ⟨rfl, hb⟩; obtain ⟨⟨c0, c1, c2, c3⟩, ⟨m0, m1, m2, m3, m4, m5, m6, m7, m8, m9, m10, m11, m12⟩, hz⟩ := KK.out wz (by (focus (repeat (first | with_reducible exact Below.refl _ _ | with_reducible assumption | with_reducible refine bel_al _ ?_ | with_reducible refine bel_dr ?_ | with_reducible refine bel_dn _ ?_ | with_reducible refine bel_tr (by assumption) ?_))))))
    all_goals first
      | (go_ret; rw [E1.out]; exact ⟨rfl, (by (focus (repeat (first | with_reducible exact Below.refl _ _ | with_reducible assumption | with_reducible refine bel_al _ ?_ | with_reducible refine bel_dr ?_ | with_reducible refine bel_dn _ ?_ | with_reducible refine bel_tr (by assumption) ?_))))⟩)
      | (exfalso; have h9 := EH.out; simp [*] at h9; done)
      | (exfalso; have h9 := EH.out; clear KK KC HF HG HE; simp_all; omega)
  have h1 : thereB c.stages.length m.frm = true := by rw [EH.out] at hH; simp only [Bool.and_eq_true] at hH; exact hH.1.1.1.1.1
  have h2 : thereB c.stages.length m.tgt = true := by rw [EH.out] at hH; simp only [Bool.and_eq_true] at hH; exact hH.1.1.1.1.2
  have h3 : -1 ≤ m.org := by rw [EH.out] at hH; simp only [Bool.and_eq_true, decide_eq_true_eq] at hH; exact hH.1.1.1.2
  have h4 : m.org < 4 := by rw [EH.out] at hH; simp only [Bool.and_eq_true, decide_eq_true_eq] at hH; exact hH.1.1.2
  have h5 : (m.effects.length : Int) ≤ 4 := by rw [EH.out] at hH; simp only [Bool.and_eq_true, decide_eq_true_eq] at hH; have := hH.1.2; omega
  have h6 : isE c.fields n m.guard 2 = true := by rw [EH.out] at hH; simp only [Bool.and_eq_true] at hH; exact hH.2
  replace E := Lib.hid (show r = (m.effects.all (gEff c.fields n) && apartB (m.effects.map fun x => x.field)) by rw [E.out, hH]; rfl)
  clear hH EH
  go_enter Try.func16, Try.ntmps16
  go_wp2_with fail
  generalize ((w.alloc (.cells #[.string ⟨c.name.toArray⟩, .slice A c.fields.length a, .slice B c.stages.length b, .slice D c.moves.length d] 26)).alloc (.cells #[.string ⟨m.name.toArray⟩, .int .i64 m.frm, .int .i64 m.tgt, .int .i64 m.guard.op, .slice M m.guard.kids.length u, .string ⟨m.guard.name.toArray⟩, .int .i64 m.guard.val.kind, .int .i64 m.guard.val.int, .bool m.guard.val.bool, .string ⟨m.guard.val.text.toArray⟩, .float .f64 m.guard.val.num, .slice P m.effects.length p, .int .i64 m.org] 47)) = w0 at *
  obtain ⟨⟨c0, c1, c2, c3⟩, ⟨m0, m1, m2, m3, m4, m5, m6, m7, m8, m9, m10, m11, m12⟩, hz⟩ := KK.out w0 (by (focus (repeat (first | with_reducible exact Below.refl _ _ | with_reducible assumption | with_reducible refine bel_al _ ?_ | with_reducible refine bel_dr ?_ | with_reducible refine bel_dn _ ?_ | with_reducible refine bel_tr (by assumption) ?_))))
  go_wp2_with fail
  refine (there_c _ (KC.out _ (by (focus (repeat (first | with_reducible exact Below.refl _ _ | with_reducible assumption | with_reducible refine bel_al _ ?_ | with_reducible refine bel_dr ?_ | with_reducible refine bel_dn _ ?_ | with_reducible refine bel_tr (by assumption) ?_)))))).mono ?_
  rintro x9 w1 ⟨rfl, hb1⟩
  clear c0 c1 c2 c3 m0 m1 m2 m3 m4 m5 m6 m7 m8 m9 m10 m11 m12 hz
  obtain ⟨⟨c0, c1, c2, c3⟩, ⟨m0, m1, m2, m3, m4, m5, m6, m7, m8, m9, m10, m11, m12⟩, hz⟩ := KK.out w1 (by (focus (repeat (first | with_reducible exact Below.refl _ _ | with_reducible assumption | with_reducible refine bel_al _ ?_ | with_reducible refine bel_dr ?_ | with_reducible refine bel_dn _ ?_ | with_reducible refine bel_tr (by assumption) ?_))))
  go_wp2_with fail
  refine (there_c _ (KC.out _ (by (focus (repeat (first | with_reducible exact Below.refl _ _ | with_reducible assumption | with_reducible refine bel_al _ ?_ | with_reducible refine bel_dr ?_ | with_reducible refine bel_dn _ ?_ | with_reducible refine bel_tr (by assumption) ?_)))))).mono ?_
  rintro x9 w2 ⟨rfl, hb2⟩
  clear c0 c1 c2 c3 m0 m1 m2 m3 m4 m5 m6 m7 m8 m9 m10 m11 m12 hz
  obtain ⟨⟨c0, c1, c2, c3⟩, ⟨m0, m1, m2, m3, m4, m5, m6, m7, m8, m9, m10, m11, m12⟩, hz⟩ := KK.out w2 (by (focus (repeat (first | with_reducible exact Below.refl _ _ | with_reducible assumption | with_reducible refine bel_al _ ?_ | with_reducible refine bel_dr ?_ | with_reducible refine bel_dn _ ?_ | with_reducible refine bel_tr (by assumption) ?_))))
  go_wp2_with fail
  refine (is_c 2 (HG.out _ (by (focus (repeat (first | with_reducible exact Below.refl _ _ | with_reducible assumption | with_reducible refine bel_al _ ?_ | with_reducible refine bel_dr ?_ | with_reducible refine bel_dn _ ?_ | with_reducible refine bel_tr (by assumption) ?_))))) (HF.out _ (by (focus (repeat (first | with_reducible exact Below.refl _ _ | with_reducible assumption | with_reducible refine bel_al _ ?_ | with_reducible refine bel_dr ?_ | with_reducible refine bel_dn _ ?_ | with_reducible refine bel_tr (by assumption) ?_)))))).mono ?_
  rintro x9 w3 ⟨rfl, hb3⟩
  clear c0 c1 c2 c3 m0 m1 m2 m3 m4 m5 m6 m7 m8 m9 m10 m11 m12 hz
  obtain ⟨⟨c0, c1, c2, c3⟩, ⟨m0, m1, m2, m3, m4, m5, m6, m7, m8, m9, m10, m11, m12⟩, hz⟩ := KK.out w3 (by (focus (repeat (first | with_reducible exact Below.refl _ _ | with_reducible assumption | with_reducible refine bel_al _ ?_ | with_reducible refine bel_dr ?_ | with_reducible refine bel_dn _ ?_ | with_reducible refine bel_tr (by assumption) ?_))))
  have hb4 : Below w0.heap.size w0 w3 := (by (focus (repeat (first | with_reducible exact Below.refl _ _ | with_reducible assumption | with_reducible refine bel_al _ ?_ | with_reducible refine bel_dr ?_ | with_reducible refine bel_dn _ ?_ | with_reducible refine bel_tr (by assumption) ?_))))
  clear hb1 hb2 hb3
  go_wp2_with fail
  clear h1 h2 h3 h4 h6
  clear c0 c1 c2 c3 m0 m1 m2 m3 m4 m5 m6 m7 m8 m9 m10 m11 m12 hz
  go_loopw [50, 6] (fun v50 v6 wr => ∃ k : Nat, k ≤ m.effects.length ∧ v50 = .int .i64 k ∧ Own kStr 9 (fun _ => True) wr w0.heap.size v6 ((m.effects.take k).map fun x => x.field) ∧ (∀ j x, j < k → m.effects[j]? = some x → (fun (_ : Nat) x => gEff c.fields n x) j x = true) ∧ Below w0.heap.size w0 wr) (fun v50 _ _ => m.effects.length - (intOf v50).toNat)
  case atStart => exact ⟨0, Nat.zero_le _, rfl, Own.nil _ _ _ _ _, allI_nil, hb4⟩
  case round =>
    clear hb4
    obtain ⟨i, hi, rfl, ho, hp, hb4⟩ := hrel
    have HP := Lib.hid hp
    have HO := Lib.hid ho
    obtain ⟨A6, n6, c6, rfl, -⟩ := ho.form'
    clear hp ho
    by_cases hlt : i < m.effects.length
    · obtain ⟨ad, x, k', X, y, rfl, hx, hk', hsx, q0, q1, q2, q3, q4, q5, q6, q7, q8⟩ := eff_at (HE.out wr (by (focus (repeat (first | with_reducible exact Below.refl _ _ | with_reducible assumption | with_reducible refine bel_al _ ?_ | with_reducible refine bel_dr ?_ | with_reducible refine bel_dn _ ?_ | with_reducible refine bel_tr (by assumption) ?_))))) hlt
      have HX := Lib.hid hx
      have HXE := Lib.hid (show ∀ W : World, Below wr.heap.size wr W → (kExp n).R (fun _ => True) W [.int .i64 x.expr.op, .slice X x.expr.kids.length y, .string ⟨x.expr.name.toArray⟩, .int .i64 x.expr.val.kind, .int .i64 x.expr.val.int, .bool x.expr.val.bool, .string ⟨x.expr.val.text.toArray⟩, .float .f64 x.expr.val.num] x.expr from fun W hW => by rw [hk']; exact exp_mk (hsx.below hW))
      clear hx hk' hsx
      obtain ⟨⟨c0, c1, c2, c3⟩, ⟨m0, m1, m2, m3, m4, m5, m6, m7, m8, m9, m10, m11, m12⟩, hz⟩ := KK.out wr (by (focus (repeat (first | with_reducible exact Below.refl _ _ | with_reducible assumption | with_reducible refine bel_al _ ?_ | with_reducible refine bel_dr ?_ | with_reducible refine bel_dn _ ?_ | with_reducible refine bel_tr (by assumption) ?_))))
      go_upto_region 8 with (fail)
      have LX : Loc1 wr.heap.size 71 #[.string ⟨x.field.toArray⟩, .int .i64 x.expr.op, .slice X x.expr.kids.length y, .string ⟨x.expr.name.toArray⟩, .int .i64 x.expr.val.kind, .int .i64 x.expr.val.int, .bool x.expr.val.bool, .string ⟨x.expr.val.text.toArray⟩, .float .f64 x.expr.val.num] (wr.alloc (.cells #[.string ⟨x.field.toArray⟩, .int .i64 x.expr.op, .slice X x.expr.kids.length y, .string ⟨x.expr.name.toArray⟩, .int .i64 x.expr.val.kind, .int .i64 x.expr.val.int, .bool x.expr.val.bool, .string ⟨x.expr.val.text.toArray⟩, .float .f64 x.expr.val.num] 71)) := Loc1.new _ _ _
      have hb0 : Below wr.heap.size wr (wr.alloc (.cells #[.string ⟨x.field.toArray⟩, .int .i64 x.expr.op, .slice X x.expr.kids.length y, .string ⟨x.expr.name.toArray⟩, .int .i64 x.expr.val.kind, .int .i64 x.expr.val.int, .bool x.expr.val.bool, .string ⟨x.expr.val.text.toArray⟩, .float .f64 x.expr.val.num] 71)) := (by (focus (repeat (first | with_reducible exact Below.refl _ _ | with_reducible assumption | with_reducible refine bel_al _ ?_ | with_reducible refine bel_dr ?_ | with_reducible refine bel_dn _ ?_ | with_reducible refine bel_tr (by assumption) ?_))))
      generalize (wr.alloc (.cells #[.string ⟨x.field.toArray⟩, .int .i64 x.expr.op, .slice X x.expr.kids.length y, .string ⟨x.expr.name.toArray⟩, .int .i64 x.expr.val.kind, .int .i64 x.expr.val.int, .bool x.expr.val.bool, .string ⟨x.expr.val.text.toArray⟩, .float .f64 x.expr.val.num] 71)) = w5 at *
      clear q0 q1 q2 q3 q4 q5 q6 q7 q8
      clear c0 c1 c2 c3 m0 m1 m2 m3 m4 m5 m6 m7 m8 m9 m10 m11 m12 hz
      have KX := Lib.hid (show ∀ W : World, Below w5.heap.size w5 W → (W.cell? ⟨wr.heap.size, 0, none⟩ = some (.string ⟨x.field.toArray⟩) ∧ W.cell? ⟨wr.heap.size, 1, none⟩ = some (.int .i64 x.expr.op) ∧ W.cell? ⟨wr.heap.size, 2, none⟩ = some (.slice X x.expr.kids.length y) ∧ W.cell? ⟨wr.heap.size, 3, none⟩ = some (.string ⟨x.expr.name.toArray⟩) ∧ W.cell? ⟨wr.heap.size, 4, none⟩ = some (.int .i64 x.expr.val.kind) ∧ W.cell? ⟨wr.heap.size, 5, none⟩ = some (.int .i64 x.expr.val.int) ∧ W.cell? ⟨wr.heap.size, 6, none⟩ = some (.bool x.expr.val.bool) ∧ W.cell? ⟨wr.heap.size, 7, none⟩ = some (.string ⟨x.expr.val.text.toArray⟩) ∧ W.cell? ⟨wr.heap.size, 8, none⟩ = some (.float .f64 x.expr.val.num)) ∧ wr.heap.size < W.heap.size from fun W hW => ⟨⟨cell_of (LX.bel hW) 0, cell_of (LX.bel hW) 1, cell_of (LX.bel hW) 2, cell_of (LX.bel hW) 3, cell_of (LX.bel hW) 4, cell_of (LX.bel hW) 5, cell_of (LX.bel hW) 6, cell_of (LX.bel hW) 7, cell_of (LX.bel hW) 8⟩, lt_of_heap (LX.bel hW)⟩)
      obtain ⟨⟨c0, c1, c2, c3⟩, ⟨m0, m1, m2, m3, m4, m5, m6, m7, m8, m9, m10, m11, m12⟩, hz⟩ := KK.out w5 (by (focus (repeat (first | with_reducible exact Below.refl _ _ | with_reducible assumption | with_reducible refine bel_al _ ?_ | with_reducible refine bel_dr ?_ | with_reducible refine bel_dn _ ?_ | with_reducible refine bel_tr (by assumption) ?_))))
      obtain ⟨⟨q0, q1, q2, q3, q4, q5, q6, q7, q8⟩, hzx⟩ := KX.out w5 (by (focus (repeat (first | with_reducible exact Below.refl _ _ | with_reducible assumption | with_reducible refine bel_al _ ?_ | with_reducible refine bel_dr ?_ | with_reducible refine bel_dn _ ?_ | with_reducible refine bel_tr (by assumption) ?_))))
      go_wp2_with fail
      clear c0 c1 c2 c3 m0 m1 m2 m3 m4 m5 m6 m7 m8 m9 m10 m11 m12 hz
      clear q0 q1 q2 q3 q4 q5 q6 q7 q8 hzx
      refine (field_c (n := 0) x.field (HF.out _ (by (focus (repeat (first | with_reducible exact Below.refl _ _ | with_reducible assumption | with_reducible refine bel_al _ ?_ | with_reducible refine bel_dr ?_ | with_reducible refine bel_dn _ ?_ | with_reducible refine bel_tr (by assumption) ?_)))))).mono ?_
      rintro x9 w6 ⟨rfl, hb6⟩
      have hlt' := Lib.hid (idx_lt (p := fun e : Fld => e.name == x.field) (l := c.fields))
      have HGE := Lib.hid (show gEff c.fields n x = (decide (0 ≤ idx (fun e => e.name == x.field) c.fields) && isE c.fields n x.expr (kindAt c.fields (idx (fun e => e.name == x.field) c.fields))) from rfl)
      generalize idx (fun e => e.name == x.field) c.fields = ix at *
      by_cases hix : 0 ≤ ix
      · obtain ⟨q, f, rfl, hf, -⟩ := hlt'.out hix
        clear hlt' hix
        have hq : q < c.fields.length := (List.getElem?_eq_some_iff.1 hf).1
        obtain ⟨adF, f', B', d', rfl, hf', -, -, ck, -⟩ := fld_at (HF.out w6 (by (focus (repeat (first | with_reducible exact Below.refl _ _ | with_reducible assumption | with_reducible refine bel_al _ ?_ | with_reducible refine bel_dr ?_ | with_reducible refine bel_dn _ ?_ | with_reducible refine bel_tr (by assumption) ?_))))) hq
        obtain rfl : f' = f := by rw [hf] at hf'; injection hf' with e; exact e.symm
        replace HGE := Lib.hid (show gEff c.fields n x = isE c.fields n x.expr f'.kind by
          rw [HGE.out, decide_eq_true (Int.natCast_nonneg q), Bool.true_and]
          unfold kindAt
          rw [Int.toNat_natCast, hf])
        clear hf hf'
        obtain ⟨⟨c0, c1, c2, c3⟩, ⟨m0, m1, m2, m3, m4, m5, m6, m7, m8, m9, m10, m11, m12⟩, hz⟩ := KK.out w6 (by (focus (repeat (first | with_reducible exact Below.refl _ _ | with_reducible assumption | with_reducible refine bel_al _ ?_ | with_reducible refine bel_dr ?_ | with_reducible refine bel_dn _ ?_ | with_reducible refine bel_tr (by assumption) ?_))))
        obtain ⟨⟨q0, q1, q2, q3, q4, q5, q6, q7, q8⟩, hzx⟩ := KX.out w6 (by (focus (repeat (first | with_reducible exact Below.refl _ _ | with_reducible assumption | with_reducible refine bel_al _ ?_ | with_reducible refine bel_dr ?_ | with_reducible refine bel_dn _ ?_ | with_reducible refine bel_tr (by assumption) ?_))))
        have hq' : (0 : Int) ≤ (q : Int) := by omega
        have hq2 : (q : Int) < (c.fields.length : Int) := by omega
        have hq3 : decide ((q : Int) < 0) = false := decide_eq_false (by omega)
        go_upto_region 9 with (fail)
        have K9 := Lib.hid (show ∀ W : World, Below w6.heap.size w6 W → (W.cell? ⟨wr.heap.size, 1, none⟩ = some (.int .i64 x.expr.op) ∧ W.cell? ⟨wr.heap.size, 2, none⟩ = some (.slice X x.expr.kids.length y) ∧ W.cell? ⟨wr.heap.size, 3, none⟩ = some (.string ⟨x.expr.name.toArray⟩) ∧ W.cell? ⟨wr.heap.size, 4, none⟩ = some (.int .i64 x.expr.val.kind) ∧ W.cell? ⟨wr.heap.size, 5, none⟩ = some (.int .i64 x.expr.val.int) ∧ W.cell? ⟨wr.heap.size, 6, none⟩ = some (.bool x.expr.val.bool) ∧ W.cell? ⟨wr.heap.size, 7, none⟩ = some (.string ⟨x.expr.val.text.toArray⟩) ∧ W.cell? ⟨wr.heap.size, 8, none⟩ = some (.float .f64 x.expr.val.num)) ∧ W.cell? ⟨w.heap.size, 1, none⟩ = some (.slice (some adF) c.fields.length a) ∧ W.cell? ⟨(adF.add (q * 8)).block, (adF.add (q * 8)).off + 1, none⟩ = some (.int .i64 f'.kind) from fun W hW => by
          have h1 := KX.out W (by (focus (repeat (first | with_reducible exact Below.refl _ _ | with_reducible assumption | with_reducible refine bel_al _ ?_ | with_reducible refine bel_dr ?_ | with_reducible refine bel_dn _ ?_ | with_reducible refine bel_tr (by assumption) ?_))))
          have h2 := KK.out W (by (focus (repeat (first | with_reducible exact Below.refl _ _ | with_reducible assumption | with_reducible refine bel_al _ ?_ | with_reducible refine bel_dr ?_ | with_reducible refine bel_dn _ ?_ | with_reducible refine bel_tr (by assumption) ?_))))
          exact ⟨h1.1.2, h2.1.2.1, keepC ck hW⟩)
        clear c0 c1 c2 c3 m0 m1 m2 m3 m4 m5 m6 m7 m8 m9 m10 m11 m12 hz
        clear q0 q1 q2 q3 q4 q5 q6 q7 q8 hzx ck
        go_region_held3 (fun W => (W.cell? ⟨wr.heap.size, 1, none⟩ = some (.int .i64 x.expr.op) ∧ W.cell? ⟨wr.heap.size, 2, none⟩ = some (.slice X x.expr.kids.length y) ∧ W.cell? ⟨wr.heap.size, 3, none⟩ = some (.string ⟨x.expr.name.toArray⟩) ∧ W.cell? ⟨wr.heap.size, 4, none⟩ = some (.int .i64 x.expr.val.kind) ∧ W.cell? ⟨wr.heap.size, 5, none⟩ = some (.int .i64 x.expr.val.int) ∧ W.cell? ⟨wr.heap.size, 6, none⟩ = some (.bool x.expr.val.bool) ∧ W.cell? ⟨wr.heap.size, 7, none⟩ = some (.string ⟨x.expr.val.text.toArray⟩) ∧ W.cell? ⟨wr.heap.size, 8, none⟩ = some (.float .f64 x.expr.val.num)) ∧ W.cell? ⟨w.heap.size, 1, none⟩ = some (.slice (some adF) c.fields.length a) ∧ W.cell? ⟨(adF.add (q * 8)).block, (adF.add (q * 8)).off + 1, none⟩ = some (.int .i64 f'.kind)) (exact K9.out _ (by (focus (repeat (first | with_reducible exact Below.refl _ _ | with_reducible assumption | with_reducible refine bel_al _ ?_ | with_reducible refine bel_dr ?_ | with_reducible refine bel_dn _ ?_ | with_reducible refine bel_tr (by assumption) ?_)))))
          (first | (go_at_call 41; refine (is_c _ (HXE.out _ (by (focus (repeat (first | with_reducible exact Below.refl _ _ | with_reducible assumption | with_reducible refine bel_al _ ?_ | with_reducible refine bel_dr ?_ | with_reducible refine bel_dn _ ?_ | with_reducible refine bel_tr (by assumption) ?_))))) (HF.out _ (by (focus (repeat (first | with_reducible exact Below.refl _ _ | with_reducible assumption | with_reducible refine bel_al _ ?_ | with_reducible refine bel_dr ?_ | with_reducible refine bel_dn _ ?_ | with_reducible refine bel_tr (by assumption) ?_)))))).mono ?_; rintro x9 w7 ⟨rfl, hb7⟩))
        have L7 := Lib.hid (LX.bel (show Below w5.heap.size w5 w7 from (by (focus (repeat (first | with_reducible exact Below.refl _ _ | with_reducible assumption | with_reducible refine bel_al _ ?_ | with_reducible refine bel_dr ?_ | with_reducible refine bel_dn _ ?_ | with_reducible refine bel_tr (by assumption) ?_))))))
        have HO7 := Lib.hid (HO.out.below (w' := w7) (by (focus (repeat (first | with_reducible exact Below.refl _ _ | with_reducible assumption | with_reducible refine bel_al _ ?_ | with_reducible refine bel_dr ?_ | with_reducible refine bel_dn _ ?_ | with_reducible refine bel_tr (by assumption) ?_)))))
        have hb9 : Below w0.heap.size w0 w7 := (by (focus (repeat (first | with_reducible exact Below.refl _ _ | with_reducible assumption | with_reducible refine bel_al _ ?_ | with_reducible refine bel_dr ?_ | with_reducible refine bel_dn _ ?_ | with_reducible refine bel_tr (by assumption) ?_))))
        clear hb7 hb6 hb0 K9 KX HXE HO hb4
        cases hie : isE c.fields n x.expr f'.kind
        · have E1 := Lib.hid (show r = false by
            rw [E.out, show m.effects.all (gEff c.fields n) = false from by
              rw [List.all_eq_false]
              exact ⟨x, List.mem_of_getElem? HX.out, by rw [HGE.out, hie]; simp⟩]; rfl)
          go_wp2_with fail
          go_ret
          rw [E1.out]
          exact ⟨rfl, (by (focus (repeat (first | with_reducible exact Below.refl _ _ | with_reducible assumption | with_reducible refine bel_al _ ?_ | with_reducible refine bel_dr ?_ | with_reducible refine bel_dn _ ?_ | with_reducible refine bel_tr (by assumption) ?_))))⟩
        · have HM := Lib.hid (HGE.out.trans hie)
          have HLX : Loc1 wr.heap.size 71 #[.string ⟨x.field.toArray⟩, .int .i64 x.expr.op, .slice X x.expr.kids.length y, .string ⟨x.expr.name.toArray⟩, .int .i64 x.expr.val.kind, .int .i64 x.expr.val.int, .bool x.expr.val.bool, .string ⟨x.expr.val.text.toArray⟩, .float .f64 x.expr.val.num] w7 := L7.out
          obtain ⟨q0, q1, q2, q3, q4, q5, q6, q7, q8⟩ := cells9 HLX
          have hzx := lt_of_heap HLX
          clear HLX
          have hlen : ((m.effects.take i).map fun x => x.field).length ≤ 4 := by rw [List.length_map, List.length_take]; omega
          go_wp2_with (at_builtin; refine at_append rfl (.tmp 74) (.tmp 77) 33 33 rfl rfl rfl (run_append_clp1 (P := Try.prog) Try.underlying33 Try.underlying33 infoStr rfl (.inr HO7.out) hb9.size x.field (by omega) (by omega)) ?_; rintro v' w' ⟨ho, hb⟩; have HO8 := Lib.hid ho; have hb8 : Below w0.heap.size w0 w' := Below.trans hb9 hb; clear ho hb)
          go_roundw
          case rel => exact ⟨i + 1, by omega, by go_num, by rw [List.take_add_one, HX.out, List.map_append]; exact HO8.out, allI_step (q := fun _ x => gEff c.fields n x) HP.out HX.out HM.out, hb8⟩
          case measure => simp [intOf]; omega
      · have E1 := Lib.hid (show r = false by
          rw [E.out, show m.effects.all (gEff c.fields n) = false from by
            rw [List.all_eq_false]
            exact ⟨x, List.mem_of_getElem? HX.out, by rw [HGE.out, decide_eq_false hix]; simp⟩]; rfl)
        have hix' : decide (ix < 0) = true := decide_eq_true (by omega)
        go_wp2_with fail
        go_quiet ((fail))
        go_wp2_with fail
        go_ret
        rw [E1.out]
        exact ⟨rfl, (by (focus (repeat (first | with_reducible exact Below.refl _ _ | with_reducible assumption | with_reducible refine bel_al _ ?_ | with_reducible refine bel_dr ?_ | with_reducible refine bel_dn _ ?_ | with_reducible refine bel_tr (by assumption) ?_))))⟩
    · have E1 := Lib.hid (show r = apartB (m.effects.map fun x => x.field) by
        rw [E.out, show m.effects.all (gEff c.fields n) = true from by
          rw [List.all_eq_true]
          intro x hx
          obtain ⟨j, hj, rfl⟩ := List.getElem_of_mem hx
          exact HP.out j _ (by omega) (List.getElem?_eq_getElem hj)]; rfl)
      have HO2 := Lib.hid (show Own kStr 9 (fun _ => True) wr w0.heap.size (.slice A6 n6 c6) (m.effects.map fun x => x.field) by
        have h := HO.out; rwa [List.take_of_length_le (by omega)] at h)
      clear HO
      go_wp2_with fail
      refine (apart_c (HO2.out.sl (ok := fun _ => True) (fun _ _ => trivial))).mono ?_
      rintro x9 w6 ⟨rfl, hb6⟩
      go_wp2_with fail
      go_ret
      rw [E1.out]
      exact ⟨rfl, (by (focus (repeat (first | with_reducible exact Below.refl _ _ | with_reducible assumption | with_reducible refine bel_al _ ?_ | with_reducible refine bel_dr ?_ | with_reducible refine bel_dn _ ?_ | with_reducible refine bel_tr (by assumption) ?_))))⟩
end
end Go.Proofs.Ytjnhgfmjehaalaa
