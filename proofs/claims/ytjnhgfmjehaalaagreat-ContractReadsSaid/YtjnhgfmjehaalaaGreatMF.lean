/- Texts that go together. -/
import Derived.Test.YtjnhgfmjehaalaaGreatC4
/- Chapter 6: moves that may be; contracts checked. -/
namespace Go.Proofs.YtjnhgfmjehaalaaGreat
open Go.RowKit
set_option linter.unusedVariables false
set_option linter.unusedSimpArgs false
section
variable {w : World}
theorem field_c {ok : Nat → Prop} {A B D : Option Addr} {a b d : Nat} {c : Con} {n : Nat} (name : List UInt8) (h : Sl kFld ok w (.slice A c.fields.length a) c.fields) : Calls Tryz.prog 16 #[.agg #[.string ⟨c.name.toArray⟩, .slice A c.fields.length a, .slice B c.stages.length b, .slice D c.moves.length d], .string ⟨name.toArray⟩] w (Ret w (.int .i64 (idx (fun e => e.name == name) c.fields))) := by
 have HS := hidS h
 clear h
 have hL := Loc1.new w 26 #[.string ⟨c.name.toArray⟩, .slice A c.fields.length a, .slice B c.stages.length b, .slice D c.moves.length d]
 obtain ⟨c0, c1, c2, c3⟩ := cells4 hL
 clear hL
 go_enter Tryz.func16, Tryz.ntmps16
 go_wp2_with fail
 refine (fndf_c (m := n) name (HS.out _ bW)).mono ?_
 rintro x9 w1 ⟨rfl, hb1⟩
 go_wp2_with fail
 go_ret
 exact ⟨rfl, bW⟩
theorem stage_c {ok : Nat → Prop} {A B D : Option Addr} {a b d : Nat} {c : Con} {n : Nat} (name : List UInt8) (h : Sl kStg ok w (.slice B c.stages.length b) c.stages) : Calls Tryz.prog 44 #[.agg #[.string ⟨c.name.toArray⟩, .slice A c.fields.length a, .slice B c.stages.length b, .slice D c.moves.length d], .string ⟨name.toArray⟩] w (Ret w (.int .i64 (idx (fun e => e.name == name) c.stages))) := by
 have HS := hidS h
 clear h
 have hL := Loc1.new w 26 #[.string ⟨c.name.toArray⟩, .slice A c.fields.length a, .slice B c.stages.length b, .slice D c.moves.length d]
 obtain ⟨c0, c1, c2, c3⟩ := cells4 hL
 clear hL
 go_enter Tryz.func44, Tryz.ntmps44
 go_wp2_with fail
 refine (fndg_c (m := n) name (HS.out _ bW)).mono ?_
 rintro x9 w1 ⟨rfl, hb1⟩
 go_wp2_with fail
 go_ret
 exact ⟨rfl, bW⟩
/-- is there such a stage? -/
def thereB (n : Nat) (i : Int) : Bool := decide (0 ≤ i) && decide (i < (n : Int))
theorem there_c {A B D : Option Addr} {a b d : Nat} {c : Con} (i : Int) {N : Nat} {t : TypeId} (hN : Loc1 N t #[.string ⟨c.name.toArray⟩, .slice A c.fields.length a, .slice B c.stages.length b, .slice D c.moves.length d] w) : Calls Tryz.prog 96 #[.int .i64 i, .pointer (some ⟨N, 0, none⟩)] w (Ret w (.bool (thereB c.stages.length i))) := by
 have E := Lib.hid (show thereB c.stages.length i = (decide (0 ≤ i) && decide (i < (c.stages.length : Int))) from rfl)
 generalize thereB c.stages.length i = r at *
 obtain ⟨c0, c1, c2, c3⟩ := cells4 hN
 have hz := lt_of_heap hN
 clear hN
 go_enter Tryz.func96, Tryz.ntmps96
 go_wp2_with fail
 all_goals
  go_ret
  rw [E.out]
  exact ⟨by first | (simp [*]; done) | (simp [*]; omega) | (simp_all; done) | (simp_all; omega) | (simp [*]; intros; (repeat' split) <;> (first | omega | (simp_all; done) | (simp_all; omega))), bW⟩
theorem keepC {w W : World} {a : Addr} {v : Value} (h : w.cell? a = some v) (hW : Below w.heap.size w W) : W.cell? a = some v := (hW.cell (cell_lt h)).trans h
def kindAt (fl : List Fld) (i : Int) : Int := match fl[i.toNat]? with | some f => f.kind | none => 0
/-- an effect that may be -/
def gEff (fl : List Fld) (n : Nat) (x : Eff) : Bool := decide (0 ≤ idx (fun e => e.name == x.field) fl) && isE fl n x.expr (kindAt fl (idx (fun e => e.name == x.field) fl))
def gHead (c : Con) (n : Nat) (m : Mov) : Bool := thereB c.stages.length m.frm && thereB c.stages.length m.tgt && decide (-1 ≤ m.org) && decide (m.org < 4) && decide (m.effects.length ≤ 4) && isE c.fields n m.guard 2
/-- a move that may be -/
def gMove (c : Con) (n : Nat) (m : Mov) : Bool := gHead c n m && (m.effects.all (gEff c.fields n) && apartB (m.effects.map fun x => x.field))
theorem infoStr : (Tryz.prog.info? 9).map (fun i => (i.zero, i.size, i.bytes)) = some (some (.string ⟨#[]⟩), 1, 16) := by kernel_rfl
set_option maxRecDepth 20000 in
set_option maxHeartbeats 4000000 in
theorem gmove_c {A B D : Option Addr} {a b d : Nat} {c : Con} {n : Nat} (m : Mov) {k : Nat} {M P : Option Addr} {u p : Nat} (hn : n = k + 1) (h1 : Sl kFld (fun _ => True) w (.slice A c.fields.length a) c.fields)
 (hg : Sl (kExp k) (fun _ => True) w (.slice M m.guard.kids.length u) m.guard.kids) (he : Sl (kEff n) (fun _ => True) w (.slice P m.effects.length p) m.effects) :
 Calls Tryz.prog 46 #[.agg #[.string ⟨c.name.toArray⟩, .slice A c.fields.length a, .slice B c.stages.length b, .slice D c.moves.length d], .agg #[.string ⟨m.name.toArray⟩, .int .i64 m.frm, .int .i64 m.tgt, .int .i64 m.guard.op, .slice M m.guard.kids.length u, .string ⟨m.guard.name.toArray⟩, .int .i64 m.guard.val.kind, .int .i64 m.guard.val.int, .bool m.guard.val.bool, .string ⟨m.guard.val.text.toArray⟩, .float .f64 m.guard.val.num, .slice P m.effects.length p, .int .i64 m.org]] w (Ret w (.bool (gMove c n m))) := by
 have SF := store_f64
 have HF := hidS h1
 have HG := Lib.hid (show ∀ W : World, Below w.heap.size w W → (kExp n).R (fun _ => True) W [.int .i64 m.guard.op, .slice M m.guard.kids.length u, .string ⟨m.guard.name.toArray⟩, .int .i64 m.guard.val.kind, .int .i64 m.guard.val.int, .bool m.guard.val.bool, .string ⟨m.guard.val.text.toArray⟩, .float .f64 m.guard.val.num] m.guard from fun W hW => by rw [hn]; exact exp_mk (hg.below hW))
 have HE := hidS he
 have E := Lib.hid (show gMove c n m = (gHead c n m && (m.effects.all (gEff c.fields n) && apartB (m.effects.map fun x => x.field))) from rfl)
 have EH := Lib.hid (show gHead c n m = (thereB c.stages.length m.frm && thereB c.stages.length m.tgt && decide (-1 ≤ m.org) && decide (m.org < 4) && decide (m.effects.length ≤ 4) && isE c.fields n m.guard 2) from rfl)
 have hmf : ∀ (fn : Fn) (first cap : Array Value) (w : World), (Instr.makeFunc fn first cap).run Tryz.prog w = .ok (.func fn first cap) w := fun _ _ _ _ => rfl
 have hmax := he.len.2.2.1
 have hnc := he.len.2.1
 have hma := h1.len.2.2.1
 have hna := h1.len.2.1
 have B0 : Below w.heap.size w ((w.alloc (.cells #[.string ⟨c.name.toArray⟩, .slice A c.fields.length a, .slice B c.stages.length b, .slice D c.moves.length d] 26)).alloc (.cells #[.string ⟨m.name.toArray⟩, .int .i64 m.frm, .int .i64 m.tgt, .int .i64 m.guard.op, .slice M m.guard.kids.length u, .string ⟨m.guard.name.toArray⟩, .int .i64 m.guard.val.kind, .int .i64 m.guard.val.int, .bool m.guard.val.bool, .string ⟨m.guard.val.text.toArray⟩, .float .f64 m.guard.val.num, .slice P m.effects.length p, .int .i64 m.org] 47)) := bW
 have KK := Lib.hid (show ∀ W : World, Below ((w.alloc (.cells #[.string ⟨c.name.toArray⟩, .slice A c.fields.length a, .slice B c.stages.length b, .slice D c.moves.length d] 26)).alloc (.cells #[.string ⟨m.name.toArray⟩, .int .i64 m.frm, .int .i64 m.tgt, .int .i64 m.guard.op, .slice M m.guard.kids.length u, .string ⟨m.guard.name.toArray⟩, .int .i64 m.guard.val.kind, .int .i64 m.guard.val.int, .bool m.guard.val.bool, .string ⟨m.guard.val.text.toArray⟩, .float .f64 m.guard.val.num, .slice P m.effects.length p, .int .i64 m.org] 47)).heap.size ((w.alloc (.cells #[.string ⟨c.name.toArray⟩, .slice A c.fields.length a, .slice B c.stages.length b, .slice D c.moves.length d] 26)).alloc (.cells #[.string ⟨m.name.toArray⟩, .int .i64 m.frm, .int .i64 m.tgt, .int .i64 m.guard.op, .slice M m.guard.kids.length u, .string ⟨m.guard.name.toArray⟩, .int .i64 m.guard.val.kind, .int .i64 m.guard.val.int, .bool m.guard.val.bool, .string ⟨m.guard.val.text.toArray⟩, .float .f64 m.guard.val.num, .slice P m.effects.length p, .int .i64 m.org] 47)) W → (W.cell? ⟨w.heap.size, 0, none⟩ = some (.string ⟨c.name.toArray⟩) ∧ W.cell? ⟨w.heap.size, 1, none⟩ = some (.slice A c.fields.length a) ∧ W.cell? ⟨w.heap.size, 2, none⟩ = some (.slice B c.stages.length b) ∧ W.cell? ⟨w.heap.size, 3, none⟩ = some (.slice D c.moves.length d)) ∧ (W.cell? ⟨w.heap.size + 1, 0, none⟩ = some (.string ⟨m.name.toArray⟩) ∧ W.cell? ⟨w.heap.size + 1, 1, none⟩ = some (.int .i64 m.frm) ∧ W.cell? ⟨w.heap.size + 1, 2, none⟩ = some (.int .i64 m.tgt) ∧ W.cell? ⟨w.heap.size + 1, 3, none⟩ = some (.int .i64 m.guard.op) ∧ W.cell? ⟨w.heap.size + 1, 4, none⟩ = some (.slice M m.guard.kids.length u) ∧ W.cell? ⟨w.heap.size + 1, 5, none⟩ = some (.string ⟨m.guard.name.toArray⟩) ∧ W.cell? ⟨w.heap.size + 1, 6, none⟩ = some (.int .i64 m.guard.val.kind) ∧ W.cell? ⟨w.heap.size + 1, 7, none⟩ = some (.int .i64 m.guard.val.int) ∧ W.cell? ⟨w.heap.size + 1, 8, none⟩ = some (.bool m.guard.val.bool) ∧ W.cell? ⟨w.heap.size + 1, 9, none⟩ = some (.string ⟨m.guard.val.text.toArray⟩) ∧ W.cell? ⟨w.heap.size + 1, 10, none⟩ = some (.float .f64 m.guard.val.num) ∧ W.cell? ⟨w.heap.size + 1, 11, none⟩ = some (.slice P m.effects.length p) ∧ W.cell? ⟨w.heap.size + 1, 12, none⟩ = some (.int .i64 m.org)) ∧ w.heap.size + 1 < W.heap.size from fun W hW => by
  have h1 : Loc1 w.heap.size 26 #[.string ⟨c.name.toArray⟩, .slice A c.fields.length a, .slice B c.stages.length b, .slice D c.moves.length d] ((w.alloc (.cells #[.string ⟨c.name.toArray⟩, .slice A c.fields.length a, .slice B c.stages.length b, .slice D c.moves.length d] 26)).alloc (.cells #[.string ⟨m.name.toArray⟩, .int .i64 m.frm, .int .i64 m.tgt, .int .i64 m.guard.op, .slice M m.guard.kids.length u, .string ⟨m.guard.name.toArray⟩, .int .i64 m.guard.val.kind, .int .i64 m.guard.val.int, .bool m.guard.val.bool, .string ⟨m.guard.val.text.toArray⟩, .float .f64 m.guard.val.num, .slice P m.effects.length p, .int .i64 m.org] 47)) := (by (focus (repeat (first | with_reducible assumption | exact Loc1.newE _ _ _ (by simp) | with_reducible refine Loc1.al _ ?_ | with_reducible refine Loc1.dr ?_ | with_reducible refine Loc1.bel (by assumption) ?_))))
  have h2 : Loc1 (w.heap.size + 1) 47 #[.string ⟨m.name.toArray⟩, .int .i64 m.frm, .int .i64 m.tgt, .int .i64 m.guard.op, .slice M m.guard.kids.length u, .string ⟨m.guard.name.toArray⟩, .int .i64 m.guard.val.kind, .int .i64 m.guard.val.int, .bool m.guard.val.bool, .string ⟨m.guard.val.text.toArray⟩, .float .f64 m.guard.val.num, .slice P m.effects.length p, .int .i64 m.org] ((w.alloc (.cells #[.string ⟨c.name.toArray⟩, .slice A c.fields.length a, .slice B c.stages.length b, .slice D c.moves.length d] 26)).alloc (.cells #[.string ⟨m.name.toArray⟩, .int .i64 m.frm, .int .i64 m.tgt, .int .i64 m.guard.op, .slice M m.guard.kids.length u, .string ⟨m.guard.name.toArray⟩, .int .i64 m.guard.val.kind, .int .i64 m.guard.val.int, .bool m.guard.val.bool, .string ⟨m.guard.val.text.toArray⟩, .float .f64 m.guard.val.num, .slice P m.effects.length p, .int .i64 m.org] 47)) := (by (focus (repeat (first | with_reducible assumption | exact Loc1.newE _ _ _ (by simp) | with_reducible refine Loc1.al _ ?_ | with_reducible refine Loc1.dr ?_ | with_reducible refine Loc1.bel (by assumption) ?_))))
  exact ⟨⟨cell_of (h1.bel hW) 0, cell_of (h1.bel hW) 1, cell_of (h1.bel hW) 2, cell_of (h1.bel hW) 3⟩, ⟨cell_of (h2.bel hW) 0, cell_of (h2.bel hW) 1, cell_of (h2.bel hW) 2, cell_of (h2.bel hW) 3, cell_of (h2.bel hW) 4, cell_of (h2.bel hW) 5, cell_of (h2.bel hW) 6, cell_of (h2.bel hW) 7, cell_of (h2.bel hW) 8, cell_of (h2.bel hW) 9, cell_of (h2.bel hW) 10, cell_of (h2.bel hW) 11, cell_of (h2.bel hW) 12⟩, lt_of_heap (h2.bel hW)⟩)
 have KC := Lib.hid (show ∀ W : World, Below ((w.alloc (.cells #[.string ⟨c.name.toArray⟩, .slice A c.fields.length a, .slice B c.stages.length b, .slice D c.moves.length d] 26)).alloc (.cells #[.string ⟨m.name.toArray⟩, .int .i64 m.frm, .int .i64 m.tgt, .int .i64 m.guard.op, .slice M m.guard.kids.length u, .string ⟨m.guard.name.toArray⟩, .int .i64 m.guard.val.kind, .int .i64 m.guard.val.int, .bool m.guard.val.bool, .string ⟨m.guard.val.text.toArray⟩, .float .f64 m.guard.val.num, .slice P m.effects.length p, .int .i64 m.org] 47)).heap.size ((w.alloc (.cells #[.string ⟨c.name.toArray⟩, .slice A c.fields.length a, .slice B c.stages.length b, .slice D c.moves.length d] 26)).alloc (.cells #[.string ⟨m.name.toArray⟩, .int .i64 m.frm, .int .i64 m.tgt, .int .i64 m.guard.op, .slice M m.guard.kids.length u, .string ⟨m.guard.name.toArray⟩, .int .i64 m.guard.val.kind, .int .i64 m.guard.val.int, .bool m.guard.val.bool, .string ⟨m.guard.val.text.toArray⟩, .float .f64 m.guard.val.num, .slice P m.effects.length p, .int .i64 m.org] 47)) W → Loc1 w.heap.size 26 #[.string ⟨c.name.toArray⟩, .slice A c.fields.length a, .slice B c.stages.length b, .slice D c.moves.length d] W from fun W hW => by
  have h1 : Loc1 w.heap.size 26 #[.string ⟨c.name.toArray⟩, .slice A c.fields.length a, .slice B c.stages.length b, .slice D c.moves.length d] ((w.alloc (.cells #[.string ⟨c.name.toArray⟩, .slice A c.fields.length a, .slice B c.stages.length b, .slice D c.moves.length d] 26)).alloc (.cells #[.string ⟨m.name.toArray⟩, .int .i64 m.frm, .int .i64 m.tgt, .int .i64 m.guard.op, .slice M m.guard.kids.length u, .string ⟨m.guard.name.toArray⟩, .int .i64 m.guard.val.kind, .int .i64 m.guard.val.int, .bool m.guard.val.bool, .string ⟨m.guard.val.text.toArray⟩, .float .f64 m.guard.val.num, .slice P m.effects.length p, .int .i64 m.org] 47)) := (by (focus (repeat (first | with_reducible assumption | exact Loc1.newE _ _ _ (by simp) | with_reducible refine Loc1.al _ ?_ | with_reducible refine Loc1.dr ?_ | with_reducible refine Loc1.bel (by assumption) ?_))))
  exact h1.bel hW)
 generalize gMove c n m = r at *
 clear h1 hg he hn
 cases hH : gHead c n m
 ·have E1 := Lib.hid (show r = false by rw [E.out, hH]; rfl)
  rw [hH] at EH
  clear hH
  go_enter Tryz.func46, Tryz.ntmps46
  go_wp2_with (first
   | (go_at_call 96; refine (there_c _ (KC.out _ bW)).mono ?_; rintro x9 wz ⟨rfl, hb⟩; obtain ⟨⟨c0, c1, c2, c3⟩, ⟨m0, m1, m2, m3, m4, m5, m6, m7, m8, m9, m10, m11, m12⟩, hz⟩ := KK.out wz bW)
   | (go_at_call 97; refine (is_c 2 (HG.out _ bW) (HF.out _ bW)).mono ?_; rintro x9 wz ⟨rfl, hb⟩; obtain ⟨⟨c0, c1, c2, c3⟩, ⟨m0, m1, m2, m3, m4, m5, m6, m7, m8, m9, m10, m11, m12⟩, hz⟩ := KK.out wz bW))
  all_goals first
   | (go_ret; rw [E1.out]; exact ⟨rfl, bW⟩)
   | (exfalso; have h9 := EH.out; simp [*] at h9; done)
   | (exfalso; have h9 := EH.out; clear KK KC HF HG HE; simp_all; omega)
 have h1 : thereB c.stages.length m.frm = true := by rw [EH.out] at hH; simp only [Bool.and_eq_true] at hH; exact hH.1.1.1.1.1
 have h2 : thereB c.stages.length m.tgt = true := by rw [EH.out] at hH; simp only [Bool.and_eq_true] at hH; exact hH.1.1.1.1.2
 have h3 : -1 ≤ m.org := by rw [EH.out] at hH; simp only [Bool.and_eq_true, decide_eq_true_eq] at hH; exact hH.1.1.1.2
 have h4 : m.org < 4 := by rw [EH.out] at hH; simp only [Bool.and_eq_true, decide_eq_true_eq] at hH; exact hH.1.1.2
 have h5 : (m.effects.length : Int) ≤ 4 := by rw [EH.out] at hH; simp only [Bool.and_eq_true, decide_eq_true_eq] at hH; have := hH.1.2; omega
 have h6 : isE c.fields n m.guard 2 = true := by rw [EH.out] at hH; simp only [Bool.and_eq_true] at hH; exact hH.2
 replace E := Lib.hid (show r = (m.effects.all (gEff c.fields n) && apartB (m.effects.map fun x => x.field)) by rw [E.out, hH]; rfl)
 clear hH EH
 go_enter Tryz.func46, Tryz.ntmps46
 go_wp2_with fail
 generalize ((w.alloc (.cells #[.string ⟨c.name.toArray⟩, .slice A c.fields.length a, .slice B c.stages.length b, .slice D c.moves.length d] 26)).alloc (.cells #[.string ⟨m.name.toArray⟩, .int .i64 m.frm, .int .i64 m.tgt, .int .i64 m.guard.op, .slice M m.guard.kids.length u, .string ⟨m.guard.name.toArray⟩, .int .i64 m.guard.val.kind, .int .i64 m.guard.val.int, .bool m.guard.val.bool, .string ⟨m.guard.val.text.toArray⟩, .float .f64 m.guard.val.num, .slice P m.effects.length p, .int .i64 m.org] 47)) = w0 at *
 obtain ⟨⟨c0, c1, c2, c3⟩, ⟨m0, m1, m2, m3, m4, m5, m6, m7, m8, m9, m10, m11, m12⟩, hz⟩ := KK.out w0 bW
 go_wp2_with fail
 refine (there_c _ (KC.out _ bW)).mono ?_
 rintro x9 w1 ⟨rfl, hb1⟩
 clear c0 c1 c2 c3 m0 m1 m2 m3 m4 m5 m6 m7 m8 m9 m10 m11 m12 hz
 obtain ⟨⟨c0, c1, c2, c3⟩, ⟨m0, m1, m2, m3, m4, m5, m6, m7, m8, m9, m10, m11, m12⟩, hz⟩ := KK.out w1 bW
 go_wp2_with fail
 refine (there_c _ (KC.out _ bW)).mono ?_
 rintro x9 w2 ⟨rfl, hb2⟩
 clear c0 c1 c2 c3 m0 m1 m2 m3 m4 m5 m6 m7 m8 m9 m10 m11 m12 hz
 obtain ⟨⟨c0, c1, c2, c3⟩, ⟨m0, m1, m2, m3, m4, m5, m6, m7, m8, m9, m10, m11, m12⟩, hz⟩ := KK.out w2 bW
 go_wp2_with fail
 refine (is_c 2 (HG.out _ bW) (HF.out _ bW)).mono ?_
 rintro x9 w3 ⟨rfl, hb3⟩
 clear c0 c1 c2 c3 m0 m1 m2 m3 m4 m5 m6 m7 m8 m9 m10 m11 m12 hz
 obtain ⟨⟨c0, c1, c2, c3⟩, ⟨m0, m1, m2, m3, m4, m5, m6, m7, m8, m9, m10, m11, m12⟩, hz⟩ := KK.out w3 bW
 have hb4 : Below w0.heap.size w0 w3 := bW
 clear hb1 hb2 hb3
 go_wp2_with fail
 clear h1 h2 h3 h4 h6
 clear c0 c1 c2 c3 m0 m1 m2 m3 m4 m5 m6 m7 m8 m9 m10 m11 m12 hz
 go_loopw [50, 6] (fun v50 v6 wr => ∃ k : Nat, k ≤ m.effects.length ∧ v50 = .int .i64 k ∧ Own kStr 9 (fun _ => True) wr w0.heap.size v6 ((m.effects.take k).map fun x => x.field) ∧ (∀ j x, j < k → m.effects[j]? = some x → (fun (_ : Nat) x => gEff c.fields n x) j x = true) ∧ Below w0.heap.size w0 wr) (fun v50 _ _ => m.effects.length - (intOf v50).toNat)
 case atStart => exact ⟨0, Nat.zero_le _, rfl, Own.nil _ _ _ _ _, allI_nil, hb4⟩
 case round =>
  clear hb4
  obtain ⟨i, hi, rfl, ho, hp, hb4⟩ := hrel
  have HP := Lib.hid hp
  have HO := Lib.hid ho
  obtain ⟨A6, n6, c6, rfl, -⟩ := ho.form'
  clear hp ho
  by_cases hlt : i < m.effects.length
  ·obtain ⟨ad, x, k', X, y, rfl, hx, hk', hsx, q0, q1, q2, q3, q4, q5, q6, q7, q8⟩ := eff_at (HE.out wr bW) hlt
   have HX := Lib.hid hx
   have HXE := Lib.hid (show ∀ W : World, Below wr.heap.size wr W → (kExp n).R (fun _ => True) W [.int .i64 x.expr.op, .slice X x.expr.kids.length y, .string ⟨x.expr.name.toArray⟩, .int .i64 x.expr.val.kind, .int .i64 x.expr.val.int, .bool x.expr.val.bool, .string ⟨x.expr.val.text.toArray⟩, .float .f64 x.expr.val.num] x.expr from fun W hW => by rw [hk']; exact exp_mk (hsx.below hW))
   clear hx hk' hsx
   obtain ⟨⟨c0, c1, c2, c3⟩, ⟨m0, m1, m2, m3, m4, m5, m6, m7, m8, m9, m10, m11, m12⟩, hz⟩ := KK.out wr bW
   go_upto_region 8 with (fail)
   have LX := Loc1.new wr 51 #[.string ⟨x.field.toArray⟩, .int .i64 x.expr.op, .slice X x.expr.kids.length y, .string ⟨x.expr.name.toArray⟩, .int .i64 x.expr.val.kind, .int .i64 x.expr.val.int, .bool x.expr.val.bool, .string ⟨x.expr.val.text.toArray⟩, .float .f64 x.expr.val.num]
   have hb0 : Below wr.heap.size wr (wr.alloc (.cells #[.string ⟨x.field.toArray⟩, .int .i64 x.expr.op, .slice X x.expr.kids.length y, .string ⟨x.expr.name.toArray⟩, .int .i64 x.expr.val.kind, .int .i64 x.expr.val.int, .bool x.expr.val.bool, .string ⟨x.expr.val.text.toArray⟩, .float .f64 x.expr.val.num] 51)) := bW
   generalize (wr.alloc (.cells #[.string ⟨x.field.toArray⟩, .int .i64 x.expr.op, .slice X x.expr.kids.length y, .string ⟨x.expr.name.toArray⟩, .int .i64 x.expr.val.kind, .int .i64 x.expr.val.int, .bool x.expr.val.bool, .string ⟨x.expr.val.text.toArray⟩, .float .f64 x.expr.val.num] 51)) = w5 at *
   clear q0 q1 q2 q3 q4 q5 q6 q7 q8
   clear c0 c1 c2 c3 m0 m1 m2 m3 m4 m5 m6 m7 m8 m9 m10 m11 m12 hz
   have KX := kk9 LX
   obtain ⟨⟨c0, c1, c2, c3⟩, ⟨m0, m1, m2, m3, m4, m5, m6, m7, m8, m9, m10, m11, m12⟩, hz⟩ := KK.out w5 bW
   obtain ⟨⟨q0, q1, q2, q3, q4, q5, q6, q7, q8⟩, hzx⟩ := KX.out w5 bW
   go_wp2_with fail
   clear c0 c1 c2 c3 m0 m1 m2 m3 m4 m5 m6 m7 m8 m9 m10 m11 m12 hz
   clear q0 q1 q2 q3 q4 q5 q6 q7 q8 hzx
   refine (field_c (n := 0) x.field (HF.out _ bW)).mono ?_
   rintro x9 w6 ⟨rfl, hb6⟩
   have hlt' := Lib.hid (idx_lt (p := fun e : Fld => e.name == x.field) (l := c.fields))
   have HGE := Lib.hid (show gEff c.fields n x = (decide (0 ≤ idx (fun e => e.name == x.field) c.fields) && isE c.fields n x.expr (kindAt c.fields (idx (fun e => e.name == x.field) c.fields))) from rfl)
   generalize idx (fun e => e.name == x.field) c.fields = ix at *
   by_cases hix : 0 ≤ ix
   ·obtain ⟨q, f, rfl, hf, -⟩ := hlt'.out hix
    clear hlt' hix
    have hq : q < c.fields.length := (List.getElem?_eq_some_iff.1 hf).1
    obtain ⟨adF, f', B', d', rfl, hf', -, -, ck, -⟩ := fld_at (HF.out w6 bW) hq
    obtain rfl : f' = f := by rw [hf] at hf'; injection hf' with e; exact e.symm
    replace HGE := Lib.hid (show gEff c.fields n x = isE c.fields n x.expr f'.kind by
     rw [HGE.out, decide_eq_true (Int.natCast_nonneg q), Bool.true_and]
     unfold kindAt
     rw [Int.toNat_natCast, hf])
    clear hf hf'
    obtain ⟨⟨c0, c1, c2, c3⟩, ⟨m0, m1, m2, m3, m4, m5, m6, m7, m8, m9, m10, m11, m12⟩, hz⟩ := KK.out w6 bW
    obtain ⟨⟨q0, q1, q2, q3, q4, q5, q6, q7, q8⟩, hzx⟩ := KX.out w6 bW
    have hq' : (0 : Int) ≤ (q : Int) := by omega
    have hq2 : (q : Int) < (c.fields.length : Int) := by omega
    have hq3 : decide ((q : Int) < 0) = false := decide_eq_false (by omega)
    go_upto_region 9 with (fail)
    have K9 := Lib.hid (show ∀ W : World, Below w6.heap.size w6 W → (W.cell? ⟨wr.heap.size, 1, none⟩ = some (.int .i64 x.expr.op) ∧ W.cell? ⟨wr.heap.size, 2, none⟩ = some (.slice X x.expr.kids.length y) ∧ W.cell? ⟨wr.heap.size, 3, none⟩ = some (.string ⟨x.expr.name.toArray⟩) ∧ W.cell? ⟨wr.heap.size, 4, none⟩ = some (.int .i64 x.expr.val.kind) ∧ W.cell? ⟨wr.heap.size, 5, none⟩ = some (.int .i64 x.expr.val.int) ∧ W.cell? ⟨wr.heap.size, 6, none⟩ = some (.bool x.expr.val.bool) ∧ W.cell? ⟨wr.heap.size, 7, none⟩ = some (.string ⟨x.expr.val.text.toArray⟩) ∧ W.cell? ⟨wr.heap.size, 8, none⟩ = some (.float .f64 x.expr.val.num)) ∧ W.cell? ⟨w.heap.size, 1, none⟩ = some (.slice (some adF) c.fields.length a) ∧ W.cell? ⟨(adF.add (q * 8)).block, (adF.add (q * 8)).off + 1, none⟩ = some (.int .i64 f'.kind) from fun W hW => by
     have h1 := KX.out W bW
     have h2 := KK.out W bW
     exact ⟨h1.1.2, h2.1.2.1, keepC ck hW⟩)
    clear c0 c1 c2 c3 m0 m1 m2 m3 m4 m5 m6 m7 m8 m9 m10 m11 m12 hz
    clear q0 q1 q2 q3 q4 q5 q6 q7 q8 hzx ck
    go_region_held3 (fun W => (W.cell? ⟨wr.heap.size, 1, none⟩ = some (.int .i64 x.expr.op) ∧ W.cell? ⟨wr.heap.size, 2, none⟩ = some (.slice X x.expr.kids.length y) ∧ W.cell? ⟨wr.heap.size, 3, none⟩ = some (.string ⟨x.expr.name.toArray⟩) ∧ W.cell? ⟨wr.heap.size, 4, none⟩ = some (.int .i64 x.expr.val.kind) ∧ W.cell? ⟨wr.heap.size, 5, none⟩ = some (.int .i64 x.expr.val.int) ∧ W.cell? ⟨wr.heap.size, 6, none⟩ = some (.bool x.expr.val.bool) ∧ W.cell? ⟨wr.heap.size, 7, none⟩ = some (.string ⟨x.expr.val.text.toArray⟩) ∧ W.cell? ⟨wr.heap.size, 8, none⟩ = some (.float .f64 x.expr.val.num)) ∧ W.cell? ⟨w.heap.size, 1, none⟩ = some (.slice (some adF) c.fields.length a) ∧ W.cell? ⟨(adF.add (q * 8)).block, (adF.add (q * 8)).off + 1, none⟩ = some (.int .i64 f'.kind)) (exact K9.out _ bW)
     (first | (go_at_call 97; refine (is_c _ (HXE.out _ bW) (HF.out _ bW)).mono ?_; rintro x9 w7 ⟨rfl, hb7⟩))
    have L7 := Lib.hid (LX.bel (show Below w5.heap.size w5 w7 from bW))
    have HO7 := Lib.hid (HO.out.below (w' := w7) bW)
    have hb9 : Below w0.heap.size w0 w7 := bW
    clear hb7 hb6 hb0 K9 KX HXE HO hb4
    cases hie : isE c.fields n x.expr f'.kind
    ·have E1 := Lib.hid (show r = false by
      rw [E.out, show m.effects.all (gEff c.fields n) = false from by
       rw [List.all_eq_false]
       exact ⟨x, List.mem_of_getElem? HX.out, by rw [HGE.out, hie]; simp⟩]; rfl)
     go_wp2_with fail
     go_ret
     rw [E1.out]
     exact ⟨rfl, bW⟩
    ·have HM := Lib.hid (HGE.out.trans hie)
     have HLX : Loc1 wr.heap.size 51 #[.string ⟨x.field.toArray⟩, .int .i64 x.expr.op, .slice X x.expr.kids.length y, .string ⟨x.expr.name.toArray⟩, .int .i64 x.expr.val.kind, .int .i64 x.expr.val.int, .bool x.expr.val.bool, .string ⟨x.expr.val.text.toArray⟩, .float .f64 x.expr.val.num] w7 := L7.out
     obtain ⟨q0, q1, q2, q3, q4, q5, q6, q7, q8⟩ := cells9 HLX
     have hzx := lt_of_heap HLX
     clear HLX
     have hlen : ((m.effects.take i).map fun x => x.field).length ≤ 4 := by rw [List.length_map, List.length_take]; omega
     go_wp2_with (at_builtin; refine at_append rfl (.tmp 74) (.tmp 77) 36 36 rfl rfl rfl (run_append_clp1 (P := Tryz.prog) Tryz.underlying36 Tryz.underlying36 infoStr rfl (.inr HO7.out) hb9.size x.field (by omega) (by omega)) ?_; rintro v' w' ⟨ho, hb⟩; have HO8 := Lib.hid ho; have hb8 : Below w0.heap.size w0 w' := Below.trans hb9 hb; clear ho hb)
     go_roundw
     case rel => exact ⟨i + 1, by omega, by go_num, by rw [List.take_add_one, HX.out, List.map_append]; exact HO8.out, allI_step (q := fun _ x => gEff c.fields n x) HP.out HX.out HM.out, hb8⟩
     case measure => simp [intOf]; omega
   ·have E1 := Lib.hid (show r = false by
     rw [E.out, show m.effects.all (gEff c.fields n) = false from by
      rw [List.all_eq_false]
      exact ⟨x, List.mem_of_getElem? HX.out, by rw [HGE.out, decide_eq_false hix]; simp⟩]; rfl)
    have hix' : decide (ix < 0) = true := decide_eq_true (by omega)
    go_wp2_with fail
    go_quiet ((fail))
    go_wp2_with fail
    go_ret
    rw [E1.out]
    exact ⟨rfl, bW⟩
  ·have E1 := Lib.hid (show r = apartB (m.effects.map fun x => x.field) by
    rw [E.out, show m.effects.all (gEff c.fields n) = true from by
     rw [List.all_eq_true]
     intro x hx
     obtain ⟨j, hj, rfl⟩ := List.getElem_of_mem hx
     exact HP.out j _ (by omega) (List.getElem?_eq_getElem hj)]; rfl)
   have HO2 := Lib.hid (show Own kStr 9 (fun _ => True) wr w0.heap.size (.slice A6 n6 c6) (m.effects.map fun x => x.field) by
    have h := HO.out; rwa [List.take_of_length_le (by omega)] at h)
   clear HO
   go_wp2_with fail
   refine (apart_c (HO2.out.sl (ok := fun _ => True) (fun _ _ => trivial))).mono ?_
   rintro x9 w6 ⟨rfl, hb6⟩
   go_wp2_with fail
   go_ret
   rw [E1.out]
   exact ⟨rfl, bW⟩
end
end Go.Proofs.YtjnhgfmjehaalaaGreat
/- Chapter 6: contracts checked. -/
namespace Go.Proofs.YtjnhgfmjehaalaaGreat
open Go.RowKit
set_option linter.unusedVariables false
set_option linter.unusedSimpArgs false
def badF (l : List Fld) : Bool := l.any fun f => !gField f
def badS (l : List Stg) : Bool := l.any fun s => !gStage s
def badM (c : Con) (n : Nat) (l : List Mov) : Bool := l.any fun m => !gMove c n m
def onceF (l : List Fld) : Bool := onceB (fun e => e.name) l
def onceS (l : List Stg) : Bool := onceB (fun e => e.name) l
def onceM (l : List Mov) : Bool := onceB (fun e => e.name) l
section
variable {w : World}
theorem chk2_c (e : Fld) {B : Option Addr} {d : Nat} (h : Sl kStr (fun _ => True) w (.slice B e.enum.length d) e.enum) : Calls Tryz.prog 51 #[.agg #[.string ⟨e.name.toArray⟩, .int .i64 e.kind, .slice B e.enum.length d, .int .i64 e.init.kind, .int .i64 e.init.int, .bool e.init.bool, .string ⟨e.init.text.toArray⟩, .float .f64 e.init.num]] w (Ret w (.bool (!gField e))) := by
 have SF := store_f64
 have hL := Loc1.new w 41 #[.string ⟨e.name.toArray⟩, .int .i64 e.kind, .slice B e.enum.length d, .int .i64 e.init.kind, .int .i64 e.init.int, .bool e.init.bool, .string ⟨e.init.text.toArray⟩, .float .f64 e.init.num]
 have B0 : Below w.heap.size w (w.alloc (.cells #[.string ⟨e.name.toArray⟩, .int .i64 e.kind, .slice B e.enum.length d, .int .i64 e.init.kind, .int .i64 e.init.int, .bool e.init.bool, .string ⟨e.init.text.toArray⟩, .float .f64 e.init.num] 41)) := bW
 have HC := Lib.hid (gfield_c e (h.below B0))
 clear h
 obtain ⟨q0, q1, q2, q3, q4, q5, q6, q7⟩ := cells8 hL
 go_enter Tryz.func51, Tryz.ntmps51
 go_wp2_with fail
 refine HC.out.mono ?_
 rintro x9 w1 ⟨rfl, hb1⟩
 go_wp2_with fail
 go_ret
 exact ⟨rfl, bW⟩
theorem chk3_c (e : Stg) {B : Option Addr} {d : Nat} (h : Sl kI (fun _ => True) w (.slice B e.orgs.length d) e.orgs) : Calls Tryz.prog 56 #[.agg #[.string ⟨e.name.toArray⟩, .int .i64 e.need, .slice B e.orgs.length d]] w (Ret w (.bool (!gStage e))) := by
 have hL := Loc1.new w 68 #[.string ⟨e.name.toArray⟩, .int .i64 e.need, .slice B e.orgs.length d]
 have B0 : Below w.heap.size w (w.alloc (.cells #[.string ⟨e.name.toArray⟩, .int .i64 e.need, .slice B e.orgs.length d] 68)) := bW
 have HC := Lib.hid (gstage_c e (h.below B0))
 clear h
 obtain ⟨q0, q1, q2⟩ := cells3 hL
 go_enter Tryz.func56, Tryz.ntmps56
 go_wp2_with fail
 refine HC.out.mono ?_
 rintro x9 w1 ⟨rfl, hb1⟩
 go_wp2_with fail
 go_ret
 exact ⟨rfl, bW⟩
theorem chk1_c {A B D : Option Addr} {a b d : Nat} {c : Con} {n : Nat} (m : Mov) {k : Nat} {M P : Option Addr} {u p : Nat} {N : Nat} {t : TypeId} (hn : n = k + 1) (h1 : Sl kFld (fun _ => True) w (.slice A c.fields.length a) c.fields)
 (hg : Sl (kExp k) (fun _ => True) w (.slice M m.guard.kids.length u) m.guard.kids) (he : Sl (kEff n) (fun _ => True) w (.slice P m.effects.length p) m.effects) (hN : Loc1 N t #[.string ⟨c.name.toArray⟩, .slice A c.fields.length a, .slice B c.stages.length b, .slice D c.moves.length d] w) :
 Calls Tryz.prog 45 #[.agg #[.string ⟨m.name.toArray⟩, .int .i64 m.frm, .int .i64 m.tgt, .int .i64 m.guard.op, .slice M m.guard.kids.length u, .string ⟨m.guard.name.toArray⟩, .int .i64 m.guard.val.kind, .int .i64 m.guard.val.int, .bool m.guard.val.bool, .string ⟨m.guard.val.text.toArray⟩, .float .f64 m.guard.val.num, .slice P m.effects.length p, .int .i64 m.org], .pointer (some ⟨N, 0, none⟩)] w (Ret w (.bool (!gMove c n m))) := by
 have SF := store_f64
 have hL := Loc1.new w 47 #[.string ⟨m.name.toArray⟩, .int .i64 m.frm, .int .i64 m.tgt, .int .i64 m.guard.op, .slice M m.guard.kids.length u, .string ⟨m.guard.name.toArray⟩, .int .i64 m.guard.val.kind, .int .i64 m.guard.val.int, .bool m.guard.val.bool, .string ⟨m.guard.val.text.toArray⟩, .float .f64 m.guard.val.num, .slice P m.effects.length p, .int .i64 m.org]
 have B0 : Below w.heap.size w (w.alloc (.cells #[.string ⟨m.name.toArray⟩, .int .i64 m.frm, .int .i64 m.tgt, .int .i64 m.guard.op, .slice M m.guard.kids.length u, .string ⟨m.guard.name.toArray⟩, .int .i64 m.guard.val.kind, .int .i64 m.guard.val.int, .bool m.guard.val.bool, .string ⟨m.guard.val.text.toArray⟩, .float .f64 m.guard.val.num, .slice P m.effects.length p, .int .i64 m.org] 47)) := bW
 have HC := Lib.hid (gmove_c (B := B) (D := D) (b := b) (d := d) (c := c) m hn (h1.below B0) (hg.below B0) (he.below B0))
 have hN1 := hN.bel B0
 have hz := lt_of_heap hN
 clear h1 hg he hn hN
 obtain ⟨q0, q1, q2, q3, q4, q5, q6, q7, q8, q9, q10, q11, q12⟩ := cells13 hL
 obtain ⟨c0, c1, c2, c3⟩ := cells4 hN1
 go_enter Tryz.func45, Tryz.ntmps45
 go_wp2_with fail
 refine HC.out.mono ?_
 rintro x9 w1 ⟨rfl, hb1⟩
 go_wp2_with fail
 go_ret
 exact ⟨rfl, bW⟩
/-- is a contract right? -/
def chkC (c : Con) (n : Nat) : Int :=
 if !named c.name then 50
 else if decide (6 < c.fields.length) || !onceF c.fields || badF c.fields then 60
 else if (c.stages.length : Int) == 0 || decide (6 < c.stages.length) || !onceS c.stages || badS c.stages then 61
 else if decide (8 < c.moves.length) || !onceM c.moves || badM c n c.moves then 62 else 0
theorem chkC_eq (c : Con) (n : Nat) : chkC c n = if !named c.name then 50
 else if decide (6 < c.fields.length) || !onceF c.fields || badF c.fields then 60
 else if (c.stages.length : Int) == 0 || decide (6 < c.stages.length) || !onceS c.stages || badS c.stages then 61
 else if decide (8 < c.moves.length) || !onceM c.moves || badM c n c.moves then 62 else 0 := rfl
set_option maxRecDepth 20000 in
set_option maxHeartbeats 4000000 in
theorem checkC_c {A B D : Option Addr} {a b d : Nat} {c : Con} {n : Nat} (h1 : Sl kFld (fun _ => True) w (.slice A c.fields.length a) c.fields) (h2 : Sl kStg (fun _ => True) w (.slice B c.stages.length b) c.stages) (h3 : Sl (kMov n) (fun _ => True) w (.slice D c.moves.length d) c.moves) :
 Calls Tryz.prog 12 #[.agg #[.string ⟨c.name.toArray⟩, .slice A c.fields.length a, .slice B c.stages.length b, .slice D c.moves.length d]] w (Ret w (.int .i64 (chkC c n))) := by
 have hmf : ∀ (fn : Fn) (first cap : Array Value) (w : World), (Instr.makeFunc fn first cap).run Tryz.prog w = .ok (.func fn first cap) w := fun _ _ _ _ => rfl
 have HF := hidS h1
 have HS := hidS h2
 have HM := hidS h3
 have E := Lib.hid (chkC_eq c n)
 have hm1 := h1.len.2.2.1
 have hn1 := h1.len.2.1
 have hm2 := h2.len.2.2.1
 have hn2 := h2.len.2.1
 have hm3 := h3.len.2.2.1
 have hn3 := h3.len.2.1
 have hL := Loc1.new w 26 #[.string ⟨c.name.toArray⟩, .slice A c.fields.length a, .slice B c.stages.length b, .slice D c.moves.length d]
 have B0 : Below w.heap.size w (w.alloc (.cells #[.string ⟨c.name.toArray⟩, .slice A c.fields.length a, .slice B c.stages.length b, .slice D c.moves.length d] 26)) := bW
 have KC := Lib.hid (show ∀ W : World, Below (w.alloc (.cells #[.string ⟨c.name.toArray⟩, .slice A c.fields.length a, .slice B c.stages.length b, .slice D c.moves.length d] 26)).heap.size (w.alloc (.cells #[.string ⟨c.name.toArray⟩, .slice A c.fields.length a, .slice B c.stages.length b, .slice D c.moves.length d] 26)) W → Loc1 w.heap.size 26 #[.string ⟨c.name.toArray⟩, .slice A c.fields.length a, .slice B c.stages.length b, .slice D c.moves.length d] W from fun W hW => hL.bel hW)
 have KK := kk4 hL
 have C1 := Lib.hid (show ∀ W : World, Below (w.alloc (.cells #[.string ⟨c.name.toArray⟩, .slice A c.fields.length a, .slice B c.stages.length b, .slice D c.moves.length d] 26)).heap.size (w.alloc (.cells #[.string ⟨c.name.toArray⟩, .slice A c.fields.length a, .slice B c.stages.length b, .slice D c.moves.length d] 26)) W → Calls Tryz.prog 48 #[.slice A c.fields.length a, .func (.func 49) #[] #[]] W (Ret W (.bool (onceF c.fields))) from fun W hW => oncf_c (m := 0) (HF.out _ (below_self B0 hW)))
 have C2 := Lib.hid (show ∀ W : World, Below (w.alloc (.cells #[.string ⟨c.name.toArray⟩, .slice A c.fields.length a, .slice B c.stages.length b, .slice D c.moves.length d] 26)).heap.size (w.alloc (.cells #[.string ⟨c.name.toArray⟩, .slice A c.fields.length a, .slice B c.stages.length b, .slice D c.moves.length d] 26)) W → Calls Tryz.prog 53 #[.slice B c.stages.length b, .func (.func 54) #[] #[]] W (Ret W (.bool (onceS c.stages))) from fun W hW => oncg_c (m := 0) (HS.out _ (below_self B0 hW)))
 have C3 := Lib.hid (show ∀ W : World, Below (w.alloc (.cells #[.string ⟨c.name.toArray⟩, .slice A c.fields.length a, .slice B c.stages.length b, .slice D c.moves.length d] 26)).heap.size (w.alloc (.cells #[.string ⟨c.name.toArray⟩, .slice A c.fields.length a, .slice B c.stages.length b, .slice D c.moves.length d] 26)) W → Calls Tryz.prog 58 #[.slice D c.moves.length d, .func (.func 59) #[] #[]] W (Ret W (.bool (onceM c.moves))) from fun W hW => oncm_c (m := n) (HM.out _ (below_self B0 hW)))
 have D1 := Lib.hid (show ∀ W : World, Below (w.alloc (.cells #[.string ⟨c.name.toArray⟩, .slice A c.fields.length a, .slice B c.stages.length b, .slice D c.moves.length d] 26)).heap.size (w.alloc (.cells #[.string ⟨c.name.toArray⟩, .slice A c.fields.length a, .slice B c.stages.length b, .slice D c.moves.length d] 26)) W → Calls Tryz.prog 50 #[.slice A c.fields.length a, .func (.func 51) #[] #[]] W (Ret W (.bool (badF c.fields))) from fun W hW =>
  anf_f (m := 0) 51 #[] (fun f => !gField f) (HF.out _ (below_self B0 hW)) (enters Tryz.func51 (by kernel_rfl) (by kernel_rfl)) (fun W e B d hW _ hs => by rw [Array.append_empty]; exact chk2_c e hs))
 have D2 := Lib.hid (show ∀ W : World, Below (w.alloc (.cells #[.string ⟨c.name.toArray⟩, .slice A c.fields.length a, .slice B c.stages.length b, .slice D c.moves.length d] 26)).heap.size (w.alloc (.cells #[.string ⟨c.name.toArray⟩, .slice A c.fields.length a, .slice B c.stages.length b, .slice D c.moves.length d] 26)) W → Calls Tryz.prog 55 #[.slice B c.stages.length b, .func (.func 56) #[] #[]] W (Ret W (.bool (badS c.stages))) from fun W hW =>
  anf_g (m := 0) 56 #[] (fun s => !gStage s) (HS.out _ (below_self B0 hW)) (enters Tryz.func56 (by kernel_rfl) (by kernel_rfl)) (fun W e B d hW _ hs => by rw [Array.append_empty]; exact chk3_c e hs))
 have D3 := Lib.hid (show ∀ W : World, Below (w.alloc (.cells #[.string ⟨c.name.toArray⟩, .slice A c.fields.length a, .slice B c.stages.length b, .slice D c.moves.length d] 26)).heap.size (w.alloc (.cells #[.string ⟨c.name.toArray⟩, .slice A c.fields.length a, .slice B c.stages.length b, .slice D c.moves.length d] 26)) W → Calls Tryz.prog 60 #[.slice D c.moves.length d, .func (.func 45) #[] #[.pointer (some ⟨w.heap.size, 0, none⟩)]] W (Ret W (.bool (badM c n c.moves))) from fun W hW =>
  anf_m (m := n) 45 #[.pointer (some ⟨w.heap.size, 0, none⟩)] (fun m => !gMove c n m) (HM.out _ (below_self B0 hW)) (enters Tryz.func45 (by kernel_rfl) (by kernel_rfl)) (fun W1 e k B' b' D' d' hW1 _ hk hs hs' => chk1_c (B := B) (D := D) (b := b) (d := d) e hk (HF.out _ (below_self B0 (below_self hW hW1))) hs hs' (KC.out _ (below_self hW hW1))))
 generalize chkC c n = r at *
 clear h1 h2 h3 hL
 cases h0 : ((c.stages.length : Int) == 0)
 all_goals
  go_enter Tryz.func12, Tryz.ntmps12
  go_wp2_with (first
   | (go_at_call 47; refine (named_c _).mono ?_; rintro x9 wz ⟨rfl, hb⟩; obtain ⟨⟨c0, c1, c2, c3⟩, hz⟩ := KK.out wz bW)
   | (go_at_call 48; refine (C1.out _ bW).mono ?_; rintro x9 wz ⟨rfl, hb⟩; obtain ⟨⟨c0, c1, c2, c3⟩, hz⟩ := KK.out wz bW)
   | (go_at_call 53; refine (C2.out _ bW).mono ?_; rintro x9 wz ⟨rfl, hb⟩; obtain ⟨⟨c0, c1, c2, c3⟩, hz⟩ := KK.out wz bW)
   | (go_at_call 58; refine (C3.out _ bW).mono ?_; rintro x9 wz ⟨rfl, hb⟩; obtain ⟨⟨c0, c1, c2, c3⟩, hz⟩ := KK.out wz bW)
   | (go_at_call 50; refine (D1.out _ bW).mono ?_; rintro x9 wz ⟨rfl, hb⟩; obtain ⟨⟨c0, c1, c2, c3⟩, hz⟩ := KK.out wz bW)
   | (go_at_call 55; refine (D2.out _ bW).mono ?_; rintro x9 wz ⟨rfl, hb⟩; obtain ⟨⟨c0, c1, c2, c3⟩, hz⟩ := KK.out wz bW)
   | (go_at_call 60; refine (D3.out _ bW).mono ?_; rintro x9 wz ⟨rfl, hb⟩; obtain ⟨⟨c0, c1, c2, c3⟩, hz⟩ := KK.out wz bW))
  all_goals (clear KK KC C1 C2 C3 D1 D2 D3 HF HS HM hmf; have h0' := h0; simp at h0')
  all_goals
   go_ret
   rw [E.out]
   refine ⟨?_, bW⟩
  all_goals first
   | (simp [*]; done)
   | (simp [*]; omega)
   | (simp_all; done)
   | (simp_all; omega)
   | (simp [*]; intros; (repeat' split) <;> (first | omega | (simp_all; done) | (simp_all; omega)))
   | (cases hq : badF c.fields <;> simp [*] <;> simp_all <;> omega)
end
end Go.Proofs.YtjnhgfmjehaalaaGreat
