/- Chapter 6: contracts checked. -/
import Derived.Test.YtjnhgfmjehaalaaC5
namespace Go.Proofs.Ytjnhgfmjehaalaa
open Go.RowKit
set_option linter.unusedVariables false
set_option linter.unusedSimpArgs false
def badF (l : List Fld) : Bool := l.any fun f => !gField f
def badS (l : List Stg) : Bool := l.any fun s => !gStage s
def badM (c : Con) (n : Nat) (l : List Mov) : Bool := l.any fun m => !gMove c n m
def onceF (l : List Fld) : Bool := onceB (fun e => e.name) l
def onceS (l : List Stg) : Bool := onceB (fun e => e.name) l
def onceM (l : List Mov) : Bool := onceB (fun e => e.name) l
section
variable {w : World}
theorem chk2_c (e : Fld) {B : Option Addr} {d : Nat} (h : Sl kStr (fun _ => True) w (.slice B e.enum.length d) e.enum) : Calls Try.prog 21 #[.agg #[.string ⟨e.name.toArray⟩, .int .i64 e.kind, .slice B e.enum.length d, .int .i64 e.init.kind, .int .i64 e.init.int, .bool e.init.bool, .string ⟨e.init.text.toArray⟩, .float .f64 e.init.num]] w (Ret w (.bool (!gField e))) := by
  have SF := store_f64
  have hL : Loc1 w.heap.size 38 #[.string ⟨e.name.toArray⟩, .int .i64 e.kind, .slice B e.enum.length d, .int .i64 e.init.kind, .int .i64 e.init.int, .bool e.init.bool, .string ⟨e.init.text.toArray⟩, .float .f64 e.init.num] (w.alloc (.cells #[.string ⟨e.name.toArray⟩, .int .i64 e.kind, .slice B e.enum.length d, .int .i64 e.init.kind, .int .i64 e.init.int, .bool e.init.bool, .string ⟨e.init.text.toArray⟩, .float .f64 e.init.num] 38)) := Loc1.new _ _ _
  have B0 : Below w.heap.size w (w.alloc (.cells #[.string ⟨e.name.toArray⟩, .int .i64 e.kind, .slice B e.enum.length d, .int .i64 e.init.kind, .int .i64 e.init.int, .bool e.init.bool, .string ⟨e.init.text.toArray⟩, .float .f64 e.init.num] 38)) := (by (focus (repeat (first | with_reducible exact Below.refl _ _ | with_reducible assumption | with_reducible refine bel_al _ ?_ | with_reducible refine bel_dr ?_ | with_reducible refine bel_dn _ ?_ | with_reducible refine bel_tr (by assumption) ?_))))
  have HC := Lib.hid (gfield_c e (h.below B0))
  clear h
  obtain ⟨q0, q1, q2, q3, q4, q5, q6, q7⟩ := cells8 hL
  go_enter Try.func21, Try.ntmps21
  go_wp2_with fail
  refine HC.out.mono ?_
  rintro x9 w1 ⟨rfl, hb1⟩
  go_wp2_with fail
  go_ret
  exact ⟨rfl, (by (focus (repeat (first | with_reducible exact Below.refl _ _ | with_reducible assumption | with_reducible refine bel_al _ ?_ | with_reducible refine bel_dr ?_ | with_reducible refine bel_dn _ ?_ | with_reducible refine bel_tr (by assumption) ?_))))⟩
theorem chk3_c (e : Stg) {B : Option Addr} {d : Nat} (h : Sl kI (fun _ => True) w (.slice B e.orgs.length d) e.orgs) : Calls Try.prog 26 #[.agg #[.string ⟨e.name.toArray⟩, .int .i64 e.need, .slice B e.orgs.length d]] w (Ret w (.bool (!gStage e))) := by
  have hL : Loc1 w.heap.size 41 #[.string ⟨e.name.toArray⟩, .int .i64 e.need, .slice B e.orgs.length d] (w.alloc (.cells #[.string ⟨e.name.toArray⟩, .int .i64 e.need, .slice B e.orgs.length d] 41)) := Loc1.new _ _ _
  have B0 : Below w.heap.size w (w.alloc (.cells #[.string ⟨e.name.toArray⟩, .int .i64 e.need, .slice B e.orgs.length d] 41)) := (by (focus (repeat (first | with_reducible exact Below.refl _ _ | with_reducible assumption | with_reducible refine bel_al _ ?_ | with_reducible refine bel_dr ?_ | with_reducible refine bel_dn _ ?_ | with_reducible refine bel_tr (by assumption) ?_))))
  have HC := Lib.hid (gstage_c e (h.below B0))
  clear h
  obtain ⟨q0, q1, q2⟩ := cells3 hL
  go_enter Try.func26, Try.ntmps26
  go_wp2_with fail
  refine HC.out.mono ?_
  rintro x9 w1 ⟨rfl, hb1⟩
  go_wp2_with fail
  go_ret
  exact ⟨rfl, (by (focus (repeat (first | with_reducible exact Below.refl _ _ | with_reducible assumption | with_reducible refine bel_al _ ?_ | with_reducible refine bel_dr ?_ | with_reducible refine bel_dn _ ?_ | with_reducible refine bel_tr (by assumption) ?_))))⟩
theorem chk1_c {A B D : Option Addr} {a b d : Nat} {c : Con} {n : Nat} (m : Mov) {k : Nat} {M P : Option Addr} {u p : Nat} {N : Nat} {t : TypeId} (hn : n = k + 1) (h1 : Sl kFld (fun _ => True) w (.slice A c.fields.length a) c.fields)
    (hg : Sl (kExp k) (fun _ => True) w (.slice M m.guard.kids.length u) m.guard.kids) (he : Sl (kEff n) (fun _ => True) w (.slice P m.effects.length p) m.effects) (hN : Loc1 N t #[.string ⟨c.name.toArray⟩, .slice A c.fields.length a, .slice B c.stages.length b, .slice D c.moves.length d] w) :
    Calls Try.prog 15 #[.agg #[.string ⟨m.name.toArray⟩, .int .i64 m.frm, .int .i64 m.tgt, .int .i64 m.guard.op, .slice M m.guard.kids.length u, .string ⟨m.guard.name.toArray⟩, .int .i64 m.guard.val.kind, .int .i64 m.guard.val.int, .bool m.guard.val.bool, .string ⟨m.guard.val.text.toArray⟩, .float .f64 m.guard.val.num, .slice P m.effects.length p, .int .i64 m.org], .pointer (some ⟨N, 0, none⟩)] w (Ret w (.bool (!gMove c n m))) := by
  have SF := store_f64
  have hL : Loc1 w.heap.size 47 #[.string ⟨m.name.toArray⟩, .int .i64 m.frm, .int .i64 m.tgt, .int .i64 m.guard.op, .slice M m.guard.kids.length u, .string ⟨m.guard.name.toArray⟩, .int .i64 m.guard.val.kind, .int .i64 m.guard.val.int, .bool m.guard.val.bool, .string ⟨m.guard.val.text.toArray⟩, .float .f64 m.guard.val.num, .slice P m.effects.length p, .int .i64 m.org] (w.alloc (.cells #[.string ⟨m.name.toArray⟩, .int .i64 m.frm, .int .i64 m.tgt, .int .i64 m.guard.op, .slice M m.guard.kids.length u, .string ⟨m.guard.name.toArray⟩, .int .i64 m.guard.val.kind, .int .i64 m.guard.val.int, .bool m.guard.val.bool, .string ⟨m.guard.val.text.toArray⟩, .float .f64 m.guard.val.num, .slice P m.effects.length p, .int .i64 m.org] 47)) := Loc1.new _ _ _
  have B0 : Below w.heap.size w (w.alloc (.cells #[.string ⟨m.name.toArray⟩, .int .i64 m.frm, .int .i64 m.tgt, .int .i64 m.guard.op, .slice M m.guard.kids.length u, .string ⟨m.guard.name.toArray⟩, .int .i64 m.guard.val.kind, .int .i64 m.guard.val.int, .bool m.guard.val.bool, .string ⟨m.guard.val.text.toArray⟩, .float .f64 m.guard.val.num, .slice P m.effects.length p, .int .i64 m.org] 47)) := (by (focus (repeat (first | with_reducible exact Below.refl _ _ | with_reducible assumption | with_reducible refine bel_al _ ?_ | with_reducible refine bel_dr ?_ | with_reducible refine bel_dn _ ?_ | with_reducible refine bel_tr (by assumption) ?_))))
  have HC := Lib.hid (gmove_c (B := B) (D := D) (b := b) (d := d) (c := c) m hn (h1.below B0) (hg.below B0) (he.below B0))
  have hN1 := hN.bel B0
  have hz := lt_of_heap hN
  clear h1 hg he hn hN
  obtain ⟨q0, q1, q2, q3, q4, q5, q6, q7, q8, q9, q10, q11, q12⟩ := cells13 hL
  obtain ⟨c0, c1, c2, c3⟩ := cells4 hN1
  go_enter Try.func15, Try.ntmps15
  go_wp2_with fail
  refine HC.out.mono ?_
  rintro x9 w1 ⟨rfl, hb1⟩
  go_wp2_with fail
  go_ret
  exact ⟨rfl, (by (focus (repeat (first | with_reducible exact Below.refl _ _ | with_reducible assumption | with_reducible refine bel_al _ ?_ | with_reducible refine bel_dr ?_ | with_reducible refine bel_dn _ ?_ | with_reducible refine bel_tr (by assumption) ?_))))⟩
/-- is a contract right? -/
def chkC (c : Con) (n : Nat) : Int :=
  if !named c.name then 50
  else if decide (6 < c.fields.length) || !onceF c.fields || badF c.fields then 60
  else if (c.stages.length : Int) == 0 || decide (6 < c.stages.length) || !onceS c.stages || badS c.stages then 61
  else if decide (8 < c.moves.length) || !onceM c.moves || badM c n c.moves then 62 else 0
theorem chkC_eq (c : Con) (n : Nat) : chkC c n = if !named c.name then 50
  else if decide (6 < c.fields.length) || !onceF c.fields || badF c.fields then 60
  else if (c.stages.length : Int) == 0 || decide (6 < c.stages.length) || !onceS c.stages || badS c.stages then 61
  else if decide (8 < c.moves.length) || !onceM c.moves || badM c n c.moves then 62 else 0 := rfl
set_option maxRecDepth 20000 in
set_option maxHeartbeats 4000000 in
theorem checkC_c {A B D : Option Addr} {a b d : Nat} {c : Con} {n : Nat} (h1 : Sl kFld (fun _ => True) w (.slice A c.fields.length a) c.fields) (h2 : Sl kStg (fun _ => True) w (.slice B c.stages.length b) c.stages) (h3 : Sl (kMov n) (fun _ => True) w (.slice D c.moves.length d) c.moves) :
    Calls Try.prog 6 #[.agg #[.string ⟨c.name.toArray⟩, .slice A c.fields.length a, .slice B c.stages.length b, .slice D c.moves.length d]] w (Ret w (.int .i64 (chkC c n))) := by
  have hmf : ∀ (fn : Fn) (first cap : Array Value) (w : World), (Instr.makeFunc fn first cap).run Try.prog w = .ok (.func fn first cap) w := fun _ _ _ _ => rfl
  have HF := Lib.hid (show ∀ W : World, Below w.heap.size w W → Sl kFld (fun _ => True) W (.slice A c.fields.length a) c.fields from fun W hW => h1.below hW)
  have HS := Lib.hid (show ∀ W : World, Below w.heap.size w W → Sl kStg (fun _ => True) W (.slice B c.stages.length b) c.stages from fun W hW => h2.below hW)
  have HM := Lib.hid (show ∀ W : World, Below w.heap.size w W → Sl (kMov n) (fun _ => True) W (.slice D c.moves.length d) c.moves from fun W hW => h3.below hW)
  have E := Lib.hid (chkC_eq c n)
  have hm1 := h1.len.2.2.1
  have hn1 := h1.len.2.1
  have hm2 := h2.len.2.2.1
  have hn2 := h2.len.2.1
  have hm3 := h3.len.2.2.1
  have hn3 := h3.len.2.1
  have hL : Loc1 w.heap.size 26 #[.string ⟨c.name.toArray⟩, .slice A c.fields.length a, .slice B c.stages.length b, .slice D c.moves.length d] (w.alloc (.cells #[.string ⟨c.name.toArray⟩, .slice A c.fields.length a, .slice B c.stages.length b, .slice D c.moves.length d] 26)) := Loc1.new _ _ _
  have B0 : Below w.heap.size w (w.alloc (.cells #[.string ⟨c.name.toArray⟩, .slice A c.fields.length a, .slice B c.stages.length b, .slice D c.moves.length d] 26)) := (by (focus (repeat (first | with_reducible exact Below.refl _ _ | with_reducible assumption | with_reducible refine bel_al _ ?_ | with_reducible refine bel_dr ?_ | with_reducible refine bel_dn _ ?_ | with_reducible refine bel_tr (by assumption) ?_))))
  have KC := Lib.hid (show ∀ W : World, Below (w.alloc (.cells #[.string ⟨c.name.toArray⟩, .slice A c.fields.length a, .slice B c.stages.length b, .slice D c.moves.length d] 26)).heap.size (w.alloc (.cells #[.string ⟨c.name.toArray⟩, .slice A c.fields.length a, .slice B c.stages.length b, .slice D c.moves.length d] 26)) W → Loc1 w.heap.size 26 #[.string ⟨c.name.toArray⟩, .slice A c.fields.length a, .slice B c.stages.length b, .slice D c.moves.length d] W from fun W hW => hL.bel hW)
  have KK := Lib.hid (show ∀ W : World, Below (w.alloc (.cells #[.string ⟨c.name.toArray⟩, .slice A c.fields.length a, .slice B c.stages.length b, .slice D c.moves.length d] 26)).heap.size (w.alloc (.cells #[.string ⟨c.name.toArray⟩, .slice A c.fields.length a, .slice B c.stages.length b, .slice D c.moves.length d] 26)) W → (W.cell? ⟨w.heap.size, 0, none⟩ = some (.string ⟨c.name.toArray⟩) ∧ W.cell? ⟨w.heap.size, 1, none⟩ = some (.slice A c.fields.length a) ∧ W.cell? ⟨w.heap.size, 2, none⟩ = some (.slice B c.stages.length b) ∧ W.cell? ⟨w.heap.size, 3, none⟩ = some (.slice D c.moves.length d)) ∧ w.heap.size < W.heap.size from fun W hW => ⟨⟨cell_of (hL.bel hW) 0, cell_of (hL.bel hW) 1, cell_of (hL.bel hW) 2, cell_of (hL.bel hW) 3⟩, lt_of_heap (hL.bel hW)⟩)
  have C1 := Lib.hid (show ∀ W : World, Below (w.alloc (.cells #[.string ⟨c.name.toArray⟩, .slice A c.fields.length a, .slice B c.stages.length b, .slice D c.moves.length d] 26)).heap.size (w.alloc (.cells #[.string ⟨c.name.toArray⟩, .slice A c.fields.length a, .slice B c.stages.length b, .slice D c.moves.length d] 26)) W → Calls Try.prog 18 #[.slice A c.fields.length a, .func (.func 19) #[] #[]] W (Ret W (.bool (onceF c.fields))) from fun W hW => oncf_c (m := 0) (HF.out _ (below_self B0 hW)))
  have C2 := Lib.hid (show ∀ W : World, Below (w.alloc (.cells #[.string ⟨c.name.toArray⟩, .slice A c.fields.length a, .slice B c.stages.length b, .slice D c.moves.length d] 26)).heap.size (w.alloc (.cells #[.string ⟨c.name.toArray⟩, .slice A c.fields.length a, .slice B c.stages.length b, .slice D c.moves.length d] 26)) W → Calls Try.prog 23 #[.slice B c.stages.length b, .func (.func 24) #[] #[]] W (Ret W (.bool (onceS c.stages))) from fun W hW => oncg_c (m := 0) (HS.out _ (below_self B0 hW)))
  have C3 := Lib.hid (show ∀ W : World, Below (w.alloc (.cells #[.string ⟨c.name.toArray⟩, .slice A c.fields.length a, .slice B c.stages.length b, .slice D c.moves.length d] 26)).heap.size (w.alloc (.cells #[.string ⟨c.name.toArray⟩, .slice A c.fields.length a, .slice B c.stages.length b, .slice D c.moves.length d] 26)) W → Calls Try.prog 28 #[.slice D c.moves.length d, .func (.func 29) #[] #[]] W (Ret W (.bool (onceM c.moves))) from fun W hW => oncm_c (m := n) (HM.out _ (below_self B0 hW)))
  have D1 := Lib.hid (show ∀ W : World, Below (w.alloc (.cells #[.string ⟨c.name.toArray⟩, .slice A c.fields.length a, .slice B c.stages.length b, .slice D c.moves.length d] 26)).heap.size (w.alloc (.cells #[.string ⟨c.name.toArray⟩, .slice A c.fields.length a, .slice B c.stages.length b, .slice D c.moves.length d] 26)) W → Calls Try.prog 20 #[.slice A c.fields.length a, .func (.func 21) #[] #[]] W (Ret W (.bool (badF c.fields))) from fun W hW =>
    anf_f (m := 0) 21 #[] (fun f => !gField f) (HF.out _ (below_self B0 hW)) (enters Try.func21 (by kernel_rfl) (by kernel_rfl)) (fun W e B d hW _ hs => by rw [Array.append_empty]; exact chk2_c e hs))
  have D2 := Lib.hid (show ∀ W : World, Below (w.alloc (.cells #[.string ⟨c.name.toArray⟩, .slice A c.fields.length a, .slice B c.stages.length b, .slice D c.moves.length d] 26)).heap.size (w.alloc (.cells #[.string ⟨c.name.toArray⟩, .slice A c.fields.length a, .slice B c.stages.length b, .slice D c.moves.length d] 26)) W → Calls Try.prog 25 #[.slice B c.stages.length b, .func (.func 26) #[] #[]] W (Ret W (.bool (badS c.stages))) from fun W hW =>
    anf_g (m := 0) 26 #[] (fun s => !gStage s) (HS.out _ (below_self B0 hW)) (enters Try.func26 (by kernel_rfl) (by kernel_rfl)) (fun W e B d hW _ hs => by rw [Array.append_empty]; exact chk3_c e hs))
  have D3 := Lib.hid (show ∀ W : World, Below (w.alloc (.cells #[.string ⟨c.name.toArray⟩, .slice A c.fields.length a, .slice B c.stages.length b, .slice D c.moves.length d] 26)).heap.size (w.alloc (.cells #[.string ⟨c.name.toArray⟩, .slice A c.fields.length a, .slice B c.stages.length b, .slice D c.moves.length d] 26)) W → Calls Try.prog 30 #[.slice D c.moves.length d, .func (.func 15) #[] #[.pointer (some ⟨w.heap.size, 0, none⟩)]] W (Ret W (.bool (badM c n c.moves))) from fun W hW =>
    anf_m (m := n) 15 #[.pointer (some ⟨w.heap.size, 0, none⟩)] (fun m => !gMove c n m) (HM.out _ (below_self B0 hW)) (enters Try.func15 (by kernel_rfl) (by kernel_rfl)) (fun W1 e k B' b' D' d' hW1 _ hk hs hs' => chk1_c (B := B) (D := D) (b := b) (d := d) e hk (HF.out _ (below_self B0 (below_self hW hW1))) hs hs' (KC.out _ (below_self hW hW1))))
  generalize chkC c n = r at *
  clear h1 h2 h3 hL
  cases h0 : ((c.stages.length : Int) == 0)
  all_goals
    go_enter Try.func6, Try.ntmps6
    go_wp2_with (first
      | (go_at_call 17; refine (named_c _).mono ?_; rintro x9 wz ⟨rfl, hb⟩; obtain ⟨⟨c0, c1, c2, c3⟩, hz⟩ := KK.out wz (by (focus (repeat (first | with_reducible exact Below.refl _ _ | with_reducible assumption | with_reducible refine bel_al _ ?_ | with_reducible refine bel_dr ?_ | with_reducible refine bel_dn _ ?_ | with_reducible refine bel_tr (by assumption) ?_)))))
      | (go_at_call 18; refine (C1.out _ (by (focus (repeat (first | with_reducible exact Below.refl _ _ | with_reducible assumption | with_reducible refine bel_al _ ?_ | with_reducible refine bel_dr ?_ | with_reducible refine bel_dn _ ?_ | with_reducible refine bel_tr (by assumption) ?_))))).mono ?_; rintro x9 wz ⟨rfl, hb⟩; obtain ⟨⟨c0, c1, c2, c3⟩, hz⟩ := KK.out wz (by (focus (repeat (first | with_reducible exact Below.refl _ _ | with_reducible assumption | with_reducible refine bel_al _ ?_ | with_reducible refine bel_dr ?_ | with_reducible refine bel_dn _ ?_ | with_reducible refine bel_tr (by assumption) ?_)))))
      | (go_at_call 23; refine (C2.out _ (by (focus (repeat (first | with_reducible exact Below.refl _ _ | with_reducible assumption | with_reducible refine bel_al _ ?_ | with_reducible refine bel_dr ?_ | with_reducible refine bel_dn _ ?_ | with_reducible refine bel_tr (by assumption) ?_))))).mono ?_; rintro x9 wz ⟨rfl, hb⟩; obtain ⟨⟨c0, c1, c2, c3⟩, hz⟩ := KK.out wz (by (focus (repeat (first | with_reducible exact Below.refl _ _ | with_reducible assumption | with_reducible refine bel_al _ ?_ | with_reducible refine bel_dr ?_ | with_reducible refine bel_dn _ ?_ | with_reducible refine bel_tr (by assumption) ?_)))))
      | (go_at_call 28; refine (C3.out _ (by (focus (repeat (first | with_reducible exact Below.refl _ _ | with_reducible assumption | with_reducible refine bel_al _ ?_ | with_reducible refine bel_dr ?_ | with_reducible refine bel_dn _ ?_ | with_reducible refine bel_tr (by assumption) ?_))))).mono ?_; rintro x9 wz ⟨rfl, hb⟩; obtain ⟨⟨c0, c1, c2, c3⟩, hz⟩ := KK.out wz (by (focus (repeat (first | with_reducible exact Below.refl _ _ | with_reducible assumption | with_reducible refine bel_al _ ?_ | with_reducible refine bel_dr ?_ | with_reducible refine bel_dn _ ?_ | with_reducible refine bel_tr (by assumption) ?_)))))
      | (go_at_call 20; refine (D1.out _ (by (focus (repeat (first | with_reducible exact Below.refl _ _ | with_reducible assumption | with_reducible refine bel_al _ ?_ | with_reducible refine bel_dr ?_ | with_reducible refine bel_dn _ ?_ | with_reducible refine bel_tr (by assumption) ?_))))).mono ?_; rintro x9 wz ⟨rfl, hb⟩; obtain ⟨⟨c0, c1, c2, c3⟩, hz⟩ := KK.out wz (by (focus (repeat (first | with_reducible exact Below.refl _ _ | with_reducible assumption | with_reducible refine bel_al _ ?_ | with_reducible refine bel_dr ?_ | with_reducible refine bel_dn _ ?_ | with_reducible refine bel_tr (by assumption) ?_)))))
      | (go_at_call 25; refine (D2.out _ (by (focus (repeat (first | with_reducible exact Below.refl _ _ | with_reducible assumption | with_reducible refine bel_al _ ?_ | with_reducible refine bel_dr ?_ | with_reducible refine bel_dn _ ?_ | with_reducible refine bel_tr (by assumption) ?_))))).mono ?_; rintro x9 wz ⟨rfl, hb⟩; obtain ⟨⟨c0, c1, c2, c3⟩, hz⟩ := KK.out wz (by (focus (repeat (first | with_reducible exact Below.refl _ _ | with_reducible assumption | with_reducible refine bel_al _ ?_ | with_reducible refine bel_dr ?_ | with_reducible refine bel_dn _ ?_ | with_reducible refine bel_tr (by assumption) ?_)))))
      | (go_at_call 30; refine (D3.out _ (by (focus (repeat (first | with_reducible exact Below.refl _ _ | with_reducible assumption | with_reducible refine bel_al _ ?_ | with_reducible refine bel_dr ?_ | with_reducible refine bel_dn _ ?_ | with_reducible refine bel_tr (by assumption) ?_))))).mono ?_; rintro x9 wz ⟨rfl, hb⟩; obtain ⟨⟨c0, c1, c2, c3⟩, hz⟩ := KK.out wz (by (focus (repeat (first | with_reducible exact Below.refl _ _ | with_reducible assumption | with_reducible refine bel_al _ ?_ | with_reducible refine bel_dr ?_ | with_reducible refine bel_dn _ ?_ | with_reducible refine bel_tr (by assumption) ?_))))))
    all_goals (clear KK KC C1 C2 C3 D1 D2 D3 HF HS HM hmf; have h0' := h0; simp at h0')
    all_goals
      go_ret
      rw [E.out]
      refine ⟨?_, (by (focus (repeat (first | with_reducible exact Below.refl _ _ | with_reducible assumption | with_reducible refine bel_al _ ?_ | with_reducible refine bel_dr ?_ | with_reducible refine bel_dn _ ?_ | with_reducible refine bel_tr (by assumption) ?_))))⟩
    all_goals first
      | (simp [*]; done)
      | (simp [*]; omega)
      | (simp_all; done)
      | (simp_all; omega)
      | (simp [*]; intros; (repeat' split) <;> (first | omega | (simp_all; done) | (simp_all; omega)))
      | (cases hq : badF c.fields <;> simp [*] <;> simp_all <;> omega)
end
end Go.Proofs.Ytjnhgfmjehaalaa
