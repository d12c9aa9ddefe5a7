/- The references' contracts, read: fields. -/
import Derived.Test.YtjnhgfmjehaalaaGreatMU
import Derived.Test.YtjnhgfmjehaalaaGreatV12
import Derived.Test.YtjnhgfmjehaalaaGreatRG
import Derived.Deep.CutRange
namespace Go.Proofs.YtjnhgfmjehaalaaGreat
open Go.RowKit
set_option linter.unusedVariables false
set_option linter.unusedSimpArgs false
section
theorem own_far {α : Type} {d : Kd α} {e : TypeId} {w w' : World} {B g : Nat} {v : Value} {xs : List α} (h : Own d e (fun k => B ≤ k) w B v xs) (hg : g < B) (x : Ext (fun k => k ≠ g) w w') : Own d e (fun k => B ≤ k) w' B v xs :=
 h.ext (x.weak fun k _ hk => by
  rcases hk with hk | hk
  ·have hk' : B ≤ k := hk
   omega
  ·have := (h.lt k hk.symm).1
   omega)
end
/-! ### what the reference reads, one thing behind the other -/
section
variable {α : Type}
/-- so many, whatever errs -/
def qN (f : RS → α × RS) (s : RS) : Nat → List α × RS
 | 0 => ([], s)
 | i + 1 => ((qN f s i).1 ++ [(f (qN f s i).2).1], (f (qN f s i).2).2)
/-- so many, till one errs -/
def qE (f : RS → Except Int (α × RS)) (s : RS) : Nat → Except Int (List α × RS)
 | 0 => .ok ([], s)
 | i + 1 => match qE f s i with
  | .error x => .error x
  | .ok p => match f p.2 with
   | .error x => .error x
   | .ok q => .ok (p.1 ++ [q.1], q.2)
theorem qN_len (f : RS → α × RS) (s : RS) : ∀ i, (qN f s i).1.length = i
 | 0 => rfl
 | i + 1 => by rw [qN, List.length_append, qN_len f s i]; rfl
theorem qE_len {f : RS → Except Int (α × RS)} {s : RS} : ∀ {i : Nat} {p : List α × RS}, qE f s i = .ok p → p.1.length = i
 | 0, p, h => by injection h with h; subst h; rfl
 | i + 1, p, h => by
  rw [qE] at h
  split at h
  ·cases h
  ·rename_i p1 h1
   have h2 := qE_len h1
   split at h
   ·cases h
   ·injection h with h
    subst h
    show (p1.1 ++ [_]).length = _
    rw [List.length_append, h2]; rfl
theorem qE_next {f : RS → Except Int (α × RS)} {s : RS} {i : Nat} {p : List α × RS} {q : α × RS} (h : qE f s i = .ok p) (h2 : f p.2 = .ok q) : qE f s (i + 1) = .ok (p.1 ++ [q.1], q.2) := by simp only [qE, h, h2]
theorem qE_bad {f : RS → Except Int (α × RS)} {s : RS} {i : Nat} {p : List α × RS} {x : Int} (h : qE f s i = .ok p) (h2 : f p.2 = .error x) : qE f s (i + 1) = .error x := by simp only [qE, h, h2]
theorem qE_stop {f : RS → Except Int (α × RS)} {s : RS} {x : Int} {i : Nat} (h : qE f s i = .error x) : ∀ n, i ≤ n → qE f s n = .error x := fun n hn => by
 induction hn with
 | refl => exact h
 | step _ ih => rw [qE, ih]
end
def qFld3 (n : List UInt8) (k : Int) (l : List (List UInt8)) (v : (Val × Int) × RS) : Except Int (Fld × RS) := if v.1.2 ≠ 0 then .error v.1.2 else .ok (⟨n, k, l, v.1.1⟩, v.2)
def qFld2 (n : List UInt8) (k : Int) (l : List (List UInt8) × RS) : Except Int (Fld × RS) := if l.2.2 ≠ 0 then .error l.2.2 else qFld3 n k l.1 (gVal l.2)
def qFld1 (n : List UInt8) (k : Int) (c : Nat × RS) : Except Int (Fld × RS) := qFld2 n k (qN (rBytes 32) c.2 c.1)
def qFld0 (n : List UInt8) (k : Int × RS) : Except Int (Fld × RS) := qFld1 n k.1 (rCount 4 k.2)
def qField (s : RS) : Except Int (Fld × RS) := qFld0 (rBytes 16 s).1 (rInt (rBytes 16 s).2)
def qStg1 (n : List UInt8) (k : Int) (c : Nat × RS) : Stg × RS := (⟨n, k, (qN rInt c.2 c.1).1⟩, (qN rInt c.2 c.1).2)
def qStg0 (n : List UInt8) (k : Int × RS) : Stg × RS := qStg1 n k.1 (rCount 4 k.2)
def qStage (s : RS) : Stg × RS := qStg0 (rBytes 16 s).1 (rInt (rBytes 16 s).2)
def qEff0 (a : List UInt8 × RS) : Except Int (Eff × RS) := if a.2.2 ≠ 0 then .error a.2.2 else match gE a.2 with | .error x => .error x | .ok p => .ok (⟨a.1, p.1⟩, p.2)
def qEffect (s : RS) : Except Int (Eff × RS) := qEff0 (rBytes 16 s)
def qMov5 (n : List UInt8) (f t o : Int) (g : Exp) (l : Except Int (List Eff × RS)) : Except Int (Mov × RS) := match l with | .error x => .error x | .ok p => if p.2.2 ≠ 0 then .error p.2.2 else .ok (⟨n, f, t, g, p.1, o⟩, p.2)
def qMov4 (n : List UInt8) (f t o : Int) (g : Exp) (c : Nat × RS) : Except Int (Mov × RS) := qMov5 n f t o g (qE qEffect c.2 c.1)
def qMov3 (n : List UInt8) (f t : Int) (o : Int × RS) : Except Int (Mov × RS) := if o.2.2 ≠ 0 then .error o.2.2 else match gE o.2 with | .error x => .error x | .ok p => qMov4 n f t o.1 p.1 (rCount 4 p.2)
def qMov2 (n : List UInt8) (f : Int) (t : Int × RS) : Except Int (Mov × RS) := qMov3 n f t.1 (rInt t.2)
def qMov1 (n : List UInt8) (f : Int × RS) : Except Int (Mov × RS) := qMov2 n f.1 (rInt f.2)
def qMov0 (a : List UInt8 × RS) : Except Int (Mov × RS) := qMov1 a.1 (rInt a.2)
def qMove (s : RS) : Except Int (Mov × RS) := qMov0 (rBytes 16 s)
def qPar4 (n : List UInt8) (f : List Fld) (t : List Stg) (m : Except Int (List Mov × RS)) : Except Int (Con × RS) := match m with | .error x => .error x | .ok p => if p.2.2 ≠ 0 then .error p.2.2 else .ok (⟨n, f, t, p.1⟩, p.2)
def qPar3 (n : List UInt8) (f : List Fld) (t : List Stg) (c : Nat × RS) : Except Int (Con × RS) := qPar4 n f t (qE qMove c.2 c.1)
def qPar2 (n : List UInt8) (f : List Fld) (t : List Stg × RS) : Except Int (Con × RS) := qPar3 n f t.1 (rCount 8 t.2)
def qPar1 (n : List UInt8) (f : List Fld) (c : Nat × RS) : Except Int (Con × RS) := qPar2 n f (qN qStage c.2 c.1)
def qPar0 (n : List UInt8) (f : Except Int (List Fld × RS)) : Except Int (Con × RS) := match f with | .error x => .error x | .ok p => qPar1 n p.1 (rCount 6 p.2)
def qParts (n : List UInt8) (s : RS) : Except Int (Con × RS) := qPar0 n (qE qField (rCount 6 s).2 (rCount 6 s).1)
def qCon (s : RS) : Except Int (Con × RS) := qParts (rBytes 16 s).1 (rBytes 16 s).2
section
variable {ok : Nat → Prop} {w : World} {g : Nat}
/-- what getField answers -/
def RetFq (ok : Nat → Prop) (g : Nat) (w : World) (r : Except Int (Fld × RS)) (e : Ending) (w' : World) : Prop :=
 (match r with
   | .ok p => ∃ cs : List Value, e = .returned (.tuple #[.agg cs.toArray, .int .i64 0]) ∧ kFld.R (fun k => w.heap.size ≤ k) w' cs p.1 ∧ RdQ ok g w' p.2.1 p.2.2
   | .error x => x ≠ 0 ∧ ∃ (f : Fld) (A : Option Addr) (n c : Nat), e = .returned (.tuple #[.agg #[.string ⟨f.name.toArray⟩, .int .i64 f.kind, .slice A n c, .int .i64 f.init.kind, .int .i64 f.init.int, .bool f.init.bool, .string ⟨f.init.text.toArray⟩, .float .f64 f.init.num], .int .i64 x])) ∧ Ext (fun k => k ≠ g) w w'
def QF1 (ok : Nat → Prop) (w : World) (g : Nat) (nm : List UInt8) (k : Int) (s : RS) (s2 s4 : Value) (W : World) : Prop :=
 s2 = .pointer (some ⟨w.heap.size, 0, none⟩) ∧ ∃ fb, s4 = .pointer (some ⟨fb, 0, none⟩) ∧ Loc1 fb 41 #[.string ⟨nm.toArray⟩, .int .i64 k, .slice none 0 0, .int .i64 0, .int .i64 0, .bool false, .string ⟨#[]⟩, .float .f64 0] W ∧ QL ok w g s W ∧ Loc1 w.heap.size 41 #[.string ⟨#[]⟩, .int .i64 0, .slice none 0 0, .int .i64 0, .int .i64 0, .bool false, .string ⟨#[]⟩, .float .f64 0] W ∧ w.heap.size < fb
def QF2 (ok : Nat → Prop) (w : World) (g : Nat) (nm : List UInt8) (k : Int) (s3 : RS) (n fb B : Nat) (v6 : Value) (W : World) : Prop :=
 ∃ (i : Nat) (kv : Value), i ≤ n ∧ v6 = .int .i64 (i : Int) ∧ Loc1 fb 41 #[.string ⟨nm.toArray⟩, .int .i64 k, kv, .int .i64 0, .int .i64 0, .bool false, .string ⟨#[]⟩, .float .f64 0] W ∧ QL ok w g (qN (rBytes 32) s3 i).2 W ∧ Loc1 w.heap.size 41 #[.string ⟨#[]⟩, .int .i64 0, .slice none 0 0, .int .i64 0, .int .i64 0, .bool false, .string ⟨#[]⟩, .float .f64 0] W ∧ Own kStr 9 (fun k => B ≤ k) W B kv (qN (rBytes 32) s3 i).1 ∧ B ≤ W.heap.size
theorem rCount_le4 (s : RS) : (rCount 4 s).1 ≤ 4 := by
 unfold rCount
 split
 ·simp
 ·split
  ·simp
  ·split
   ·simp
   ·rename_i h
    show num (s.1.take 4) ≤ 4
    omega
set_option maxRecDepth 20000 in
set_option maxHeartbeats 8000000 in
theorem qfield_c (g : Nat) (s : RS) (h : RdQ ok g w s.1 s.2) : Calls Tryz.prog 139 #[.pointer (some ⟨g, 0, none⟩)] w (RetFq ok g w (qField s)) := by
 have SF := store_f64
 have hgw := h.lt
 have J := (QL.start h).below (show Below w.heap.size w (w.alloc (.cells #[.string ⟨#[]⟩, .int .i64 0, .slice none 0 0, .int .i64 0, .int .i64 0, .bool false, .string ⟨#[]⟩, .float .f64 0] 41)) from bW)
 have LR := Loc1.new w 41 #[.string ⟨#[]⟩, .int .i64 0, .slice none 0 0, .int .i64 0, .int .i64 0, .bool false, .string ⟨#[]⟩, .float .f64 0]
 have E := Lib.hid (show qField s = qFld0 (rBytes 16 s).1 (rInt (rBytes 16 s).2) from rfl)
 generalize qField s = r at *
 clear h
 go_enter Tryz.func139, Tryz.ntmps139
 go_upto_region 1 with (fail)
 generalize (w.alloc (.cells #[.string ⟨#[]⟩, .int .i64 0, .slice none 0 0, .int .i64 0, .int .i64 0, .bool false, .string ⟨#[]⟩, .float .f64 0] 41)) = w0 at *
 have HB := Lib.hid (fun (W : World) (h : RdQ (fun k => ok k ∧ k < w.heap.size) g W s.1 s.2) => qBytes_c g 16 s h)
 generalize rBytes 16 s = p1 at *
 obtain ⟨nm, s1⟩ := p1
 replace E := Lib.hid (show r = qFld0 nm (rInt s1) from E.out)
 replace HB := Lib.hid (show ∀ (W : World), RdQ (fun k => ok k ∧ k < w.heap.size) g W s.1 s.2 → Calls Tryz.prog 82 #[.pointer (some ⟨g, 0, none⟩), .int .i64 16] W (fun e w' => ∃ v, e = .returned v ∧ Own kU8 5 (fun k => ok k ∧ k < w.heap.size) w' W.heap.size v nm ∧ RdQ (fun k => ok k ∧ k < w.heap.size) g w' s1.1 s1.2 ∧ Ext (fun k => k ≠ g) W w') from HB.out)
 have HI := Lib.hid (fun (W : World) (h : RdQ (fun k => ok k ∧ k < w.heap.size) g W s1.1 s1.2) => qInt_c g s1 h)
 generalize rInt s1 = p2 at *
 obtain ⟨k, s2⟩ := p2
 replace E := Lib.hid (show r = qFld1 nm k (rCount 4 s2) from E.out)
 replace HI := Lib.hid (show ∀ (W : World), RdQ (fun k => ok k ∧ k < w.heap.size) g W s1.1 s1.2 → Calls Tryz.prog 140 #[.pointer (some ⟨g, 0, none⟩)] W (Rq (fun k => ok k ∧ k < w.heap.size) g W (.int .i64 k) s2) from HI.out)
 have hz0 := lt_of_heap LR
 go_cut [2, 4] from 1 (fun v2 v4 W => QF1 ok w g nm k s2 v2 v4 W)
 case first =>
  refine wp_region_held_drew (S := fun W => True) (by kernel_rfl) trivial (fun hHeld => ?_)
  replace J := J.below (show Below w0.heap.size w0 w0.drew from bW)
  replace LR := LR.dr
  clear hHeld
  have hHeld : True := trivial
  generalize hwd : w0.drew = wd at *
  clear hwd
  refine takeG 0 9 (.pointer (some ⟨g, 0, none⟩)) rfl rfl (by kernel_rfl) (fun _ _ _ h => h) (Or.inl ⟨by rfl, by (intro wz hSw; (try dsimp only at hSw); go_simp)⟩) (by assumption) ?_
  try simp only [Act.put, nrmA, nrmZ, nrmS]
  refine takeG 3 12 (.pointer (some ⟨g, 0, none⟩)) rfl rfl (by kernel_rfl) (fun _ _ _ h => h) (Or.inl ⟨by rfl, by (intro wz hSw; (try dsimp only at hSw); go_simp)⟩) (by assumption) ?_
  try simp only [Act.put, nrmA, nrmZ, nrmS]
  refine rd2 1 6 rfl rfl (by kernel_rfl) (fun K hK => ?_) fun K hK => ?_
  ·skip
   go_simp
   refine (HB.out _ J.rd).mono ?_
   rintro x9 wq1 ⟨v5, rfl, ho5, hrq, hxq⟩
   obtain ⟨Av, nv, cv, rfl, -⟩ := ho5.form'
   have hgv : g < wd.heap.size := J.rd.lt
   replace J := J.call hrq hxq
   replace LR := loc_ext hxq (by omega) LR
   clear hrq hxq
   refine hK.out _ _ trivial (fun hHeld => ?_)
   clear hK K
   try simp only [Act.put, nrmA, nrmZ, nrmS]
   refine wpAnyH_ready (rs := [2, 4, 6]) (by kernel_rfl) (by simp) ?_
   refine (AllReadyH.cons rfl (fun K hK => ?_) (AllReadyH.cons rfl (fun K hK => ?_) (AllReadyH.cons rfl (fun K hK => ?_) AllReadyH.nil)))
   ·skip
    have CV := conv_vs (P := Tryz.prog) ((own_u8 (ok' := fun _ => True) ho5).sl fun _ _ => trivial) 29 9 5 Tryz.underlying29 Tryz.underlying5 Tryz.underlying9
    go_simp
    clear CV
    refine hK.out _ _ trivial (fun hHeld => ?_)
    clear hK K
    try simp only [Act.put, nrmA, nrmZ, nrmS]
    refine rd2 4 6 rfl rfl (by kernel_rfl) (fun K hK => ?_) fun K hK => ?_
    ·skip
     go_simp
     refine (HI.out _ J.rd).mono ?_
     rintro x9 wq2 ⟨rfl, hrq, hxq⟩
     replace J := J.call hrq hxq
     replace LR := loc_ext hxq (by omega) LR
     replace ho5 := own_u8_far ho5 hgv hxq
     clear hrq hxq
     refine hK.out _ _ trivial (fun hHeld => ?_)
     clear hK K
     try simp only [Act.put, nrmA, nrmZ, nrmS]
     refine takeG 5 14 (.agg #[.string ⟨nm.toArray⟩, .int .i64 k, .slice none 0 0, .int .i64 0, .int .i64 0, .bool false, .string ⟨#[]⟩, .float .f64 0]) rfl rfl (by kernel_rfl) (fun _ _ _ h => h) (Or.inl ⟨by rfl, by (intro wz hSw; (try dsimp only at hSw); go_simp)⟩) (by assumption) ?_
     try simp only [Act.put, nrmA, nrmZ, nrmS]
     refine rd1 6 rfl (by kernel_rfl) fun K hK => ?_
     go_simp
     have LF := Loc1.new wq2 41 #[.string ⟨#[]⟩, .int .i64 0, .slice none 0 0, .int .i64 0, .int .i64 0, .bool false, .string ⟨#[]⟩, .float .f64 0]
     have hbLF : w.heap.size < wq2.heap.size := (by have := lt_of_heap LR; omega)
     have BA : Below wq2.heap.size wq2 (wq2.alloc (.cells #[.string ⟨#[]⟩, .int .i64 0, .slice none 0 0, .int .i64 0, .int .i64 0, .bool false, .string ⟨#[]⟩, .float .f64 0] 41)) := bW
     replace J := J.below BA
     replace LR := LR.bel BA
     replace ho5 := ho5.below BA
     clear BA
     generalize hWq : (wq2.alloc (.cells #[.string ⟨#[]⟩, .int .i64 0, .slice none 0 0, .int .i64 0, .int .i64 0, .bool false, .string ⟨#[]⟩, .float .f64 0] 41)) = wq3 at *
     clear hWq
     refine hK.out _ _ trivial (fun hHeld => ?_)
     clear hK K
     try simp only [Act.put, nrmA, nrmZ, nrmS]
     refine rd1 7 rfl (by kernel_rfl) fun K hK => ?_
     obtain ⟨m0, m1, m2, m3, m4, m5, m6, m7, u0, u1, u2, u3, u4, u5, u6, u7, hzm⟩ := op8 LF
     go_simp
     obtain ⟨LS1, XS1⟩ := st8 LF (.string ⟨nm.toArray⟩) (.int .i64 k) (.slice none 0 0) (.int .i64 0) (.int .i64 0) (.bool false) (.string ⟨#[]⟩) (.float .f64 0)
     refine hK.out _ _ trivial (fun hHeld => ?_)
     clear hK K
     try simp only [Act.put, nrmA, nrmZ, nrmS]
     refine wpAnyH_done (by kernel_rfl) ?_ _
     simp only [Exit.then]
     apply_assumption
     go_meet
     exact ⟨rfl, _, rfl, LS1, J.off XS1 (by omega) hgw, loc_ext XS1 (by omega) LR, hbLF⟩
    ·skip
     go_simp
     have LF := Loc1.new wq1 41 #[.string ⟨#[]⟩, .int .i64 0, .slice none 0 0, .int .i64 0, .int .i64 0, .bool false, .string ⟨#[]⟩, .float .f64 0]
     have hbLF : w.heap.size < wq1.heap.size := (by have := lt_of_heap LR; omega)
     have BA : Below wq1.heap.size wq1 (wq1.alloc (.cells #[.string ⟨#[]⟩, .int .i64 0, .slice none 0 0, .int .i64 0, .int .i64 0, .bool false, .string ⟨#[]⟩, .float .f64 0] 41)) := bW
     replace J := J.below BA
     replace LR := LR.bel BA
     replace ho5 := ho5.below BA
     clear BA
     generalize hWq : (wq1.alloc (.cells #[.string ⟨#[]⟩, .int .i64 0, .slice none 0 0, .int .i64 0, .int .i64 0, .bool false, .string ⟨#[]⟩, .float .f64 0] 41)) = wq2 at *
     clear hWq
     refine hK.out _ _ trivial (fun hHeld => ?_)
     clear hK K
     try simp only [Act.put, nrmA, nrmZ, nrmS]
     refine rd1 4 rfl (by kernel_rfl) fun K hK => ?_
     go_simp
     refine (HI.out _ J.rd).mono ?_
     rintro x9 wq3 ⟨rfl, hrq, hxq⟩
     replace J := J.call hrq hxq
     replace LR := loc_ext hxq (by omega) LR
     replace LF := loc_ext hxq (by omega) LF
     replace ho5 := own_u8_far ho5 hgv hxq
     clear hrq hxq
     refine hK.out _ _ trivial (fun hHeld => ?_)
     clear hK K
     try simp only [Act.put, nrmA, nrmZ, nrmS]
     refine takeG 5 14 (.agg #[.string ⟨nm.toArray⟩, .int .i64 k, .slice none 0 0, .int .i64 0, .int .i64 0, .bool false, .string ⟨#[]⟩, .float .f64 0]) rfl rfl (by kernel_rfl) (fun _ _ _ h => h) (Or.inl ⟨by rfl, by (intro wz hSw; (try dsimp only at hSw); go_simp)⟩) (by assumption) ?_
     try simp only [Act.put, nrmA, nrmZ, nrmS]
     refine rd1 7 rfl (by kernel_rfl) fun K hK => ?_
     obtain ⟨m0, m1, m2, m3, m4, m5, m6, m7, u0, u1, u2, u3, u4, u5, u6, u7, hzm⟩ := op8 LF
     go_simp
     obtain ⟨LS1, XS1⟩ := st8 LF (.string ⟨nm.toArray⟩) (.int .i64 k) (.slice none 0 0) (.int .i64 0) (.int .i64 0) (.bool false) (.string ⟨#[]⟩) (.float .f64 0)
     refine hK.out _ _ trivial (fun hHeld => ?_)
     clear hK K
     try simp only [Act.put, nrmA, nrmZ, nrmS]
     refine wpAnyH_done (by kernel_rfl) ?_ _
     simp only [Exit.then]
     apply_assumption
     go_meet
     exact ⟨rfl, _, rfl, LS1, J.off XS1 (by omega) hgw, loc_ext XS1 (by omega) LR, hbLF⟩
   ·skip
    go_simp
    refine (HI.out _ J.rd).mono ?_
    rintro x9 wq2 ⟨rfl, hrq, hxq⟩
    replace J := J.call hrq hxq
    replace LR := loc_ext hxq (by omega) LR
    replace ho5 := own_u8_far ho5 hgv hxq
    clear hrq hxq
    refine hK.out _ _ trivial (fun hHeld => ?_)
    clear hK K
    try simp only [Act.put, nrmA, nrmZ, nrmS]
    refine rd2 2 6 rfl rfl (by kernel_rfl) (fun K hK => ?_) fun K hK => ?_
    ·skip
     have CV := conv_vs (P := Tryz.prog) ((own_u8 (ok' := fun _ => True) ho5).sl fun _ _ => trivial) 29 9 5 Tryz.underlying29 Tryz.underlying5 Tryz.underlying9
     go_simp
     clear CV
     refine hK.out _ _ trivial (fun hHeld => ?_)
     clear hK K
     try simp only [Act.put, nrmA, nrmZ, nrmS]
     refine takeG 5 14 (.agg #[.string ⟨nm.toArray⟩, .int .i64 k, .slice none 0 0, .int .i64 0, .int .i64 0, .bool false, .string ⟨#[]⟩, .float .f64 0]) rfl rfl (by kernel_rfl) (fun _ _ _ h => h) (Or.inl ⟨by rfl, by (intro wz hSw; (try dsimp only at hSw); go_simp)⟩) (by assumption) ?_
     try simp only [Act.put, nrmA, nrmZ, nrmS]
     refine rd1 6 rfl (by kernel_rfl) fun K hK => ?_
     go_simp
     have LF := Loc1.new wq2 41 #[.string ⟨#[]⟩, .int .i64 0, .slice none 0 0, .int .i64 0, .int .i64 0, .bool false, .string ⟨#[]⟩, .float .f64 0]
     have hbLF : w.heap.size < wq2.heap.size := (by have := lt_of_heap LR; omega)
     have BA : Below wq2.heap.size wq2 (wq2.alloc (.cells #[.string ⟨#[]⟩, .int .i64 0, .slice none 0 0, .int .i64 0, .int .i64 0, .bool false, .string ⟨#[]⟩, .float .f64 0] 41)) := bW
     replace J := J.below BA
     replace LR := LR.bel BA
     replace ho5 := ho5.below BA
     clear BA
     generalize hWq : (wq2.alloc (.cells #[.string ⟨#[]⟩, .int .i64 0, .slice none 0 0, .int .i64 0, .int .i64 0, .bool false, .string ⟨#[]⟩, .float .f64 0] 41)) = wq3 at *
     clear hWq
     refine hK.out _ _ trivial (fun hHeld => ?_)
     clear hK K
     try simp only [Act.put, nrmA, nrmZ, nrmS]
     refine rd1 7 rfl (by kernel_rfl) fun K hK => ?_
     obtain ⟨m0, m1, m2, m3, m4, m5, m6, m7, u0, u1, u2, u3, u4, u5, u6, u7, hzm⟩ := op8 LF
     go_simp
     obtain ⟨LS1, XS1⟩ := st8 LF (.string ⟨nm.toArray⟩) (.int .i64 k) (.slice none 0 0) (.int .i64 0) (.int .i64 0) (.bool false) (.string ⟨#[]⟩) (.float .f64 0)
     refine hK.out _ _ trivial (fun hHeld => ?_)
     clear hK K
     try simp only [Act.put, nrmA, nrmZ, nrmS]
     refine wpAnyH_done (by kernel_rfl) ?_ _
     simp only [Exit.then]
     apply_assumption
     go_meet
     exact ⟨rfl, _, rfl, LS1, J.off XS1 (by omega) hgw, loc_ext XS1 (by omega) LR, hbLF⟩
    ·skip
     go_simp
     have LF := Loc1.new wq2 41 #[.string ⟨#[]⟩, .int .i64 0, .slice none 0 0, .int .i64 0, .int .i64 0, .bool false, .string ⟨#[]⟩, .float .f64 0]
     have hbLF : w.heap.size < wq2.heap.size := (by have := lt_of_heap LR; omega)
     have BA : Below wq2.heap.size wq2 (wq2.alloc (.cells #[.string ⟨#[]⟩, .int .i64 0, .slice none 0 0, .int .i64 0, .int .i64 0, .bool false, .string ⟨#[]⟩, .float .f64 0] 41)) := bW
     replace J := J.below BA
     replace LR := LR.bel BA
     replace ho5 := ho5.below BA
     clear BA
     generalize hWq : (wq2.alloc (.cells #[.string ⟨#[]⟩, .int .i64 0, .slice none 0 0, .int .i64 0, .int .i64 0, .bool false, .string ⟨#[]⟩, .float .f64 0] 41)) = wq3 at *
     clear hWq
     refine hK.out _ _ trivial (fun hHeld => ?_)
     clear hK K
     try simp only [Act.put, nrmA, nrmZ, nrmS]
     refine rd1 2 rfl (by kernel_rfl) fun K hK => ?_
     have CV := conv_vs (P := Tryz.prog) ((own_u8 (ok' := fun _ => True) ho5).sl fun _ _ => trivial) 29 9 5 Tryz.underlying29 Tryz.underlying5 Tryz.underlying9
     go_simp
     clear CV
     refine hK.out _ _ trivial (fun hHeld => ?_)
     clear hK K
     try simp only [Act.put, nrmA, nrmZ, nrmS]
     refine takeG 5 14 (.agg #[.string ⟨nm.toArray⟩, .int .i64 k, .slice none 0 0, .int .i64 0, .int .i64 0, .bool false, .string ⟨#[]⟩, .float .f64 0]) rfl rfl (by kernel_rfl) (fun _ _ _ h => h) (Or.inl ⟨by rfl, by (intro wz hSw; (try dsimp only at hSw); go_simp)⟩) (by assumption) ?_
     try simp only [Act.put, nrmA, nrmZ, nrmS]
     refine rd1 7 rfl (by kernel_rfl) fun K hK => ?_
     obtain ⟨m0, m1, m2, m3, m4, m5, m6, m7, u0, u1, u2, u3, u4, u5, u6, u7, hzm⟩ := op8 LF
     go_simp
     obtain ⟨LS1, XS1⟩ := st8 LF (.string ⟨nm.toArray⟩) (.int .i64 k) (.slice none 0 0) (.int .i64 0) (.int .i64 0) (.bool false) (.string ⟨#[]⟩) (.float .f64 0)
     refine hK.out _ _ trivial (fun hHeld => ?_)
     clear hK K
     try simp only [Act.put, nrmA, nrmZ, nrmS]
     refine wpAnyH_done (by kernel_rfl) ?_ _
     simp only [Exit.then]
     apply_assumption
     go_meet
     exact ⟨rfl, _, rfl, LS1, J.off XS1 (by omega) hgw, loc_ext XS1 (by omega) LR, hbLF⟩
   ·skip
    go_simp
    have LF := Loc1.new wq1 41 #[.string ⟨#[]⟩, .int .i64 0, .slice none 0 0, .int .i64 0, .int .i64 0, .bool false, .string ⟨#[]⟩, .float .f64 0]
    have hbLF : w.heap.size < wq1.heap.size := (by have := lt_of_heap LR; omega)
    have BA : Below wq1.heap.size wq1 (wq1.alloc (.cells #[.string ⟨#[]⟩, .int .i64 0, .slice none 0 0, .int .i64 0, .int .i64 0, .bool false, .string ⟨#[]⟩, .float .f64 0] 41)) := bW
    replace J := J.below BA
    replace LR := LR.bel BA
    replace ho5 := ho5.below BA
    clear BA
    generalize hWq : (wq1.alloc (.cells #[.string ⟨#[]⟩, .int .i64 0, .slice none 0 0, .int .i64 0, .int .i64 0, .bool false, .string ⟨#[]⟩, .float .f64 0] 41)) = wq2 at *
    clear hWq
    refine hK.out _ _ trivial (fun hHeld => ?_)
    clear hK K
    try simp only [Act.put, nrmA, nrmZ, nrmS]
    refine rd2 2 4 rfl rfl (by kernel_rfl) (fun K hK => ?_) fun K hK => ?_
    ·skip
     have CV := conv_vs (P := Tryz.prog) ((own_u8 (ok' := fun _ => True) ho5).sl fun _ _ => trivial) 29 9 5 Tryz.underlying29 Tryz.underlying5 Tryz.underlying9
     go_simp
     clear CV
     refine hK.out _ _ trivial (fun hHeld => ?_)
     clear hK K
     try simp only [Act.put, nrmA, nrmZ, nrmS]
     refine rd1 4 rfl (by kernel_rfl) fun K hK => ?_
     go_simp
     refine (HI.out _ J.rd).mono ?_
     rintro x9 wq3 ⟨rfl, hrq, hxq⟩
     replace J := J.call hrq hxq
     replace LR := loc_ext hxq (by omega) LR
     replace LF := loc_ext hxq (by omega) LF
     replace ho5 := own_u8_far ho5 hgv hxq
     clear hrq hxq
     refine hK.out _ _ trivial (fun hHeld => ?_)
     clear hK K
     try simp only [Act.put, nrmA, nrmZ, nrmS]
     refine takeG 5 14 (.agg #[.string ⟨nm.toArray⟩, .int .i64 k, .slice none 0 0, .int .i64 0, .int .i64 0, .bool false, .string ⟨#[]⟩, .float .f64 0]) rfl rfl (by kernel_rfl) (fun _ _ _ h => h) (Or.inl ⟨by rfl, by (intro wz hSw; (try dsimp only at hSw); go_simp)⟩) (by assumption) ?_
     try simp only [Act.put, nrmA, nrmZ, nrmS]
     refine rd1 7 rfl (by kernel_rfl) fun K hK => ?_
     obtain ⟨m0, m1, m2, m3, m4, m5, m6, m7, u0, u1, u2, u3, u4, u5, u6, u7, hzm⟩ := op8 LF
     go_simp
     obtain ⟨LS1, XS1⟩ := st8 LF (.string ⟨nm.toArray⟩) (.int .i64 k) (.slice none 0 0) (.int .i64 0) (.int .i64 0) (.bool false) (.string ⟨#[]⟩) (.float .f64 0)
     refine hK.out _ _ trivial (fun hHeld => ?_)
     clear hK K
     try simp only [Act.put, nrmA, nrmZ, nrmS]
     refine wpAnyH_done (by kernel_rfl) ?_ _
     simp only [Exit.then]
     apply_assumption
     go_meet
     exact ⟨rfl, _, rfl, LS1, J.off XS1 (by omega) hgw, loc_ext XS1 (by omega) LR, hbLF⟩
    ·skip
     go_simp
     refine (HI.out _ J.rd).mono ?_
     rintro x9 wq3 ⟨rfl, hrq, hxq⟩
     replace J := J.call hrq hxq
     replace LR := loc_ext hxq (by omega) LR
     replace LF := loc_ext hxq (by omega) LF
     replace ho5 := own_u8_far ho5 hgv hxq
     clear hrq hxq
     refine hK.out _ _ trivial (fun hHeld => ?_)
     clear hK K
     try simp only [Act.put, nrmA, nrmZ, nrmS]
     refine rd1 2 rfl (by kernel_rfl) fun K hK => ?_
     have CV := conv_vs (P := Tryz.prog) ((own_u8 (ok' := fun _ => True) ho5).sl fun _ _ => trivial) 29 9 5 Tryz.underlying29 Tryz.underlying5 Tryz.underlying9
     go_simp
     clear CV
     refine hK.out _ _ trivial (fun hHeld => ?_)
     clear hK K
     try simp only [Act.put, nrmA, nrmZ, nrmS]
     refine takeG 5 14 (.agg #[.string ⟨nm.toArray⟩, .int .i64 k, .slice none 0 0, .int .i64 0, .int .i64 0, .bool false, .string ⟨#[]⟩, .float .f64 0]) rfl rfl (by kernel_rfl) (fun _ _ _ h => h) (Or.inl ⟨by rfl, by (intro wz hSw; (try dsimp only at hSw); go_simp)⟩) (by assumption) ?_
     try simp only [Act.put, nrmA, nrmZ, nrmS]
     refine rd1 7 rfl (by kernel_rfl) fun K hK => ?_
     obtain ⟨m0, m1, m2, m3, m4, m5, m6, m7, u0, u1, u2, u3, u4, u5, u6, u7, hzm⟩ := op8 LF
     go_simp
     obtain ⟨LS1, XS1⟩ := st8 LF (.string ⟨nm.toArray⟩) (.int .i64 k) (.slice none 0 0) (.int .i64 0) (.int .i64 0) (.bool false) (.string ⟨#[]⟩) (.float .f64 0)
     refine hK.out _ _ trivial (fun hHeld => ?_)
     clear hK K
     try simp only [Act.put, nrmA, nrmZ, nrmS]
     refine wpAnyH_done (by kernel_rfl) ?_ _
     simp only [Exit.then]
     apply_assumption
     go_meet
     exact ⟨rfl, _, rfl, LS1, J.off XS1 (by omega) hgw, loc_ext XS1 (by omega) LR, hbLF⟩
  ·skip
   go_simp
   have LF := Loc1.new wd 41 #[.string ⟨#[]⟩, .int .i64 0, .slice none 0 0, .int .i64 0, .int .i64 0, .bool false, .string ⟨#[]⟩, .float .f64 0]
   have hbLF : w.heap.size < wd.heap.size := (by have := lt_of_heap LR; omega)
   have BA : Below wd.heap.size wd (wd.alloc (.cells #[.string ⟨#[]⟩, .int .i64 0, .slice none 0 0, .int .i64 0, .int .i64 0, .bool false, .string ⟨#[]⟩, .float .f64 0] 41)) := bW
   replace J := J.below BA
   replace LR := LR.bel BA
   clear BA
   generalize hWq : (wd.alloc (.cells #[.string ⟨#[]⟩, .int .i64 0, .slice none 0 0, .int .i64 0, .int .i64 0, .bool false, .string ⟨#[]⟩, .float .f64 0] 41)) = wq1 at *
   clear hWq
   refine hK.out _ _ trivial (fun hHeld => ?_)
   clear hK K
   try simp only [Act.put, nrmA, nrmZ, nrmS]
   refine rd1 1 rfl (by kernel_rfl) fun K hK => ?_
   go_simp
   refine (HB.out _ J.rd).mono ?_
   rintro x9 wq2 ⟨v5, rfl, ho5, hrq, hxq⟩
   obtain ⟨Av, nv, cv, rfl, -⟩ := ho5.form'
   have hgv : g < wq1.heap.size := J.rd.lt
   replace J := J.call hrq hxq
   replace LR := loc_ext hxq (by omega) LR
   replace LF := loc_ext hxq (by omega) LF
   clear hrq hxq
   refine hK.out _ _ trivial (fun hHeld => ?_)
   clear hK K
   try simp only [Act.put, nrmA, nrmZ, nrmS]
   refine rd2 2 4 rfl rfl (by kernel_rfl) (fun K hK => ?_) fun K hK => ?_
   ·skip
    have CV := conv_vs (P := Tryz.prog) ((own_u8 (ok' := fun _ => True) ho5).sl fun _ _ => trivial) 29 9 5 Tryz.underlying29 Tryz.underlying5 Tryz.underlying9
    go_simp
    clear CV
    refine hK.out _ _ trivial (fun hHeld => ?_)
    clear hK K
    try simp only [Act.put, nrmA, nrmZ, nrmS]
    refine rd1 4 rfl (by kernel_rfl) fun K hK => ?_
    go_simp
    refine (HI.out _ J.rd).mono ?_
    rintro x9 wq3 ⟨rfl, hrq, hxq⟩
    replace J := J.call hrq hxq
    replace LR := loc_ext hxq (by omega) LR
    replace LF := loc_ext hxq (by omega) LF
    replace ho5 := own_u8_far ho5 hgv hxq
    clear hrq hxq
    refine hK.out _ _ trivial (fun hHeld => ?_)
    clear hK K
    try simp only [Act.put, nrmA, nrmZ, nrmS]
    refine takeG 5 14 (.agg #[.string ⟨nm.toArray⟩, .int .i64 k, .slice none 0 0, .int .i64 0, .int .i64 0, .bool false, .string ⟨#[]⟩, .float .f64 0]) rfl rfl (by kernel_rfl) (fun _ _ _ h => h) (Or.inl ⟨by rfl, by (intro wz hSw; (try dsimp only at hSw); go_simp)⟩) (by assumption) ?_
    try simp only [Act.put, nrmA, nrmZ, nrmS]
    refine rd1 7 rfl (by kernel_rfl) fun K hK => ?_
    obtain ⟨m0, m1, m2, m3, m4, m5, m6, m7, u0, u1, u2, u3, u4, u5, u6, u7, hzm⟩ := op8 LF
    go_simp
    obtain ⟨LS1, XS1⟩ := st8 LF (.string ⟨nm.toArray⟩) (.int .i64 k) (.slice none 0 0) (.int .i64 0) (.int .i64 0) (.bool false) (.string ⟨#[]⟩) (.float .f64 0)
    refine hK.out _ _ trivial (fun hHeld => ?_)
    clear hK K
    try simp only [Act.put, nrmA, nrmZ, nrmS]
    refine wpAnyH_done (by kernel_rfl) ?_ _
    simp only [Exit.then]
    apply_assumption
    go_meet
    exact ⟨rfl, _, rfl, LS1, J.off XS1 (by omega) hgw, loc_ext XS1 (by omega) LR, hbLF⟩
   ·skip
    go_simp
    refine (HI.out _ J.rd).mono ?_
    rintro x9 wq3 ⟨rfl, hrq, hxq⟩
    replace J := J.call hrq hxq
    replace LR := loc_ext hxq (by omega) LR
    replace LF := loc_ext hxq (by omega) LF
    replace ho5 := own_u8_far ho5 hgv hxq
    clear hrq hxq
    refine hK.out _ _ trivial (fun hHeld => ?_)
    clear hK K
    try simp only [Act.put, nrmA, nrmZ, nrmS]
    refine rd1 2 rfl (by kernel_rfl) fun K hK => ?_
    have CV := conv_vs (P := Tryz.prog) ((own_u8 (ok' := fun _ => True) ho5).sl fun _ _ => trivial) 29 9 5 Tryz.underlying29 Tryz.underlying5 Tryz.underlying9
    go_simp
    clear CV
    refine hK.out _ _ trivial (fun hHeld => ?_)
    clear hK K
    try simp only [Act.put, nrmA, nrmZ, nrmS]
    refine takeG 5 14 (.agg #[.string ⟨nm.toArray⟩, .int .i64 k, .slice none 0 0, .int .i64 0, .int .i64 0, .bool false, .string ⟨#[]⟩, .float .f64 0]) rfl rfl (by kernel_rfl) (fun _ _ _ h => h) (Or.inl ⟨by rfl, by (intro wz hSw; (try dsimp only at hSw); go_simp)⟩) (by assumption) ?_
    try simp only [Act.put, nrmA, nrmZ, nrmS]
    refine rd1 7 rfl (by kernel_rfl) fun K hK => ?_
    obtain ⟨m0, m1, m2, m3, m4, m5, m6, m7, u0, u1, u2, u3, u4, u5, u6, u7, hzm⟩ := op8 LF
    go_simp
    obtain ⟨LS1, XS1⟩ := st8 LF (.string ⟨nm.toArray⟩) (.int .i64 k) (.slice none 0 0) (.int .i64 0) (.int .i64 0) (.bool false) (.string ⟨#[]⟩) (.float .f64 0)
    refine hK.out _ _ trivial (fun hHeld => ?_)
    clear hK K
    try simp only [Act.put, nrmA, nrmZ, nrmS]
    refine wpAnyH_done (by kernel_rfl) ?_ _
    simp only [Exit.then]
    apply_assumption
    go_meet
    exact ⟨rfl, _, rfl, LS1, J.off XS1 (by omega) hgw, loc_ext XS1 (by omega) LR, hbLF⟩
 case rest =>
 obtain ⟨rfl, fb, rfl, LF, J1, LR1, hfb⟩ := hcut
 clear J LR HB HI hz0
 obtain ⟨w2, hwx⟩ : ∃ x, x = wc := ⟨_, rfl⟩
 subst hwx
 have C1 := Lib.hid (qCount_c g 4 s2 J1.rd)
 have hle : (rCount 4 s2).1 ≤ 4 := rCount_le4 s2
 generalize rCount 4 s2 = p3 at *
 obtain ⟨n, s3⟩ := p3
 replace E := Lib.hid (show r = qFld2 nm k (qN (rBytes 32) s3 n) from E.out)
 replace C1 := Lib.hid (show Calls Tryz.prog 138 #[.pointer (some ⟨g, 0, none⟩), .int .i64 4] w2 (Rq (fun k => ok k ∧ k < w.heap.size) g w2 (.int .i64 (n : Int)) s3) from C1.out)
 simp only at hle
 go_wp2_with fail
 refine C1.out.mono ?_
 rintro x9 w3 ⟨rfl, hr3, hx3⟩
 have J3 := J1.call hr3 hx3
 have LF3 := loc_ext hx3 (by omega) LF
 have LR3 := loc_ext hx3 (by omega) LR1
 have hz3 := lt_of_heap LF3
 clear hr3 hx3 C1 J1 LF LR1
 go_wp2_with fail
 generalize hB : w3.heap.size = B at *
 have hB3 : B ≤ w3.heap.size := by omega
 clear hB
 go_loopw [6] (fun v6 wz => QF2 ok w g nm k s3 n fb B v6 wz) (fun v6 _ => n - (intOf v6).toNat)
 case atStart => exact ⟨0, _, Nat.zero_le _, rfl, LF3, J3, LR3, Own.nil _ _ _ _ _, hB3⟩
 case round =>
  obtain ⟨wo, hwx⟩ : ∃ x, x = wr := ⟨_, rfl⟩
  subst hwx
  clear J3 LF3 LR3 hB3
  obtain ⟨i, kv, hi, rfl, LF, J, LR, HO, hws⟩ := hrel
  have EN := Lib.hid (show (qN (rBytes 32) s3 (i + 1)) = ((qN (rBytes 32) s3 i).1 ++ [(rBytes 32 (qN (rBytes 32) s3 i).2).1], (rBytes 32 (qN (rBytes 32) s3 i).2).2) from rfl)
  have EL := Lib.hid (qN_len (rBytes 32) s3 i)
  have E0 := Lib.hid (fun (h : i = n) => show r = qFld2 nm k (qN (rBytes 32) s3 i) by rw [E.out, h])
  generalize qN (rBytes 32) s3 i = q at *
  obtain ⟨l, s4⟩ := q
  obtain ⟨Ak, nk, ck, rfl, hnk⟩ := HO.form'
  replace HO : Own kStr 9 (fun k => B ≤ k) wo B (.slice Ak nk ck) l := HO
  replace J : QL ok w g s4 wo := J
  have HNK := Lib.hid hnk
  clear hnk
  by_cases hin : i < n
  rotate_left
  ·have hi2 : i = n := by omega
   have E1 := Lib.hid (show r = qFld2 nm k (l, s4) from E0.out hi2)
   obtain rfl : nk = l.length := HNK.out
   have hin1 : ¬ (i : Int) < (n : Int) := by omega
   clear hi2 E E0 EN EL hin
   have he4 := J.e
   go_upto_region 7 with (fail)
   by_cases he : s4.2 = 0
   rotate_left
   ·have he1 : (s4.2 != 0) = true := by simpa using he
    have E2 := Lib.hid (show r = .error s4.2 by rw [E1.out]; unfold qFld2; rw [if_pos he])
    have hne := Lib.hid he
    clear he
    go_upto_region 8 with (fail)
    obtain ⟨m0, m1, m2, m3, m4, m5, m6, m7⟩ := cells8 LF
    have hzm := lt_of_heap LF
    obtain ⟨q0, q1, q2, q3, q4, q5, q6, q7, y0, y1, y2, y3, y4, y5, y6, y7, hzq⟩ := op8 LR
    obtain ⟨LS1, XS1⟩ := st8 LR (.string ⟨nm.toArray⟩) (.int .i64 k) (.slice Ak l.length ck) (.int .i64 0) (.int .i64 0) (.bool false) (.string ⟨#[]⟩) (.float .f64 0)
    have J5 := J.off XS1 (Nat.le_refl _) hgw
    have HF := Lib.hid J5.ext
    obtain ⟨v0, v1, v2, v3, v4, v5, v6, v7⟩ := cells8 LS1
    clear LS1 XS1 J5
    go_region
    all_goals
     go_wp21
     rw [E2.out]
     exact bodyPost_ret (v := .tuple #[.agg #[.string ⟨nm.toArray⟩, .int .i64 k, .slice Ak l.length ck, .int .i64 0, .int .i64 0, .bool false, .string ⟨#[]⟩, .float .f64 0], .int .i64 s4.2]) (by simp [results, Tryz.results139, go_sem, v0, v1, v2, v3, v4, v5, v6, v7]) rfl ⟨⟨hne.out, ⟨nm, k, [], zeroV⟩, _, _, _, rfl⟩, HF.out.trans (ext_drew _ _)⟩
   have he1 : (s4.2 != 0) = false := by simpa using he
   have E2 := Lib.hid (show r = qFld3 nm k l (gVal s4) by rw [E1.out]; unfold qFld2; rw [if_neg (by simpa using he)])
   clear he
   have C1 := Lib.hid (qget_c g s4 J.rd)
   generalize gVal s4 = G at *
   obtain ⟨⟨v, x⟩, s5⟩ := G
   replace C1 := Lib.hid (show Calls Tryz.prog 169 #[.pointer (some ⟨g, 0, none⟩)] wo (fun e w' => e = .returned (.tuple #[.agg #[.int .i64 v.kind, .int .i64 v.int, .bool v.bool, .string ⟨v.text.toArray⟩, .float .f64 v.num], .int .i64 x]) ∧ RdQ (fun k => ok k ∧ k < w.heap.size) g w' s5.1 s5.2 ∧ Ext (fun k => k ≠ g) wo w') from C1.out)
   go_wp2_with fail
   refine C1.out.mono ?_
   rintro x9 w5 ⟨rfl, hr5, hx5⟩
   replace J := J.call hr5 hx5
   replace LF := loc_ext hx5 (by omega) LF
   replace LR := loc_ext hx5 (by omega) LR
   replace HO := own_str_far HO (by omega) hx5
   clear hr5 hx5 C1 he4
   go_upto_region 10 with (fail)
   have BA : Below w5.heap.size w5 (w5.alloc (.cells #[.int .i64 v.kind, .int .i64 v.int, .bool v.bool, .string ⟨v.text.toArray⟩, .float .f64 v.num] 39)) := bW
   have LV := Loc1.new w5 39 #[.int .i64 v.kind, .int .i64 v.int, .bool v.bool, .string ⟨v.text.toArray⟩, .float .f64 v.num]
   replace J := J.below BA
   replace HO := HO.below BA
   replace LF := LF.bel BA
   replace LR := LR.bel BA
   clear BA
   generalize hw6 : (w5.alloc (.cells #[.int .i64 v.kind, .int .i64 v.int, .bool v.bool, .string ⟨v.text.toArray⟩, .float .f64 v.num] 39)) = w6 at *
   clear hw6
   obtain ⟨x0, x1, x2, x3, x4⟩ := cells5 LV
   have hzx := lt_of_heap LV
   obtain ⟨m0, m1, m2, m3, m4, m5, m6, m7, u0, u1, u2, u3, u4, u5, u6, u7, hzm⟩ := op8 LF
   go_upto_region 11 with (fail)
   have XF : Ext (fun k => k ≠ fb) w6 (((((w6.setCell ⟨fb, 3, none⟩ (.int .i64 v.kind)).setCell ⟨fb, 4, none⟩ (.int .i64 v.int)).setCell ⟨fb, 5, none⟩ (.bool v.bool)).setCell ⟨fb, 6, none⟩ (.string ⟨v.text.toArray⟩)).setCell ⟨fb, 7, none⟩ (.float .f64 v.num)) := (ext_set_ne (ext_set_ne (ext_set_ne (ext_set_ne (ext_set_ne (Ext.refl _ _) 3 _) 4 _) 5 _) 6 _) 7 _)
   have LF7 : Loc1 fb 41 #[.string ⟨nm.toArray⟩, .int .i64 k, .slice Ak l.length ck, .int .i64 v.kind, .int .i64 v.int, .bool v.bool, .string ⟨v.text.toArray⟩, .float .f64 v.num] (((((w6.setCell ⟨fb, 3, none⟩ (.int .i64 v.kind)).setCell ⟨fb, 4, none⟩ (.int .i64 v.int)).setCell ⟨fb, 5, none⟩ (.bool v.bool)).setCell ⟨fb, 6, none⟩ (.string ⟨v.text.toArray⟩)).setCell ⟨fb, 7, none⟩ (.float .f64 v.num)) := by
    have := heap_set (heap_set (heap_set (heap_set (heap_set LF 3 (.int .i64 v.kind)) 4 (.int .i64 v.int)) 5 (.bool v.bool)) 6 (.string ⟨v.text.toArray⟩)) 7 (.float .f64 v.num)
    unfold Loc1
    simpa using this
   replace J := J.off XF (by omega) hgw
   replace LR := loc_ext XF (by omega) LR
   replace HO := own_sc_far (h1 := fun _ => rfl) HO (show fb < B by omega) XF
   clear m0 m1 m2 m3 m4 m5 m6 m7 u0 u1 u2 u3 u4 u5 u6 u7 hzm
   clear LF XF LV x0 x1 x2 x3 x4 hzx
   generalize hw7 : (((((w6.setCell ⟨fb, 3, none⟩ (.int .i64 v.kind)).setCell ⟨fb, 4, none⟩ (.int .i64 v.int)).setCell ⟨fb, 5, none⟩ (.bool v.bool)).setCell ⟨fb, 6, none⟩ (.string ⟨v.text.toArray⟩)).setCell ⟨fb, 7, none⟩ (.float .f64 v.num)) = w7 at *
   clear hw7
   obtain ⟨m0, m1, m2, m3, m4, m5, m6, m7⟩ := cells8 LF7
   have hzm := lt_of_heap LF7
   obtain ⟨q0, q1, q2, q3, q4, q5, q6, q7, y0, y1, y2, y3, y4, y5, y6, y7, hzq⟩ := op8 LR
   obtain ⟨LS1, XS1⟩ := st8 LR (.string ⟨nm.toArray⟩) (.int .i64 k) (.slice Ak l.length ck) (.int .i64 v.kind) (.int .i64 v.int) (.bool v.bool) (.string ⟨v.text.toArray⟩) (.float .f64 v.num)
   have J5 := J.off XS1 (Nat.le_refl _) hgw
   have HF := Lib.hid J5
   have HS := Lib.hid (((own_sc_far (h1 := fun _ => rfl) HO (show w.heap.size < B by omega) XS1).sl fun k hk => hk).weak (ok' := fun k => w.heap.size ≤ k) fun k hk => by have : B ≤ k := hk; omega)
   obtain ⟨v0, v1, v2, v3, v4, v5, v6, v7⟩ := cells8 LS1
   clear LS1 XS1 J5
   go_wp21
   rw [E2.out]
   unfold qFld3
   by_cases hx : x = 0
   ·rw [if_neg (by simpa using hx)]
    subst hx
    exact bodyPost_ret (v := .tuple #[.agg #[.string ⟨nm.toArray⟩, .int .i64 k, .slice Ak l.length ck, .int .i64 v.kind, .int .i64 v.int, .bool v.bool, .string ⟨v.text.toArray⟩, .float .f64 v.num], .int .i64 0]) (by simp [results, Tryz.results139, go_sem, v0, v1, v2, v3, v4, v5, v6, v7]) rfl ⟨⟨_, rfl, fld_mk (f := ⟨nm, k, l, v⟩) HS.out, HF.out.fin⟩, HF.out.ext⟩
   ·rw [if_pos (by simpa using hx)]
    exact bodyPost_ret (v := .tuple #[.agg #[.string ⟨nm.toArray⟩, .int .i64 k, .slice Ak l.length ck, .int .i64 v.kind, .int .i64 v.int, .bool v.bool, .string ⟨v.text.toArray⟩, .float .f64 v.num], .int .i64 x]) (by simp [results, Tryz.results139, go_sem, v0, v1, v2, v3, v4, v5, v6, v7]) rfl ⟨⟨hx, ⟨nm, k, [], v⟩, _, _, _, rfl⟩, HF.out.ext⟩
  have hi0 : (i : Int) < (n : Int) := by omega
  have HB := Lib.hid (fun (W : World) (h : RdQ (fun k => ok k ∧ k < w.heap.size) g W s4.1 s4.2) => qBytes_c g 32 s4 h)
  generalize rBytes 32 s4 = p4 at *
  obtain ⟨en, s5⟩ := p4
  replace HB := Lib.hid (show ∀ (W : World), RdQ (fun k => ok k ∧ k < w.heap.size) g W s4.1 s4.2 → Calls Tryz.prog 82 #[.pointer (some ⟨g, 0, none⟩), .int .i64 32] W (fun e w' => ∃ v, e = .returned v ∧ Own kU8 5 (fun k => ok k ∧ k < w.heap.size) w' W.heap.size v en ∧ RdQ (fun k => ok k ∧ k < w.heap.size) g w' s5.1 s5.2 ∧ Ext (fun k => k ≠ g) W w') from HB.out)
  have hgB : g < B := by omega
  have hl4 : l.length ≤ 4 := by have : l.length = i := EL.out; omega
  go_upto_region 6 with (fail)
  refine wp_region_held_drew (S := fun W => True) (by kernel_rfl) trivial (fun hHeld => ?_)
  replace J := J.below (show Below wo.heap.size wo wo.drew from bW)
  replace LF := LF.dr
  replace LR := LR.dr
  replace HO := HO.below (show Below wo.heap.size wo wo.drew from bW)
  replace hws : B ≤ wo.drew.heap.size := hws
  generalize hwd : wo.drew = wd at *
  clear hwd
  refine takeG 0 22 (.pointer (some ⟨fb, 2, none⟩)) rfl rfl (by kernel_rfl) (fun _ _ _ h => h) (Or.inl ⟨by rfl, by (intro wz hSw; (try dsimp only at hSw); go_simp)⟩) (by assumption) ?_
  try simp only [Act.put, nrmA, nrmZ, nrmS]
  refine takeG 2 24 (.pointer (some ⟨g, 0, none⟩)) rfl rfl (by kernel_rfl) (fun _ _ _ h => h) (Or.inl ⟨by rfl, by (intro wz hSw; (try dsimp only at hSw); go_simp)⟩) (by assumption) ?_
  try simp only [Act.put, nrmA, nrmZ, nrmS]
  refine rd2 1 3 rfl rfl (by kernel_rfl) (fun K hK => ?_) fun K hK => ?_
  ·skip
   have mld := cell_of LF 2
   simp only [List.getElem?_toArray, List.getElem?_cons_zero, List.getElem?_cons_succ] at mld
   go_simp
   clear mld
   refine hK.out _ _ trivial (fun hHeld => ?_)
   clear hK K
   try simp only [Act.put, nrmA, nrmZ, nrmS]
   refine rd1 3 rfl (by kernel_rfl) fun K hK => ?_
   go_simp
   refine (HB.out _ J.rd).mono ?_
   rintro x9 wq1 ⟨v5, rfl, ho5, hrq, hxq⟩
   obtain ⟨Av, nv, cv, rfl, -⟩ := ho5.form'
   have hgv : g < wd.heap.size := J.rd.lt
   replace J := J.call hrq hxq
   replace LF := loc_ext hxq (by omega) LF
   replace LR := loc_ext hxq (by omega) LR
   replace HO := own_str_far HO hgB hxq
   replace hws := Nat.le_trans hws hxq.size
   clear hrq hxq
   refine hK.out _ _ trivial (fun hHeld => ?_)
   clear hK K
   try simp only [Act.put, nrmA, nrmZ, nrmS]
   refine rd1 4 rfl (by kernel_rfl) fun K hK => ?_
   have CV := conv_vs (P := Tryz.prog) ((own_u8 (ok' := fun _ => True) ho5).sl fun _ _ => trivial) 29 9 5 Tryz.underlying29 Tryz.underlying5 Tryz.underlying9
   go_simp
   clear CV
   refine hK.out _ _ trivial (fun hHeld => ?_)
   clear hK K
   try simp only [Act.put, nrmA, nrmZ, nrmS]
   refine rd1 5 rfl (by kernel_rfl) fun K hK => ?_
   have AB := Lib.hid (append_fresh (P := Tryz.prog) (d := kStr) (e := 9) (t := 36) (tx := 36) (ty := 36) (w := wq1) (base := B) (b0 := wq1.heap.size) Tryz.underlying36 Tryz.underlying36 infoStr rfl HO (by omega) (c := [.string ⟨en.toArray⟩]) rfl (by omega) (fun k hk => (HO.lt k hk).2) (by omega) (by omega))
   go_simp
   have LFa : Loc1 _ _ _ (wq1.alloc (.cells #[.string ⟨en.toArray⟩] 9)) := LF.al _
   refine hK.out _ _ trivial (fun hHeld => ?_)
   clear hK K
   try simp only [Act.put, nrmA, nrmZ, nrmS]
   refine rd1 6 rfl (by kernel_rfl) fun K hK => ?_
   refine step_append rfl (.tmp 23) (.tmp 27) 36 36 rfl rfl rfl AB.out ?_
   rintro v' w'' ⟨ho2, hg2⟩
   obtain ⟨A9, n9, c9, rfl, hn9⟩ := ho2.form'
   have XG : Ext (fun k => k < B) wq1 w'' := ⟨hg2.os, hg2.tape, hg2.output, hg2.size, fun k hk hkb => hg2.block k hk (fun e => by have := (HO.lt k e.symm).1; omega)⟩
   replace J := J.grown XG (by omega) hgw
   replace LF := (XG.block _ (lt_of_heap LF) (by omega)).trans LF
   replace LR := (XG.block _ (lt_of_heap LR) (by omega)).trans LR
   have hwB : B ≤ w''.heap.size := by have := XG.size; omega
   have HN9 := Lib.hid hn9
   have HO2 := Lib.hid ho2
   clear ho2 hg2 hn9 XG AB LFa
   refine hK.out _ _ trivial (fun hHeld => ?_)
   clear hK K
   try simp only [Act.put, nrmA, nrmZ, nrmS]
   refine takeG 7 29 (.pointer (some ⟨fb, 2, none⟩)) rfl rfl (by kernel_rfl) (fun _ _ _ h => h) (Or.inl ⟨by rfl, by (intro wz hSw; (try dsimp only at hSw); go_simp)⟩) (by assumption) ?_
   try simp only [Act.put, nrmA, nrmZ, nrmS]
   refine rd1 8 rfl (by kernel_rfl) fun K hK => ?_
   have m1w := cell_of LF 2
   have u1w := free_of LF 2
   have hzw := lt_of_heap LF
   simp only [List.getElem?_toArray, List.getElem?_cons_zero, List.getElem?_cons_succ] at m1w
   go_simp
   refine hK.out _ _ trivial (fun hHeld => ?_)
   clear hK K
   try simp only [Act.put, nrmA, nrmZ, nrmS]
   refine wpAnyH_done (by kernel_rfl) ?_ _
   have XF : Ext (fun k => k ≠ fb) w'' (w''.setCell ⟨fb, 2, none⟩ (.slice A9 n9 c9)) := ext_set_ne (Ext.refl _ _) 2 _
   have LFF : Loc1 fb 41 #[.string ⟨nm.toArray⟩, .int .i64 k, .slice A9 n9 c9, .int .i64 0, .int .i64 0, .bool false, .string ⟨#[]⟩, .float .f64 0] (w''.setCell ⟨fb, 2, none⟩ (.slice A9 n9 c9)) := by have := heap_set LF 2 (.slice A9 n9 c9); unfold Loc1; simpa using this
   have JF := J.off XF (by omega) hgw
   have LRF := loc_ext XF (by omega) LR
   have OF := own_sc_far (h1 := fun _ => rfl) HO2.out (show fb < B by omega) XF
   have hwF : B ≤ (w''.setCell ⟨fb, 2, none⟩ (.slice A9 n9 c9)).heap.size := by rw [World.size_setCell]; exact hwB
   have EL6 := EN.out
   (try simp only [Exit.inBlock, Exit.then])
   go_wp2_with fail
   go_roundw
   case rel => exact ⟨i + 1, _, by omega, by go_num, LFF, EN.out ▸ JF, LRF, EN.out ▸ own_sc OF, hwF⟩
   case measure => simp [intOf]; omega
  ·skip
   go_simp
   refine (HB.out _ J.rd).mono ?_
   rintro x9 wq1 ⟨v5, rfl, ho5, hrq, hxq⟩
   obtain ⟨Av, nv, cv, rfl, -⟩ := ho5.form'
   have hgv : g < wd.heap.size := J.rd.lt
   replace J := J.call hrq hxq
   replace LF := loc_ext hxq (by omega) LF
   replace LR := loc_ext hxq (by omega) LR
   replace HO := own_str_far HO hgB hxq
   replace hws := Nat.le_trans hws hxq.size
   clear hrq hxq
   refine hK.out _ _ trivial (fun hHeld => ?_)
   clear hK K
   try simp only [Act.put, nrmA, nrmZ, nrmS]
   refine rd2 1 4 rfl rfl (by kernel_rfl) (fun K hK => ?_) fun K hK => ?_
   ·skip
    have mld := cell_of LF 2
    simp only [List.getElem?_toArray, List.getElem?_cons_zero, List.getElem?_cons_succ] at mld
    go_simp
    clear mld
    refine hK.out _ _ trivial (fun hHeld => ?_)
    clear hK K
    try simp only [Act.put, nrmA, nrmZ, nrmS]
    refine rd1 4 rfl (by kernel_rfl) fun K hK => ?_
    have CV := conv_vs (P := Tryz.prog) ((own_u8 (ok' := fun _ => True) ho5).sl fun _ _ => trivial) 29 9 5 Tryz.underlying29 Tryz.underlying5 Tryz.underlying9
    go_simp
    clear CV
    refine hK.out _ _ trivial (fun hHeld => ?_)
    clear hK K
    try simp only [Act.put, nrmA, nrmZ, nrmS]
    refine rd1 5 rfl (by kernel_rfl) fun K hK => ?_
    have AB := Lib.hid (append_fresh (P := Tryz.prog) (d := kStr) (e := 9) (t := 36) (tx := 36) (ty := 36) (w := wq1) (base := B) (b0 := wq1.heap.size) Tryz.underlying36 Tryz.underlying36 infoStr rfl HO (by omega) (c := [.string ⟨en.toArray⟩]) rfl (by omega) (fun k hk => (HO.lt k hk).2) (by omega) (by omega))
    go_simp
    have LFa : Loc1 _ _ _ (wq1.alloc (.cells #[.string ⟨en.toArray⟩] 9)) := LF.al _
    refine hK.out _ _ trivial (fun hHeld => ?_)
    clear hK K
    try simp only [Act.put, nrmA, nrmZ, nrmS]
    refine rd1 6 rfl (by kernel_rfl) fun K hK => ?_
    refine step_append rfl (.tmp 23) (.tmp 27) 36 36 rfl rfl rfl AB.out ?_
    rintro v' w'' ⟨ho2, hg2⟩
    obtain ⟨A9, n9, c9, rfl, hn9⟩ := ho2.form'
    have XG : Ext (fun k => k < B) wq1 w'' := ⟨hg2.os, hg2.tape, hg2.output, hg2.size, fun k hk hkb => hg2.block k hk (fun e => by have := (HO.lt k e.symm).1; omega)⟩
    replace J := J.grown XG (by omega) hgw
    replace LF := (XG.block _ (lt_of_heap LF) (by omega)).trans LF
    replace LR := (XG.block _ (lt_of_heap LR) (by omega)).trans LR
    have hwB : B ≤ w''.heap.size := by have := XG.size; omega
    have HN9 := Lib.hid hn9
    have HO2 := Lib.hid ho2
    clear ho2 hg2 hn9 XG AB LFa
    refine hK.out _ _ trivial (fun hHeld => ?_)
    clear hK K
    try simp only [Act.put, nrmA, nrmZ, nrmS]
    refine takeG 7 29 (.pointer (some ⟨fb, 2, none⟩)) rfl rfl (by kernel_rfl) (fun _ _ _ h => h) (Or.inl ⟨by rfl, by (intro wz hSw; (try dsimp only at hSw); go_simp)⟩) (by assumption) ?_
    try simp only [Act.put, nrmA, nrmZ, nrmS]
    refine rd1 8 rfl (by kernel_rfl) fun K hK => ?_
    have m1w := cell_of LF 2
    have u1w := free_of LF 2
    have hzw := lt_of_heap LF
    simp only [List.getElem?_toArray, List.getElem?_cons_zero, List.getElem?_cons_succ] at m1w
    go_simp
    refine hK.out _ _ trivial (fun hHeld => ?_)
    clear hK K
    try simp only [Act.put, nrmA, nrmZ, nrmS]
    refine wpAnyH_done (by kernel_rfl) ?_ _
    have XF : Ext (fun k => k ≠ fb) w'' (w''.setCell ⟨fb, 2, none⟩ (.slice A9 n9 c9)) := ext_set_ne (Ext.refl _ _) 2 _
    have LFF : Loc1 fb 41 #[.string ⟨nm.toArray⟩, .int .i64 k, .slice A9 n9 c9, .int .i64 0, .int .i64 0, .bool false, .string ⟨#[]⟩, .float .f64 0] (w''.setCell ⟨fb, 2, none⟩ (.slice A9 n9 c9)) := by have := heap_set LF 2 (.slice A9 n9 c9); unfold Loc1; simpa using this
    have JF := J.off XF (by omega) hgw
    have LRF := loc_ext XF (by omega) LR
    have OF := own_sc_far (h1 := fun _ => rfl) HO2.out (show fb < B by omega) XF
    have hwF : B ≤ (w''.setCell ⟨fb, 2, none⟩ (.slice A9 n9 c9)).heap.size := by rw [World.size_setCell]; exact hwB
    have EL6 := EN.out
    (try simp only [Exit.inBlock, Exit.then])
    go_wp2_with fail
    go_roundw
    case rel => exact ⟨i + 1, _, by omega, by go_num, LFF, EN.out ▸ JF, LRF, EN.out ▸ own_sc OF, hwF⟩
    case measure => simp [intOf]; omega
   ·skip
    have CV := conv_vs (P := Tryz.prog) ((own_u8 (ok' := fun _ => True) ho5).sl fun _ _ => trivial) 29 9 5 Tryz.underlying29 Tryz.underlying5 Tryz.underlying9
    go_simp
    clear CV
    refine hK.out _ _ trivial (fun hHeld => ?_)
    clear hK K
    try simp only [Act.put, nrmA, nrmZ, nrmS]
    refine rd2 1 5 rfl rfl (by kernel_rfl) (fun K hK => ?_) fun K hK => ?_
    ·skip
     have mld := cell_of LF 2
     simp only [List.getElem?_toArray, List.getElem?_cons_zero, List.getElem?_cons_succ] at mld
     go_simp
     clear mld
     refine hK.out _ _ trivial (fun hHeld => ?_)
     clear hK K
     try simp only [Act.put, nrmA, nrmZ, nrmS]
     refine rd1 5 rfl (by kernel_rfl) fun K hK => ?_
     have AB := Lib.hid (append_fresh (P := Tryz.prog) (d := kStr) (e := 9) (t := 36) (tx := 36) (ty := 36) (w := wq1) (base := B) (b0 := wq1.heap.size) Tryz.underlying36 Tryz.underlying36 infoStr rfl HO (by omega) (c := [.string ⟨en.toArray⟩]) rfl (by omega) (fun k hk => (HO.lt k hk).2) (by omega) (by omega))
     go_simp
     have LFa : Loc1 _ _ _ (wq1.alloc (.cells #[.string ⟨en.toArray⟩] 9)) := LF.al _
     refine hK.out _ _ trivial (fun hHeld => ?_)
     clear hK K
     try simp only [Act.put, nrmA, nrmZ, nrmS]
     refine rd1 6 rfl (by kernel_rfl) fun K hK => ?_
     refine step_append rfl (.tmp 23) (.tmp 27) 36 36 rfl rfl rfl AB.out ?_
     rintro v' w'' ⟨ho2, hg2⟩
     obtain ⟨A9, n9, c9, rfl, hn9⟩ := ho2.form'
     have XG : Ext (fun k => k < B) wq1 w'' := ⟨hg2.os, hg2.tape, hg2.output, hg2.size, fun k hk hkb => hg2.block k hk (fun e => by have := (HO.lt k e.symm).1; omega)⟩
     replace J := J.grown XG (by omega) hgw
     replace LF := (XG.block _ (lt_of_heap LF) (by omega)).trans LF
     replace LR := (XG.block _ (lt_of_heap LR) (by omega)).trans LR
     have hwB : B ≤ w''.heap.size := by have := XG.size; omega
     have HN9 := Lib.hid hn9
     have HO2 := Lib.hid ho2
     clear ho2 hg2 hn9 XG AB LFa
     refine hK.out _ _ trivial (fun hHeld => ?_)
     clear hK K
     try simp only [Act.put, nrmA, nrmZ, nrmS]
     refine takeG 7 29 (.pointer (some ⟨fb, 2, none⟩)) rfl rfl (by kernel_rfl) (fun _ _ _ h => h) (Or.inl ⟨by rfl, by (intro wz hSw; (try dsimp only at hSw); go_simp)⟩) (by assumption) ?_
     try simp only [Act.put, nrmA, nrmZ, nrmS]
     refine rd1 8 rfl (by kernel_rfl) fun K hK => ?_
     have m1w := cell_of LF 2
     have u1w := free_of LF 2
     have hzw := lt_of_heap LF
     simp only [List.getElem?_toArray, List.getElem?_cons_zero, List.getElem?_cons_succ] at m1w
     go_simp
     refine hK.out _ _ trivial (fun hHeld => ?_)
     clear hK K
     try simp only [Act.put, nrmA, nrmZ, nrmS]
     refine wpAnyH_done (by kernel_rfl) ?_ _
     have XF : Ext (fun k => k ≠ fb) w'' (w''.setCell ⟨fb, 2, none⟩ (.slice A9 n9 c9)) := ext_set_ne (Ext.refl _ _) 2 _
     have LFF : Loc1 fb 41 #[.string ⟨nm.toArray⟩, .int .i64 k, .slice A9 n9 c9, .int .i64 0, .int .i64 0, .bool false, .string ⟨#[]⟩, .float .f64 0] (w''.setCell ⟨fb, 2, none⟩ (.slice A9 n9 c9)) := by have := heap_set LF 2 (.slice A9 n9 c9); unfold Loc1; simpa using this
     have JF := J.off XF (by omega) hgw
     have LRF := loc_ext XF (by omega) LR
     have OF := own_sc_far (h1 := fun _ => rfl) HO2.out (show fb < B by omega) XF
     have hwF : B ≤ (w''.setCell ⟨fb, 2, none⟩ (.slice A9 n9 c9)).heap.size := by rw [World.size_setCell]; exact hwB
     have EL6 := EN.out
     (try simp only [Exit.inBlock, Exit.then])
     go_wp2_with fail
     go_roundw
     case rel => exact ⟨i + 1, _, by omega, by go_num, LFF, EN.out ▸ JF, LRF, EN.out ▸ own_sc OF, hwF⟩
     case measure => simp [intOf]; omega
    ·skip
     have AB := Lib.hid (append_fresh (P := Tryz.prog) (d := kStr) (e := 9) (t := 36) (tx := 36) (ty := 36) (w := wq1) (base := B) (b0 := wq1.heap.size) Tryz.underlying36 Tryz.underlying36 infoStr rfl HO (by omega) (c := [.string ⟨en.toArray⟩]) rfl (by omega) (fun k hk => (HO.lt k hk).2) (by omega) (by omega))
     go_simp
     have LFa : Loc1 _ _ _ (wq1.alloc (.cells #[.string ⟨en.toArray⟩] 9)) := LF.al _
     refine hK.out _ _ trivial (fun hHeld => ?_)
     clear hK K
     try simp only [Act.put, nrmA, nrmZ, nrmS]
     refine rd1 1 rfl (by kernel_rfl) fun K hK => ?_
     have mld := cell_of LFa 2
     simp only [List.getElem?_toArray, List.getElem?_cons_zero, List.getElem?_cons_succ] at mld
     go_simp
     clear mld
     refine hK.out _ _ trivial (fun hHeld => ?_)
     clear hK K
     try simp only [Act.put, nrmA, nrmZ, nrmS]
     refine rd1 6 rfl (by kernel_rfl) fun K hK => ?_
     refine step_append rfl (.tmp 23) (.tmp 27) 36 36 rfl rfl rfl AB.out ?_
     rintro v' w'' ⟨ho2, hg2⟩
     obtain ⟨A9, n9, c9, rfl, hn9⟩ := ho2.form'
     have XG : Ext (fun k => k < B) wq1 w'' := ⟨hg2.os, hg2.tape, hg2.output, hg2.size, fun k hk hkb => hg2.block k hk (fun e => by have := (HO.lt k e.symm).1; omega)⟩
     replace J := J.grown XG (by omega) hgw
     replace LF := (XG.block _ (lt_of_heap LF) (by omega)).trans LF
     replace LR := (XG.block _ (lt_of_heap LR) (by omega)).trans LR
     have hwB : B ≤ w''.heap.size := by have := XG.size; omega
     have HN9 := Lib.hid hn9
     have HO2 := Lib.hid ho2
     clear ho2 hg2 hn9 XG AB LFa
     refine hK.out _ _ trivial (fun hHeld => ?_)
     clear hK K
     try simp only [Act.put, nrmA, nrmZ, nrmS]
     refine takeG 7 29 (.pointer (some ⟨fb, 2, none⟩)) rfl rfl (by kernel_rfl) (fun _ _ _ h => h) (Or.inl ⟨by rfl, by (intro wz hSw; (try dsimp only at hSw); go_simp)⟩) (by assumption) ?_
     try simp only [Act.put, nrmA, nrmZ, nrmS]
     refine rd1 8 rfl (by kernel_rfl) fun K hK => ?_
     have m1w := cell_of LF 2
     have u1w := free_of LF 2
     have hzw := lt_of_heap LF
     simp only [List.getElem?_toArray, List.getElem?_cons_zero, List.getElem?_cons_succ] at m1w
     go_simp
     refine hK.out _ _ trivial (fun hHeld => ?_)
     clear hK K
     try simp only [Act.put, nrmA, nrmZ, nrmS]
     refine wpAnyH_done (by kernel_rfl) ?_ _
     have XF : Ext (fun k => k ≠ fb) w'' (w''.setCell ⟨fb, 2, none⟩ (.slice A9 n9 c9)) := ext_set_ne (Ext.refl _ _) 2 _
     have LFF : Loc1 fb 41 #[.string ⟨nm.toArray⟩, .int .i64 k, .slice A9 n9 c9, .int .i64 0, .int .i64 0, .bool false, .string ⟨#[]⟩, .float .f64 0] (w''.setCell ⟨fb, 2, none⟩ (.slice A9 n9 c9)) := by have := heap_set LF 2 (.slice A9 n9 c9); unfold Loc1; simpa using this
     have JF := J.off XF (by omega) hgw
     have LRF := loc_ext XF (by omega) LR
     have OF := own_sc_far (h1 := fun _ => rfl) HO2.out (show fb < B by omega) XF
     have hwF : B ≤ (w''.setCell ⟨fb, 2, none⟩ (.slice A9 n9 c9)).heap.size := by rw [World.size_setCell]; exact hwB
     have EL6 := EN.out
     (try simp only [Exit.inBlock, Exit.then])
     go_wp2_with fail
     go_roundw
     case rel => exact ⟨i + 1, _, by omega, by go_num, LFF, EN.out ▸ JF, LRF, EN.out ▸ own_sc OF, hwF⟩
     case measure => simp [intOf]; omega
end
end Go.Proofs.YtjnhgfmjehaalaaGreat
