/- Package expr, walked: the kind of an expression. -/
import Derived.Test.YtijlamajcdekkaaMB
import Derived.Deep.QuietTactic
import Derived.BigQuiet
namespace Go.Proofs.Ytijlamajcdekkaa
open Go.RowKit
set_option linter.unusedVariables false
set_option linter.unusedSimpArgs false
theorem cells8 {w : World} {b : Nat} {t : TypeId} {f : Nat × Nat} {v0 v1 v2 v3 v4 v5 v6 v7 : Value} (h : w.heap[b]? = some (.cells #[v0, v1, v2, v3, v4, v5, v6, v7] t f)) : w.cell? ⟨b, 0, none⟩ = some v0 ∧ w.cell? ⟨b, 1, none⟩ = some v1 ∧ w.cell? ⟨b, 2, none⟩ = some v2 ∧ w.cell? ⟨b, 3, none⟩ = some v3 ∧ w.cell? ⟨b, 4, none⟩ = some v4 ∧ w.cell? ⟨b, 5, none⟩ = some v5 ∧ w.cell? ⟨b, 6, none⟩ = some v6 ∧ w.cell? ⟨b, 7, none⟩ = some v7 :=
  ⟨cell_of h 0, cell_of h 1, cell_of h 2, cell_of h 3, cell_of h 4, cell_of h 5, cell_of h 6, cell_of h 7⟩
theorem cells3 {w : World} {b : Nat} {t : TypeId} {f : Nat × Nat} {v0 v1 v2 : Value} (h : w.heap[b]? = some (.cells #[v0, v1, v2] t f)) : w.cell? ⟨b, 0, none⟩ = some v0 ∧ w.cell? ⟨b, 1, none⟩ = some v1 ∧ w.cell? ⟨b, 2, none⟩ = some v2 :=
  ⟨cell_of h 0, cell_of h 1, cell_of h 2⟩
/-- the kind of an expression whose parts' kinds are told; or the error -/
def kind3 (fl : List Fld) (e : Exp) (a0 a1 a2 : Int) : Except Int Int :=
  if ¬ ariF e.op = e.kids.length then .error 1
  else if ¬ (e.op = 2 ∨ e.name = []) then .error 1
  else if ¬ (e.op = 1 ∨ sameV e.val ⟨0, 0, false, [], 0⟩ = true) then .error 1
  else if e.op = 1 then if goodV e.val = true then .ok e.val.kind else .error 40
  else if e.op = 2 then match fl[(findF e.name fl).toNat]? with | some f => if 0 ≤ findF e.name fl then .ok f.kind else .error 50 | none => .error 50
  else if e.op = 8 then if a0 = a1 then .ok 2 else .error 40
  else if e.op = 9 then if a0 = a1 ∧ (isN (a0) = true ∨ a0 = 3) then .ok 2 else .error 40
  else if e.op = 12 then if a0 = 2 then .ok (a0) else .error 40
  else if e.op = 10 ∨ e.op = 11 then if a0 = 2 ∧ a1 = 2 then .ok (a0) else .error 40
  else if e.op = 13 then if a0 = 2 ∧ a1 = a2 then .ok (a1) else .error 40
  else if e.op = 16 then if a0 = 1 then .ok 4 else .error 40
  else if e.op = 3 then if isN (a0) = true then .ok (a0) else .error 40
  else if a0 = a1 ∧ isN (a0) = true then .ok (a0) else .error 40
def kindOf (fl : List Fld) (e : Exp) (ks : List Int) : Except Int Int := kind3 fl e (ks.getD 0 0) (ks.getD 1 0) (ks.getD 2 0)
/-- the kinds of parts, one by one, till one errs -/
def manyK (p : Exp → Except Int Int) : List Exp → Except Int (List Int)
  | [] => .ok []
  | e :: l => match p e with
    | .error x => .error x
    | .ok k => match manyK p l with
      | .error x => .error x
      | .ok ks => .ok (k :: ks)
def kE (fl : List Fld) : Nat → Exp → Except Int Int
  | 0, _ => .error 0
  | n + 1, e => match manyK (kE fl n) e.kids with
    | .error x => .error x
    | .ok ks => kindOf fl e ks
theorem manyK_snoc (p : Exp → Except Int Int) (e : Exp) : ∀ (l : List Exp) (ks : List Int), manyK p l = .ok ks → manyK p (l ++ [e]) = match p e with | .error x => .error x | .ok k => .ok (ks ++ [k])
  | [], ks, h => by
    injection h with h
    subst h
    simp only [List.nil_append, manyK]
  | a :: l, ks, h => by
    rw [List.cons_append, manyK]
    rw [manyK] at h
    cases ha : p a with
    | error x => rw [ha] at h; cases h
    | ok k =>
      rw [ha] at h
      simp only at h ⊢
      cases hl : manyK p l with
      | error x => rw [hl] at h; cases h
      | ok ks' =>
        rw [hl] at h
        injection h with h
        subst h
        rw [manyK_snoc p e l ks' hl]
        cases p e <;> rfl
theorem manyK_err (p : Exp → Except Int Int) (x : Int) (m : List Exp) : ∀ (l : List Exp), manyK p l = .error x → manyK p (l ++ m) = .error x
  | [], h => by cases h
  | a :: l, h => by
    rw [List.cons_append, manyK]
    rw [manyK] at h
    cases ha : p a with
    | error y => rw [ha] at h; exact h
    | ok k =>
      rw [ha] at h
      simp only at h ⊢
      cases hl : manyK p l with
      | error y => rw [hl] at h; rw [manyK_err p y m l hl]; exact h
      | ok ks' => rw [hl] at h; cases h
def RetK (w : World) (r : Except Int Int) (e : Ending) (w' : World) : Prop := (match r with | .ok k => e = .returned (.int .i64 k) | .error x => Bad x e) ∧ Below w.heap.size w w'
section
variable {w : World}
set_option maxRecDepth 20000 in
set_option maxHeartbeats 4000000 in
theorem kind_c {A : Option Addr} {N c : Nat} {fl : List Fld} : ∀ (n : Nat) (w : World) (cs : List Value) (e : Exp), (kExp n).R (fun _ => True) w cs e → Sl kFld (fun _ => True) w (.slice A N c) fl →
    Calls Try.prog 33 #[.agg cs.toArray, .slice A N c] w (RetK w (kE fl n e)) := by
  intro n
  induction n with
  | zero => intro w cs e h; exact h.elim
  | succ n ih =>
    intro w cs e h hf
    obtain ⟨k, B, d, hk, rfl, hs⟩ := exp_open h
    obtain rfl : n = k := by omega
    have IH := Lib.hid ih
    clear ih h
    have SF := store_f64
    have B0 := Lib.hid (show Below w.heap.size w ((w.alloc (.cells #[.int .i64 e.op, .slice B e.kids.length d, .string ⟨e.name.toArray⟩, .int .i64 e.val.kind, .int .i64 e.val.int, .bool e.val.bool, .string ⟨e.val.text.toArray⟩, .float .f64 e.val.num] 27)).alloc (.cells #[.int .i64 0, .int .i64 0, .int .i64 0] 94)) from ((Below.refl _ _).alloc (Nat.le_refl _) _).alloc (by simp) _)
    have L0 := Lib.hid (show Loc1 w.heap.size 27 #[.int .i64 e.op, .slice B e.kids.length d, .string ⟨e.name.toArray⟩, .int .i64 e.val.kind, .int .i64 e.val.int, .bool e.val.bool, .string ⟨e.val.text.toArray⟩, .float .f64 e.val.num] ((w.alloc (.cells #[.int .i64 e.op, .slice B e.kids.length d, .string ⟨e.name.toArray⟩, .int .i64 e.val.kind, .int .i64 e.val.int, .bool e.val.bool, .string ⟨e.val.text.toArray⟩, .float .f64 e.val.num] 27)).alloc (.cells #[.int .i64 0, .int .i64 0, .int .i64 0] 94)) from (Below.heap_alloc _ _ _ (by simp)).trans (heap_new _ _))
    have K0 := Lib.hid (show Loc1 (w.heap.size + 1) 94 #[.int .i64 0, .int .i64 0, .int .i64 0] ((w.alloc (.cells #[.int .i64 e.op, .slice B e.kids.length d, .string ⟨e.name.toArray⟩, .int .i64 e.val.kind, .int .i64 e.val.int, .bool e.val.bool, .string ⟨e.val.text.toArray⟩, .float .f64 e.val.num] 27)).alloc (.cells #[.int .i64 0, .int .i64 0, .int .i64 0] 94)) from by
      unfold Loc1
      have h := heap_new (w.alloc (.cells #[.int .i64 e.op, .slice B e.kids.length d, .string ⟨e.name.toArray⟩, .int .i64 e.val.kind, .int .i64 e.val.int, .bool e.val.bool, .string ⟨e.val.text.toArray⟩, .float .f64 e.val.num] 27)) (.cells #[.int .i64 0, .int .i64 0, .int .i64 0] 94)
      rw [World.size_alloc] at h
      exact h)
    have HS := Lib.hid hs
    have HF := Lib.hid hf
    have E := Lib.hid (show kE fl (n + 1) e = match manyK (kE fl n) e.kids with | .error x => .error x | .ok ks => kindOf fl e ks from rfl)
    have hmax := hs.len.2.2.1
    have hnc := hs.len.2.1
    generalize kE fl (n + 1) e = r at *
    clear hs hf
    go_enter Try.func33, Try.ntmps33
    go_wp2_with fail
    go_loopw [13] (fun v13 wr => ∃ (i : Nat) (ks : List Int), i ≤ e.kids.length ∧ v13 = .int .i64 i ∧ ks.length = i ∧ manyK (kE fl n) (e.kids.take i) = .ok ks ∧ Loc1 w.heap.size 27 #[.int .i64 e.op, .slice B e.kids.length d, .string ⟨e.name.toArray⟩, .int .i64 e.val.kind, .int .i64 e.val.int, .bool e.val.bool, .string ⟨e.val.text.toArray⟩, .float .f64 e.val.num] wr ∧ Loc1 (w.heap.size + 1) 94 #[.int .i64 (ks.getD 0 0), .int .i64 (ks.getD 1 0), .int .i64 (ks.getD 2 0)] wr ∧ Below w.heap.size w wr) (fun v13 _ => e.kids.length - (intOf v13).toNat)
    case atStart => exact ⟨0, [], Nat.zero_le _, rfl, rfl, rfl, L0.out, K0.out, B0.out⟩
    case round =>
      obtain ⟨i, ks, hi, rfl, hlen, hmk, hl, hkk, hb⟩ := hrel
      have HLn := Lib.hid hlen
      have HMK := Lib.hid hmk
      have HL := Lib.hid hl
      have HK := Lib.hid hkk
      have HB := Lib.hid hb
      have hzl := lt_of_heap hl
      have hzk := lt_of_heap hkk
      clear hlen hmk hl hkk hb L0 K0 B0
      by_cases hlt : i < e.kids.length
      · obtain ⟨ad, x, k', B', d', rfl, hx, hk', hs', c0, c1, c2, c3, c4, c5, c6, c7⟩ := exp_at (HS.out.below HB.out) hlt
        have HX := Lib.hid hx
        have BX := Lib.hid (show Below wr.heap.size wr (wr.alloc (.cells #[.int .i64 x.op, .slice B' x.kids.length d', .string ⟨x.name.toArray⟩, .int .i64 x.val.kind, .int .i64 x.val.int, .bool x.val.bool, .string ⟨x.val.text.toArray⟩, .float .f64 x.val.num] 27)) from (Below.refl _ _).alloc (Nat.le_refl _) _)
        have HC := Lib.hid (IH.out (wr.alloc (.cells #[.int .i64 x.op, .slice B' x.kids.length d', .string ⟨x.name.toArray⟩, .int .i64 x.val.kind, .int .i64 x.val.int, .bool x.val.bool, .string ⟨x.val.text.toArray⟩, .float .f64 x.val.num] 27)) _ x (hk' ▸ exp_mk (hs'.below BX.out)) (HF.out.below (below_self HB.out BX.out)))
        have HTK := Lib.hid (show manyK (kE fl n) (e.kids.take (i + 1)) = match kE fl n x with | .error y => .error y | .ok k => .ok (ks ++ [k]) by rw [List.take_add_one, hx]; exact manyK_snoc _ x _ _ HMK.out)
        clear hx hs'
        go_wp2_with fail
        refine HC.out.mono ?_
        rintro e1 w2 ⟨hret, hb⟩
        have B2 := Lib.hid (below_self HB.out (below_self BX.out hb))
        have L2 := Lib.hid ((HL.out.below BX.out).below hb)
        have K2 := Lib.hid ((HK.out.below BX.out).below hb)
        clear hb HC c0 c1 c2 c3 c4 c5 c6 c7
        cases hr : kE fl n x with
        | error y =>
          rw [hr] at hret
          have hret : e1 = .panicked [{ v := .iface 89 (.int .i64 y), recovered := false }] := hret
          subst hret
          have E2 := Lib.hid (show r = .error y by
            rw [E.out, ← List.take_append_drop (i + 1) e.kids, manyK_err (kE fl n) y _ _ (by rw [HTK.out, hr])])
          go_wp2_with fail
          rw [E2.out]
          exact ⟨rfl, rfl, B2.out⟩
        | ok k =>
          rw [hr] at hret
          have hret : e1 = .returned (.int .i64 k) := hret
          subst hret
          have HT2 := Lib.hid (show manyK (kE fl n) (e.kids.take (i + 1)) = .ok (ks ++ [k]) by rw [HTK.out, hr])
          have HL2 := Lib.hid (show (ks ++ [k]).length = i + 1 by rw [List.length_append, HLn.out]; rfl)
          clear HTK HMK hr
          rcases (show i = 0 ∨ i = 1 ∨ i = 2 ∨ 3 ≤ i by omega) with rfl | rfl | rfl | h3
          · obtain rfl := List.eq_nil_of_length_eq_zero HLn.out
            have K3 := (show Loc1 (w.heap.size + 1) 94 #[.int .i64 0, .int .i64 0, .int .i64 0] w2 from K2.out)
            have q0 := cell_of K3 0
            have q1 := free_of K3 0
            simp only [List.getElem?_toArray, List.getElem?_cons_zero, List.getElem?_cons_succ] at q0
            have hzz := lt_of_heap K3
            have K4 := Lib.hid (show Loc1 (w.heap.size + 1) 94 #[.int .i64 k, .int .i64 0, .int .i64 0] (w2.setCell ⟨w.heap.size + 1, 0, none⟩ (.int .i64 k)) from by
              have h := heap_set K3 0 (.int .i64 k)
              simp only [List.setIfInBounds_toArray, List.set_cons_zero, List.set_cons_succ] at h
              exact h)
            have L4 := Lib.hid (show Loc1 w.heap.size 27 #[.int .i64 e.op, .slice (some ad) e.kids.length d, .string ⟨e.name.toArray⟩, .int .i64 e.val.kind, .int .i64 e.val.int, .bool e.val.bool, .string ⟨e.val.text.toArray⟩, .float .f64 e.val.num] (w2.setCell ⟨w.heap.size + 1, 0, none⟩ (.int .i64 k)) from heap_set_ne' L2.out (by omega) 0 _)
            have B4 := Lib.hid (below_ext_ne B2.out (ext_set_ne (Ext.refl (fun b => b ≠ w.heap.size + 1) w2) 0 (.int .i64 k)) (Nat.le_succ _) (Nat.le_refl _))
            clear K3
            go_wp2_with fail
            go_roundw
            case rel => exact ⟨1, _, by omega, by go_num, HL2.out, HT2.out, L4.out, K4.out, B4.out⟩
            case measure => simp [intOf]; omega
          · obtain ⟨k0, rfl⟩ := List.length_eq_one_iff.1 HLn.out
            have K3 := (show Loc1 (w.heap.size + 1) 94 #[.int .i64 k0, .int .i64 0, .int .i64 0] w2 from K2.out)
            have q0 := cell_of K3 1
            have q1 := free_of K3 1
            simp only [List.getElem?_toArray, List.getElem?_cons_zero, List.getElem?_cons_succ] at q0
            have hzz := lt_of_heap K3
            have K4 := Lib.hid (show Loc1 (w.heap.size + 1) 94 #[.int .i64 k0, .int .i64 k, .int .i64 0] (w2.setCell ⟨w.heap.size + 1, 1, none⟩ (.int .i64 k)) from by
              have h := heap_set K3 1 (.int .i64 k)
              simp only [List.setIfInBounds_toArray, List.set_cons_zero, List.set_cons_succ] at h
              exact h)
            have L4 := Lib.hid (show Loc1 w.heap.size 27 #[.int .i64 e.op, .slice (some ad) e.kids.length d, .string ⟨e.name.toArray⟩, .int .i64 e.val.kind, .int .i64 e.val.int, .bool e.val.bool, .string ⟨e.val.text.toArray⟩, .float .f64 e.val.num] (w2.setCell ⟨w.heap.size + 1, 1, none⟩ (.int .i64 k)) from heap_set_ne' L2.out (by omega) 1 _)
            have B4 := Lib.hid (below_ext_ne B2.out (ext_set_ne (Ext.refl (fun b => b ≠ w.heap.size + 1) w2) 1 (.int .i64 k)) (Nat.le_succ _) (Nat.le_refl _))
            clear K3
            go_wp2_with fail
            go_roundw
            case rel => exact ⟨2, _, by omega, by go_num, HL2.out, HT2.out, L4.out, K4.out, B4.out⟩
            case measure => simp [intOf]; omega
          · obtain ⟨k0, k1, rfl⟩ : ∃ k0 k1, ks = [k0, k1] := by
              have h := HLn.out
              match ks, h with
              | [a, b], _ => exact ⟨a, b, rfl⟩
            have K3 := (show Loc1 (w.heap.size + 1) 94 #[.int .i64 k0, .int .i64 k1, .int .i64 0] w2 from K2.out)
            have q0 := cell_of K3 2
            have q1 := free_of K3 2
            simp only [List.getElem?_toArray, List.getElem?_cons_zero, List.getElem?_cons_succ] at q0
            have hzz := lt_of_heap K3
            have K4 := Lib.hid (show Loc1 (w.heap.size + 1) 94 #[.int .i64 k0, .int .i64 k1, .int .i64 k] (w2.setCell ⟨w.heap.size + 1, 2, none⟩ (.int .i64 k)) from by
              have h := heap_set K3 2 (.int .i64 k)
              simp only [List.setIfInBounds_toArray, List.set_cons_zero, List.set_cons_succ] at h
              exact h)
            have L4 := Lib.hid (show Loc1 w.heap.size 27 #[.int .i64 e.op, .slice (some ad) e.kids.length d, .string ⟨e.name.toArray⟩, .int .i64 e.val.kind, .int .i64 e.val.int, .bool e.val.bool, .string ⟨e.val.text.toArray⟩, .float .f64 e.val.num] (w2.setCell ⟨w.heap.size + 1, 2, none⟩ (.int .i64 k)) from heap_set_ne' L2.out (by omega) 2 _)
            have B4 := Lib.hid (below_ext_ne B2.out (ext_set_ne (Ext.refl (fun b => b ≠ w.heap.size + 1) w2) 2 (.int .i64 k)) (Nat.le_succ _) (Nat.le_refl _))
            clear K3
            go_wp2_with fail
            go_roundw
            case rel => exact ⟨3, _, by omega, by go_num, HL2.out, HT2.out, L4.out, K4.out, B4.out⟩
            case measure => simp [intOf]; omega
          · have hi3 : ¬ (i : Int) < 3 := by omega
            have K4 := Lib.hid (show Loc1 (w.heap.size + 1) 94 #[.int .i64 ((ks ++ [k]).getD 0 0), .int .i64 ((ks ++ [k]).getD 1 0), .int .i64 ((ks ++ [k]).getD 2 0)] w2 from by
              have g : ∀ j, j < 3 → (ks ++ [k]).getD j 0 = ks.getD j 0 := fun j hj => by rw [List.getD_eq_getElem?_getD, List.getD_eq_getElem?_getD, List.getElem?_append_left (by rw [HLn.out]; omega)]
              rw [g 0 (by omega), g 1 (by omega), g 2 (by omega)]
              exact K2.out)
            go_wp2_with fail
            go_roundw
            case rel => exact ⟨i + 1, _, by omega, by go_num, HL2.out, HT2.out, L2.out, K4.out, B2.out⟩
            case measure => simp [intOf]; omega
      · have hik : i = e.kids.length := by omega
        have E2 := Lib.hid (show r = kindOf fl e ks by rw [E.out]; have h := HMK.out; rw [List.take_of_length_le (by omega)] at h; rw [h])
        have E3 := Lib.hid (show r = kind3 fl e (ks.getD 0 0) (ks.getD 1 0) (ks.getD 2 0) from E2.out)
        obtain ⟨e0, e1, e2, e3, e4, e5, e6, e7⟩ := cells8 HL.out
        obtain ⟨q0, q1, q2⟩ := cells3 HK.out
        generalize ks.getD 0 0 = a0 at *
        generalize ks.getD 1 0 = a1 at *
        generalize ks.getD 2 0 = a2 at *
        clear E E2 HMK HLn hik
        have hlt' : ¬ (i : Int) < e.kids.length := by omega
        by_cases ha : ariF e.op = e.kids.length
        · have ha' : (ariF e.op == (e.kids.length : Int)) = true := by simpa using ha
          have HAr := fun W : World => arity_c (w := W) e.op
          have HA := Lib.hid ha
          generalize hAr : ariF e.op = ar at *
          have HAR := Lib.hid hAr
          clear ha hAr
          go_wp2_with fail
          go_quiet ((first | (go_at_call 47; exact quiet_left (HAr _)) | (go_at_call 31; exact quiet_left (must_ok _))))
          have B1 := Lib.hid (below_drewN HB.out nq)
          have L1 := Lib.hid (show Loc1 w.heap.size 27 #[.int .i64 e.op, .slice B e.kids.length d, .string ⟨e.name.toArray⟩, .int .i64 e.val.kind, .int .i64 e.val.int, .bool e.val.bool, .string ⟨e.val.text.toArray⟩, .float .f64 e.val.num] (wr.drewN nq) from HL.out)
          have K1 := Lib.hid (show Loc1 (w.heap.size + 1) 94 #[.int .i64 a0, .int .i64 a1, .int .i64 a2] (wr.drewN nq) from HK.out)
          have F1 := Lib.hid (show Sl kFld (fun _ => True) (wr.drewN nq) (.slice A N c) fl from HF.out.below B1.out)
          clear HB HL HK HF HS e0 e1 e2 e3 e4 e5 e6 e7 q0 q1 q2 hzl hzk
          generalize wr.drewN nq = W1 at *
          obtain ⟨e0, e1, e2, e3, e4, e5, e6, e7⟩ := cells8 L1.out
          by_cases h2 : e.op = 2 ∨ e.name = []
          · by_cases hop : e.op = 1
            · have hnm : e.name = [] := h2.resolve_left (by omega)
              have hne : e.name.isEmpty = true := by rw [hnm]; rfl
              have h2a : (e.op == 2) = false := by rw [hop]; rfl
              have h1a : (e.op == 1) = true := by rw [hop]; rfl
              have E3 := Lib.hid (show r = if goodV e.val = true then .ok e.val.kind else .error 40 by
                rw [E3.out]; unfold kind3; rw [if_neg (fun h => h (HAR.out.trans HA.out)), if_neg (fun h => h h2), if_neg (fun h => h (.inl hop)), if_pos hop])
              clear h2 hnm hop
              go_wp2_with fail
              refine (must_ok 1).mono ?_
              rintro x9 w9 ⟨rfl, rfl⟩
              go_wp2_with fail
              refine (must_ok 1).mono ?_
              rintro x9 w9 ⟨rfl, rfl⟩
              go_wp2_with fail
              refine (good_c e.val).mono ?_
              rintro x9 w3 ⟨rfl, hb⟩
              have B2 := Lib.hid (below_self B1.out hb)
              have L2 := Lib.hid (L1.out.below hb)
              clear hb e0 e1 e2 e3 e4 e5 e6 e7 L1 K1 F1
              obtain ⟨e0, e1, e2, e3, e4, e5, e6, e7⟩ := cells8 L2.out
              cases hg : goodV e.val
              · have E4 := Lib.hid (show r = .error 40 by rw [E3.out, hg]; rfl)
                clear E3
                go_wp2_with fail
                refine (must_no 40).mono ?_
                rintro x9 w9 ⟨hbd, rfl⟩
                have hbd : x9 = .panicked [{ v := .iface 89 (.int .i64 40), recovered := false }] := hbd
                subst hbd
                go_wp2_with fail
                rw [E4.out]
                exact ⟨rfl, rfl, B2.out⟩
              · have E4 := Lib.hid (show r = .ok e.val.kind by rw [E3.out, hg]; rfl)
                clear E3
                go_wp2_with fail
                refine (must_ok 40).mono ?_
                rintro x9 w9 ⟨rfl, rfl⟩
                go_wp2_with fail
                go_ret
                rw [E4.out]
                exact ⟨rfl, B2.out⟩
            · have hv1 := hop
              clear hop
              by_cases hop : e.op = 2
              · have o1 : (e.op == 1) = false := by rw [hop]; rfl
                have o2 : (e.op == 2) = true := by rw [hop]; rfl
                have o8 : (e.op == 8) = false := by rw [hop]; rfl
                have o9 : (e.op == 9) = false := by rw [hop]; rfl
                have o10 : (e.op == 10) = false := by rw [hop]; rfl
                have o11 : (e.op == 11) = false := by rw [hop]; rfl
                have o12 : (e.op == 12) = false := by rw [hop]; rfl
                have o13 : (e.op == 13) = false := by rw [hop]; rfl
                have o16 : (e.op == 16) = false := by rw [hop]; rfl
                have o3 : (e.op == 3) = false := by rw [hop]; rfl
                have E3 := Lib.hid (show r = if ¬ sameV e.val ⟨0, 0, false, [], 0⟩ = true then .error 1 else (match fl[(findF e.name fl).toNat]? with | some f => if 0 ≤ findF e.name fl then .ok f.kind else .error 50 | none => .error 50) by
                  rw [E3.out]; unfold kind3; rw [if_neg (fun h => h (HAR.out.trans HA.out)), if_neg (fun h => h h2), if_neg (show ¬ e.op = 1 by omega), if_pos (show e.op = 2 by omega)]
                  simp only [show (e.op = 1) = False from eq_false (by omega), false_or])
                clear h2
                go_wp2_with fail
                refine (must_ok 1).mono ?_
                rintro x9 w9 ⟨rfl, rfl⟩
                go_wp2_with fail
                refine (same_c e.val ⟨0, 0, false, [], 0⟩).mono ?_
                rintro x9 w3 ⟨rfl, hb⟩
                have B2 := Lib.hid (below_self B1.out hb)
                have L2 := Lib.hid (L1.out.below hb)
                have K2 := Lib.hid (K1.out.below hb)
                have F2 := Lib.hid (F1.out.below hb)
                clear hb e0 e1 e2 e3 e4 e5 e6 e7 L1 K1 F1
                obtain ⟨e0, e1, e2, e3, e4, e5, e6, e7⟩ := cells8 L2.out
                obtain ⟨q0, q1, q2⟩ := cells3 K2.out
                have hz3 := lt_of_heap L2.out
                have hzk3 := lt_of_heap K2.out
                cases hsm : sameV e.val ⟨0, 0, false, [], 0⟩
                · have E4 := Lib.hid (show r = .error 1 by rw [E3.out, if_pos (fun h => by rw [hsm] at h; cases h)])
                  clear E3
                  go_wp2_with fail
                  refine (must_no 1).mono ?_
                  rintro x9 w9 ⟨hbd, rfl⟩
                  have hbd : x9 = .panicked [{ v := .iface 89 (.int .i64 1), recovered := false }] := hbd
                  subst hbd
                  go_wp2_with fail
                  rw [E4.out]
                  exact ⟨rfl, rfl, B2.out⟩
                · replace E3 := Lib.hid (show r = (match fl[(findF e.name fl).toNat]? with | some f => if 0 ≤ findF e.name fl then .ok f.kind else .error 50 | none => .error 50) by rw [E3.out, if_neg (fun h => h hsm)])
                  go_wp2_with fail
                  refine (must_ok 1).mono ?_
                  rintro x9 w9 ⟨rfl, rfl⟩
                  go_wp2_with fail
                  refine (find_c e.name F2.out).mono ?_
                  rintro x9 w4 ⟨rfl, hb⟩
                  have B3 := Lib.hid (below_self B2.out hb)
                  have L3 := Lib.hid (L2.out.below hb)
                  have F3 := Lib.hid (F2.out.below hb)
                  clear hb e0 e1 e2 e3 e4 e5 e6 e7 L2 F2 q0 q1 q2 K2
                  obtain ⟨e0, e1, e2, e3, e4, e5, e6, e7⟩ := cells8 L3.out
                  by_cases hf : 0 ≤ findF e.name fl
                  · obtain ⟨j, f, hj, hfj, -⟩ := findF_some hf
                    have E4 := Lib.hid (show r = .ok f.kind by rw [E3.out, hj, Int.toNat_natCast, hfj]; simp [hsm])
                    have hjl : j < N := by
                      have h1 := (List.getElem?_eq_some_iff.1 hfj).1
                      have h2 := F3.out.len.1
                      omega
                    obtain ⟨ad, f', B', d', rfl, hf', -, c0, c1, c2, c3, c4, c5, c6, c7⟩ := fld_at F3.out hjl
                    obtain rfl : f = f' := by rw [hfj] at hf'; injection hf'
                    have hnc' := F3.out.len.2.1
                    have hmax' := F3.out.len.2.2.1
                    generalize hjj : findF e.name fl = g at *
                    subst hj
                    clear E3 hfj hf'
                    go_wp2_with fail
                    refine (must_ok 50).mono ?_
                    rintro x9 w9 ⟨rfl, rfl⟩
                    go_wp2_with fail
                    go_ret
                    rw [E4.out]
                    exact ⟨rfl, B3.out⟩
                  · have E4 := Lib.hid (show r = .error 50 by
                      rw [E3.out]
                      cases fl[(findF e.name fl).toNat]? <;> simp [hsm, hf])
                    rw [findF_none hf]
                    clear E3
                    go_wp2_with fail
                    refine (must_no 50).mono ?_
                    rintro x9 w9 ⟨hbd, rfl⟩
                    have hbd : x9 = .panicked [{ v := .iface 89 (.int .i64 50), recovered := false }] := hbd
                    subst hbd
                    go_wp2_with fail
                    rw [E4.out]
                    exact ⟨rfl, rfl, B3.out⟩
              have hv2 := hop
              clear hop
              by_cases hop : e.op = 8
              · have o1 : (e.op == 1) = false := by rw [hop]; rfl
                have o2 : (e.op == 2) = false := by rw [hop]; rfl
                have o8 : (e.op == 8) = true := by rw [hop]; rfl
                have o9 : (e.op == 9) = false := by rw [hop]; rfl
                have o10 : (e.op == 10) = false := by rw [hop]; rfl
                have o11 : (e.op == 11) = false := by rw [hop]; rfl
                have o12 : (e.op == 12) = false := by rw [hop]; rfl
                have o13 : (e.op == 13) = false := by rw [hop]; rfl
                have o16 : (e.op == 16) = false := by rw [hop]; rfl
                have o3 : (e.op == 3) = false := by rw [hop]; rfl
                have hnm' : e.name = [] := h2.resolve_left (by omega)
                have E3 := Lib.hid (show r = if ¬ sameV e.val ⟨0, 0, false, [], 0⟩ = true then .error 1 else if a0 = a1 then .ok 2 else .error 40 by
                  rw [E3.out]; unfold kind3; rw [if_neg (fun h => h (HAR.out.trans HA.out)), if_neg (fun h => h h2), if_neg (show ¬ e.op = 1 by omega), if_neg (show ¬ e.op = 2 by omega), if_pos (show e.op = 8 by omega)]
                  simp only [show (e.op = 1) = False from eq_false (by omega), false_or])
                clear h2
                have hnm : e.name.isEmpty = true := by rw [hnm']; rfl
                clear hnm'
                go_wp2_with fail
                refine (must_ok 1).mono ?_
                rintro x9 w9 ⟨rfl, rfl⟩
                go_wp2_with fail
                refine (same_c e.val ⟨0, 0, false, [], 0⟩).mono ?_
                rintro x9 w3 ⟨rfl, hb⟩
                have B2 := Lib.hid (below_self B1.out hb)
                have L2 := Lib.hid (L1.out.below hb)
                have K2 := Lib.hid (K1.out.below hb)
                have F2 := Lib.hid (F1.out.below hb)
                clear hb e0 e1 e2 e3 e4 e5 e6 e7 L1 K1 F1
                obtain ⟨e0, e1, e2, e3, e4, e5, e6, e7⟩ := cells8 L2.out
                obtain ⟨q0, q1, q2⟩ := cells3 K2.out
                have hz3 := lt_of_heap L2.out
                have hzk3 := lt_of_heap K2.out
                cases hsm : sameV e.val ⟨0, 0, false, [], 0⟩
                · have E4 := Lib.hid (show r = .error 1 by rw [E3.out, if_pos (fun h => by rw [hsm] at h; cases h)])
                  clear E3
                  go_wp2_with fail
                  refine (must_no 1).mono ?_
                  rintro x9 w9 ⟨hbd, rfl⟩
                  have hbd : x9 = .panicked [{ v := .iface 89 (.int .i64 1), recovered := false }] := hbd
                  subst hbd
                  go_wp2_with fail
                  rw [E4.out]
                  exact ⟨rfl, rfl, B2.out⟩
                · replace E3 := Lib.hid (show r = if a0 = a1 then .ok 2 else .error 40 by rw [E3.out, if_neg (fun h => h hsm)])
                  go_wp2_with fail
                  refine (must_ok 1).mono ?_
                  rintro x9 w9 ⟨rfl, rfl⟩
                  by_cases c0 : a0 = a1
                  · subst c0
                    have E4 := Lib.hid (show r = .ok 2 by rw [E3.out]; simp_all)
                    clear E3
                    go_wp2_with fail
                    refine (must_ok 40).mono ?_
                    rintro x9 w9 ⟨rfl, rfl⟩
                    go_wp2_with fail
                    go_ret
                    rw [E4.out]
                    exact ⟨rfl, B2.out⟩
                  · have c0b : (a0 == a1) = false := by simpa using c0
                    have E4 := Lib.hid (show r = .error 40 by rw [E3.out]; simp_all)
                    clear E3
                    go_wp2_with fail
                    refine (must_no 40).mono ?_
                    rintro x9 w9 ⟨hbd, rfl⟩
                    have hbd : x9 = .panicked [{ v := .iface 89 (.int .i64 40), recovered := false }] := hbd
                    subst hbd
                    go_wp2_with fail
                    rw [E4.out]
                    exact ⟨rfl, rfl, B2.out⟩
              have hv8 := hop
              clear hop
              by_cases hop : e.op = 9
              · have o1 : (e.op == 1) = false := by rw [hop]; rfl
                have o2 : (e.op == 2) = false := by rw [hop]; rfl
                have o8 : (e.op == 8) = false := by rw [hop]; rfl
                have o9 : (e.op == 9) = true := by rw [hop]; rfl
                have o10 : (e.op == 10) = false := by rw [hop]; rfl
                have o11 : (e.op == 11) = false := by rw [hop]; rfl
                have o12 : (e.op == 12) = false := by rw [hop]; rfl
                have o13 : (e.op == 13) = false := by rw [hop]; rfl
                have o16 : (e.op == 16) = false := by rw [hop]; rfl
                have o3 : (e.op == 3) = false := by rw [hop]; rfl
                have hnm' : e.name = [] := h2.resolve_left (by omega)
                have E3 := Lib.hid (show r = if ¬ sameV e.val ⟨0, 0, false, [], 0⟩ = true then .error 1 else if a0 = a1 ∧ (isN a0 = true ∨ a0 = 3) then .ok 2 else .error 40 by
                  rw [E3.out]; unfold kind3; rw [if_neg (fun h => h (HAR.out.trans HA.out)), if_neg (fun h => h h2), if_neg (show ¬ e.op = 1 by omega), if_neg (show ¬ e.op = 2 by omega), if_neg (show ¬ e.op = 8 by omega), if_pos (show e.op = 9 by omega)]
                  simp only [show (e.op = 1) = False from eq_false (by omega), false_or])
                clear h2
                have hnm : e.name.isEmpty = true := by rw [hnm']; rfl
                clear hnm'
                go_wp2_with fail
                refine (must_ok 1).mono ?_
                rintro x9 w9 ⟨rfl, rfl⟩
                go_wp2_with fail
                refine (same_c e.val ⟨0, 0, false, [], 0⟩).mono ?_
                rintro x9 w3 ⟨rfl, hb⟩
                have B2 := Lib.hid (below_self B1.out hb)
                have L2 := Lib.hid (L1.out.below hb)
                have K2 := Lib.hid (K1.out.below hb)
                have F2 := Lib.hid (F1.out.below hb)
                clear hb e0 e1 e2 e3 e4 e5 e6 e7 L1 K1 F1
                obtain ⟨e0, e1, e2, e3, e4, e5, e6, e7⟩ := cells8 L2.out
                obtain ⟨q0, q1, q2⟩ := cells3 K2.out
                have hz3 := lt_of_heap L2.out
                have hzk3 := lt_of_heap K2.out
                cases hsm : sameV e.val ⟨0, 0, false, [], 0⟩
                · have E4 := Lib.hid (show r = .error 1 by rw [E3.out, if_pos (fun h => by rw [hsm] at h; cases h)])
                  clear E3
                  go_wp2_with fail
                  refine (must_no 1).mono ?_
                  rintro x9 w9 ⟨hbd, rfl⟩
                  have hbd : x9 = .panicked [{ v := .iface 89 (.int .i64 1), recovered := false }] := hbd
                  subst hbd
                  go_wp2_with fail
                  rw [E4.out]
                  exact ⟨rfl, rfl, B2.out⟩
                · replace E3 := Lib.hid (show r = if a0 = a1 ∧ (isN a0 = true ∨ a0 = 3) then .ok 2 else .error 40 by rw [E3.out, if_neg (fun h => h hsm)])
                  go_wp2_with fail
                  refine (must_ok 1).mono ?_
                  rintro x9 w9 ⟨rfl, rfl⟩
                  by_cases c0 : a0 = a1
                  · subst c0
                    cases c1 : (isN a0)
                    · by_cases c2 : a0 = 3
                      · subst c2
                        have E4 := Lib.hid (show r = .ok 2 by rw [E3.out]; simp_all)
                        clear E3
                        go_wp2_with fail
                        refine (numeric_c _).mono ?_
                        rintro x9 w9 ⟨rfl, rfl⟩
                        go_wp2_with fail
                        refine (must_ok 40).mono ?_
                        rintro x9 w9 ⟨rfl, rfl⟩
                        go_wp2_with fail
                        go_ret
                        rw [E4.out]
                        exact ⟨rfl, B2.out⟩
                      · have c2b : (a0 == 3) = false := by simpa using c2
                        have E4 := Lib.hid (show r = .error 40 by rw [E3.out]; simp_all)
                        clear E3
                        go_wp2_with fail
                        refine (numeric_c _).mono ?_
                        rintro x9 w9 ⟨rfl, rfl⟩
                        go_wp2_with fail
                        refine (must_no 40).mono ?_
                        rintro x9 w9 ⟨hbd, rfl⟩
                        have hbd : x9 = .panicked [{ v := .iface 89 (.int .i64 40), recovered := false }] := hbd
                        subst hbd
                        go_wp2_with fail
                        rw [E4.out]
                        exact ⟨rfl, rfl, B2.out⟩
                    · have E4 := Lib.hid (show r = .ok 2 by rw [E3.out]; simp_all)
                      clear E3
                      go_wp2_with fail
                      refine (numeric_c _).mono ?_
                      rintro x9 w9 ⟨rfl, rfl⟩
                      go_wp2_with fail
                      refine (must_ok 40).mono ?_
                      rintro x9 w9 ⟨rfl, rfl⟩
                      go_wp2_with fail
                      go_ret
                      rw [E4.out]
                      exact ⟨rfl, B2.out⟩
                  · have c0b : (a0 == a1) = false := by simpa using c0
                    have E4 := Lib.hid (show r = .error 40 by rw [E3.out]; simp_all)
                    clear E3
                    go_wp2_with fail
                    refine (must_no 40).mono ?_
                    rintro x9 w9 ⟨hbd, rfl⟩
                    have hbd : x9 = .panicked [{ v := .iface 89 (.int .i64 40), recovered := false }] := hbd
                    subst hbd
                    go_wp2_with fail
                    rw [E4.out]
                    exact ⟨rfl, rfl, B2.out⟩
              have hv9 := hop
              clear hop
              by_cases hop : e.op = 12
              · have o1 : (e.op == 1) = false := by rw [hop]; rfl
                have o2 : (e.op == 2) = false := by rw [hop]; rfl
                have o8 : (e.op == 8) = false := by rw [hop]; rfl
                have o9 : (e.op == 9) = false := by rw [hop]; rfl
                have o10 : (e.op == 10) = false := by rw [hop]; rfl
                have o11 : (e.op == 11) = false := by rw [hop]; rfl
                have o12 : (e.op == 12) = true := by rw [hop]; rfl
                have o13 : (e.op == 13) = false := by rw [hop]; rfl
                have o16 : (e.op == 16) = false := by rw [hop]; rfl
                have o3 : (e.op == 3) = false := by rw [hop]; rfl
                have hnm' : e.name = [] := h2.resolve_left (by omega)
                have E3 := Lib.hid (show r = if ¬ sameV e.val ⟨0, 0, false, [], 0⟩ = true then .error 1 else if a0 = 2 then .ok a0 else .error 40 by
                  rw [E3.out]; unfold kind3; rw [if_neg (fun h => h (HAR.out.trans HA.out)), if_neg (fun h => h h2), if_neg (show ¬ e.op = 1 by omega), if_neg (show ¬ e.op = 2 by omega), if_neg (show ¬ e.op = 8 by omega), if_neg (show ¬ e.op = 9 by omega), if_pos (show e.op = 12 by omega)]
                  simp only [show (e.op = 1) = False from eq_false (by omega), false_or])
                clear h2
                have hnm : e.name.isEmpty = true := by rw [hnm']; rfl
                clear hnm'
                go_wp2_with fail
                refine (must_ok 1).mono ?_
                rintro x9 w9 ⟨rfl, rfl⟩
                go_wp2_with fail
                refine (same_c e.val ⟨0, 0, false, [], 0⟩).mono ?_
                rintro x9 w3 ⟨rfl, hb⟩
                have B2 := Lib.hid (below_self B1.out hb)
                have L2 := Lib.hid (L1.out.below hb)
                have K2 := Lib.hid (K1.out.below hb)
                have F2 := Lib.hid (F1.out.below hb)
                clear hb e0 e1 e2 e3 e4 e5 e6 e7 L1 K1 F1
                obtain ⟨e0, e1, e2, e3, e4, e5, e6, e7⟩ := cells8 L2.out
                obtain ⟨q0, q1, q2⟩ := cells3 K2.out
                have hz3 := lt_of_heap L2.out
                have hzk3 := lt_of_heap K2.out
                cases hsm : sameV e.val ⟨0, 0, false, [], 0⟩
                · have E4 := Lib.hid (show r = .error 1 by rw [E3.out, if_pos (fun h => by rw [hsm] at h; cases h)])
                  clear E3
                  go_wp2_with fail
                  refine (must_no 1).mono ?_
                  rintro x9 w9 ⟨hbd, rfl⟩
                  have hbd : x9 = .panicked [{ v := .iface 89 (.int .i64 1), recovered := false }] := hbd
                  subst hbd
                  go_wp2_with fail
                  rw [E4.out]
                  exact ⟨rfl, rfl, B2.out⟩
                · replace E3 := Lib.hid (show r = if a0 = 2 then .ok a0 else .error 40 by rw [E3.out, if_neg (fun h => h hsm)])
                  go_wp2_with fail
                  refine (must_ok 1).mono ?_
                  rintro x9 w9 ⟨rfl, rfl⟩
                  by_cases c0 : a0 = 2
                  · subst c0
                    have E4 := Lib.hid (show r = .ok 2 by rw [E3.out]; simp_all)
                    clear E3
                    go_wp2_with fail
                    refine (must_ok 40).mono ?_
                    rintro x9 w9 ⟨rfl, rfl⟩
                    go_wp2_with fail
                    go_ret
                    rw [E4.out]
                    exact ⟨rfl, B2.out⟩
                  · have c0b : (a0 == 2) = false := by simpa using c0
                    have E4 := Lib.hid (show r = .error 40 by rw [E3.out]; simp_all)
                    clear E3
                    go_wp2_with fail
                    refine (must_no 40).mono ?_
                    rintro x9 w9 ⟨hbd, rfl⟩
                    have hbd : x9 = .panicked [{ v := .iface 89 (.int .i64 40), recovered := false }] := hbd
                    subst hbd
                    go_wp2_with fail
                    rw [E4.out]
                    exact ⟨rfl, rfl, B2.out⟩
              have hv12 := hop
              clear hop
              by_cases hop : e.op = 10
              · have o1 : (e.op == 1) = false := by rw [hop]; rfl
                have o2 : (e.op == 2) = false := by rw [hop]; rfl
                have o8 : (e.op == 8) = false := by rw [hop]; rfl
                have o9 : (e.op == 9) = false := by rw [hop]; rfl
                have o10 : (e.op == 10) = true := by rw [hop]; rfl
                have o11 : (e.op == 11) = false := by rw [hop]; rfl
                have o12 : (e.op == 12) = false := by rw [hop]; rfl
                have o13 : (e.op == 13) = false := by rw [hop]; rfl
                have o16 : (e.op == 16) = false := by rw [hop]; rfl
                have o3 : (e.op == 3) = false := by rw [hop]; rfl
                have hnm' : e.name = [] := h2.resolve_left (by omega)
                have E3 := Lib.hid (show r = if ¬ sameV e.val ⟨0, 0, false, [], 0⟩ = true then .error 1 else if a0 = 2 ∧ a1 = 2 then .ok a0 else .error 40 by
                  rw [E3.out]; unfold kind3; rw [if_neg (fun h => h (HAR.out.trans HA.out)), if_neg (fun h => h h2), if_neg (show ¬ e.op = 1 by omega), if_neg (show ¬ e.op = 2 by omega), if_neg (show ¬ e.op = 8 by omega), if_neg (show ¬ e.op = 9 by omega), if_neg (show ¬ e.op = 12 by omega), if_pos (show e.op = 10 ∨ e.op = 11 by omega)]
                  simp only [show (e.op = 1) = False from eq_false (by omega), false_or])
                clear h2
                have hnm : e.name.isEmpty = true := by rw [hnm']; rfl
                clear hnm'
                go_wp2_with fail
                refine (must_ok 1).mono ?_
                rintro x9 w9 ⟨rfl, rfl⟩
                go_wp2_with fail
                refine (same_c e.val ⟨0, 0, false, [], 0⟩).mono ?_
                rintro x9 w3 ⟨rfl, hb⟩
                have B2 := Lib.hid (below_self B1.out hb)
                have L2 := Lib.hid (L1.out.below hb)
                have K2 := Lib.hid (K1.out.below hb)
                have F2 := Lib.hid (F1.out.below hb)
                clear hb e0 e1 e2 e3 e4 e5 e6 e7 L1 K1 F1
                obtain ⟨e0, e1, e2, e3, e4, e5, e6, e7⟩ := cells8 L2.out
                obtain ⟨q0, q1, q2⟩ := cells3 K2.out
                have hz3 := lt_of_heap L2.out
                have hzk3 := lt_of_heap K2.out
                cases hsm : sameV e.val ⟨0, 0, false, [], 0⟩
                · have E4 := Lib.hid (show r = .error 1 by rw [E3.out, if_pos (fun h => by rw [hsm] at h; cases h)])
                  clear E3
                  go_wp2_with fail
                  refine (must_no 1).mono ?_
                  rintro x9 w9 ⟨hbd, rfl⟩
                  have hbd : x9 = .panicked [{ v := .iface 89 (.int .i64 1), recovered := false }] := hbd
                  subst hbd
                  go_wp2_with fail
                  rw [E4.out]
                  exact ⟨rfl, rfl, B2.out⟩
                · replace E3 := Lib.hid (show r = if a0 = 2 ∧ a1 = 2 then .ok a0 else .error 40 by rw [E3.out, if_neg (fun h => h hsm)])
                  go_wp2_with fail
                  refine (must_ok 1).mono ?_
                  rintro x9 w9 ⟨rfl, rfl⟩
                  by_cases c0 : a0 = 2
                  · subst c0
                    by_cases c1 : a1 = 2
                    · subst c1
                      have E4 := Lib.hid (show r = .ok 2 by rw [E3.out]; simp_all)
                      clear E3
                      go_wp2_with fail
                      refine (must_ok 40).mono ?_
                      rintro x9 w9 ⟨rfl, rfl⟩
                      go_wp2_with fail
                      go_ret
                      rw [E4.out]
                      exact ⟨rfl, B2.out⟩
                    · have c1b : (a1 == 2) = false := by simpa using c1
                      have E4 := Lib.hid (show r = .error 40 by rw [E3.out]; simp_all)
                      clear E3
                      go_wp2_with fail
                      refine (must_no 40).mono ?_
                      rintro x9 w9 ⟨hbd, rfl⟩
                      have hbd : x9 = .panicked [{ v := .iface 89 (.int .i64 40), recovered := false }] := hbd
                      subst hbd
                      go_wp2_with fail
                      rw [E4.out]
                      exact ⟨rfl, rfl, B2.out⟩
                  · have c0b : (a0 == 2) = false := by simpa using c0
                    have E4 := Lib.hid (show r = .error 40 by rw [E3.out]; simp_all)
                    clear E3
                    go_wp2_with fail
                    refine (must_no 40).mono ?_
                    rintro x9 w9 ⟨hbd, rfl⟩
                    have hbd : x9 = .panicked [{ v := .iface 89 (.int .i64 40), recovered := false }] := hbd
                    subst hbd
                    go_wp2_with fail
                    rw [E4.out]
                    exact ⟨rfl, rfl, B2.out⟩
              have hv10 := hop
              clear hop
              by_cases hop : e.op = 11
              · have o1 : (e.op == 1) = false := by rw [hop]; rfl
                have o2 : (e.op == 2) = false := by rw [hop]; rfl
                have o8 : (e.op == 8) = false := by rw [hop]; rfl
                have o9 : (e.op == 9) = false := by rw [hop]; rfl
                have o10 : (e.op == 10) = false := by rw [hop]; rfl
                have o11 : (e.op == 11) = true := by rw [hop]; rfl
                have o12 : (e.op == 12) = false := by rw [hop]; rfl
                have o13 : (e.op == 13) = false := by rw [hop]; rfl
                have o16 : (e.op == 16) = false := by rw [hop]; rfl
                have o3 : (e.op == 3) = false := by rw [hop]; rfl
                have hnm' : e.name = [] := h2.resolve_left (by omega)
                have E3 := Lib.hid (show r = if ¬ sameV e.val ⟨0, 0, false, [], 0⟩ = true then .error 1 else if a0 = 2 ∧ a1 = 2 then .ok a0 else .error 40 by
                  rw [E3.out]; unfold kind3; rw [if_neg (fun h => h (HAR.out.trans HA.out)), if_neg (fun h => h h2), if_neg (show ¬ e.op = 1 by omega), if_neg (show ¬ e.op = 2 by omega), if_neg (show ¬ e.op = 8 by omega), if_neg (show ¬ e.op = 9 by omega), if_neg (show ¬ e.op = 12 by omega), if_pos (show e.op = 10 ∨ e.op = 11 by omega)]
                  simp only [show (e.op = 1) = False from eq_false (by omega), false_or])
                clear h2
                have hnm : e.name.isEmpty = true := by rw [hnm']; rfl
                clear hnm'
                go_wp2_with fail
                refine (must_ok 1).mono ?_
                rintro x9 w9 ⟨rfl, rfl⟩
                go_wp2_with fail
                refine (same_c e.val ⟨0, 0, false, [], 0⟩).mono ?_
                rintro x9 w3 ⟨rfl, hb⟩
                have B2 := Lib.hid (below_self B1.out hb)
                have L2 := Lib.hid (L1.out.below hb)
                have K2 := Lib.hid (K1.out.below hb)
                have F2 := Lib.hid (F1.out.below hb)
                clear hb e0 e1 e2 e3 e4 e5 e6 e7 L1 K1 F1
                obtain ⟨e0, e1, e2, e3, e4, e5, e6, e7⟩ := cells8 L2.out
                obtain ⟨q0, q1, q2⟩ := cells3 K2.out
                have hz3 := lt_of_heap L2.out
                have hzk3 := lt_of_heap K2.out
                cases hsm : sameV e.val ⟨0, 0, false, [], 0⟩
                · have E4 := Lib.hid (show r = .error 1 by rw [E3.out, if_pos (fun h => by rw [hsm] at h; cases h)])
                  clear E3
                  go_wp2_with fail
                  refine (must_no 1).mono ?_
                  rintro x9 w9 ⟨hbd, rfl⟩
                  have hbd : x9 = .panicked [{ v := .iface 89 (.int .i64 1), recovered := false }] := hbd
                  subst hbd
                  go_wp2_with fail
                  rw [E4.out]
                  exact ⟨rfl, rfl, B2.out⟩
                · replace E3 := Lib.hid (show r = if a0 = 2 ∧ a1 = 2 then .ok a0 else .error 40 by rw [E3.out, if_neg (fun h => h hsm)])
                  go_wp2_with fail
                  refine (must_ok 1).mono ?_
                  rintro x9 w9 ⟨rfl, rfl⟩
                  by_cases c0 : a0 = 2
                  · subst c0
                    by_cases c1 : a1 = 2
                    · subst c1
                      have E4 := Lib.hid (show r = .ok 2 by rw [E3.out]; simp_all)
                      clear E3
                      go_wp2_with fail
                      refine (must_ok 40).mono ?_
                      rintro x9 w9 ⟨rfl, rfl⟩
                      go_wp2_with fail
                      go_ret
                      rw [E4.out]
                      exact ⟨rfl, B2.out⟩
                    · have c1b : (a1 == 2) = false := by simpa using c1
                      have E4 := Lib.hid (show r = .error 40 by rw [E3.out]; simp_all)
                      clear E3
                      go_wp2_with fail
                      refine (must_no 40).mono ?_
                      rintro x9 w9 ⟨hbd, rfl⟩
                      have hbd : x9 = .panicked [{ v := .iface 89 (.int .i64 40), recovered := false }] := hbd
                      subst hbd
                      go_wp2_with fail
                      rw [E4.out]
                      exact ⟨rfl, rfl, B2.out⟩
                  · have c0b : (a0 == 2) = false := by simpa using c0
                    have E4 := Lib.hid (show r = .error 40 by rw [E3.out]; simp_all)
                    clear E3
                    go_wp2_with fail
                    refine (must_no 40).mono ?_
                    rintro x9 w9 ⟨hbd, rfl⟩
                    have hbd : x9 = .panicked [{ v := .iface 89 (.int .i64 40), recovered := false }] := hbd
                    subst hbd
                    go_wp2_with fail
                    rw [E4.out]
                    exact ⟨rfl, rfl, B2.out⟩
              have hv11 := hop
              clear hop
              by_cases hop : e.op = 13
              · have o1 : (e.op == 1) = false := by rw [hop]; rfl
                have o2 : (e.op == 2) = false := by rw [hop]; rfl
                have o8 : (e.op == 8) = false := by rw [hop]; rfl
                have o9 : (e.op == 9) = false := by rw [hop]; rfl
                have o10 : (e.op == 10) = false := by rw [hop]; rfl
                have o11 : (e.op == 11) = false := by rw [hop]; rfl
                have o12 : (e.op == 12) = false := by rw [hop]; rfl
                have o13 : (e.op == 13) = true := by rw [hop]; rfl
                have o16 : (e.op == 16) = false := by rw [hop]; rfl
                have o3 : (e.op == 3) = false := by rw [hop]; rfl
                have hnm' : e.name = [] := h2.resolve_left (by omega)
                have E3 := Lib.hid (show r = if ¬ sameV e.val ⟨0, 0, false, [], 0⟩ = true then .error 1 else if a0 = 2 ∧ a1 = a2 then .ok a1 else .error 40 by
                  rw [E3.out]; unfold kind3; rw [if_neg (fun h => h (HAR.out.trans HA.out)), if_neg (fun h => h h2), if_neg (show ¬ e.op = 1 by omega), if_neg (show ¬ e.op = 2 by omega), if_neg (show ¬ e.op = 8 by omega), if_neg (show ¬ e.op = 9 by omega), if_neg (show ¬ e.op = 12 by omega), if_neg (show ¬ (e.op = 10 ∨ e.op = 11) by omega), if_pos (show e.op = 13 by omega)]
                  simp only [show (e.op = 1) = False from eq_false (by omega), false_or])
                clear h2
                have hnm : e.name.isEmpty = true := by rw [hnm']; rfl
                clear hnm'
                go_wp2_with fail
                refine (must_ok 1).mono ?_
                rintro x9 w9 ⟨rfl, rfl⟩
                go_wp2_with fail
                refine (same_c e.val ⟨0, 0, false, [], 0⟩).mono ?_
                rintro x9 w3 ⟨rfl, hb⟩
                have B2 := Lib.hid (below_self B1.out hb)
                have L2 := Lib.hid (L1.out.below hb)
                have K2 := Lib.hid (K1.out.below hb)
                have F2 := Lib.hid (F1.out.below hb)
                clear hb e0 e1 e2 e3 e4 e5 e6 e7 L1 K1 F1
                obtain ⟨e0, e1, e2, e3, e4, e5, e6, e7⟩ := cells8 L2.out
                obtain ⟨q0, q1, q2⟩ := cells3 K2.out
                have hz3 := lt_of_heap L2.out
                have hzk3 := lt_of_heap K2.out
                cases hsm : sameV e.val ⟨0, 0, false, [], 0⟩
                · have E4 := Lib.hid (show r = .error 1 by rw [E3.out, if_pos (fun h => by rw [hsm] at h; cases h)])
                  clear E3
                  go_wp2_with fail
                  refine (must_no 1).mono ?_
                  rintro x9 w9 ⟨hbd, rfl⟩
                  have hbd : x9 = .panicked [{ v := .iface 89 (.int .i64 1), recovered := false }] := hbd
                  subst hbd
                  go_wp2_with fail
                  rw [E4.out]
                  exact ⟨rfl, rfl, B2.out⟩
                · replace E3 := Lib.hid (show r = if a0 = 2 ∧ a1 = a2 then .ok a1 else .error 40 by rw [E3.out, if_neg (fun h => h hsm)])
                  go_wp2_with fail
                  refine (must_ok 1).mono ?_
                  rintro x9 w9 ⟨rfl, rfl⟩
                  by_cases c0 : a0 = 2
                  · subst c0
                    by_cases c1 : a1 = a2
                    · subst c1
                      have E4 := Lib.hid (show r = .ok a1 by rw [E3.out]; simp_all)
                      clear E3
                      go_wp2_with fail
                      refine (must_ok 40).mono ?_
                      rintro x9 w9 ⟨rfl, rfl⟩
                      go_wp2_with fail
                      go_ret
                      rw [E4.out]
                      exact ⟨rfl, B2.out⟩
                    · have c1b : (a1 == a2) = false := by simpa using c1
                      have E4 := Lib.hid (show r = .error 40 by rw [E3.out]; simp_all)
                      clear E3
                      go_wp2_with fail
                      refine (must_no 40).mono ?_
                      rintro x9 w9 ⟨hbd, rfl⟩
                      have hbd : x9 = .panicked [{ v := .iface 89 (.int .i64 40), recovered := false }] := hbd
                      subst hbd
                      go_wp2_with fail
                      rw [E4.out]
                      exact ⟨rfl, rfl, B2.out⟩
                  · have c0b : (a0 == 2) = false := by simpa using c0
                    have E4 := Lib.hid (show r = .error 40 by rw [E3.out]; simp_all)
                    clear E3
                    go_wp2_with fail
                    refine (must_no 40).mono ?_
                    rintro x9 w9 ⟨hbd, rfl⟩
                    have hbd : x9 = .panicked [{ v := .iface 89 (.int .i64 40), recovered := false }] := hbd
                    subst hbd
                    go_wp2_with fail
                    rw [E4.out]
                    exact ⟨rfl, rfl, B2.out⟩
              have hv13 := hop
              clear hop
              by_cases hop : e.op = 16
              · have o1 : (e.op == 1) = false := by rw [hop]; rfl
                have o2 : (e.op == 2) = false := by rw [hop]; rfl
                have o8 : (e.op == 8) = false := by rw [hop]; rfl
                have o9 : (e.op == 9) = false := by rw [hop]; rfl
                have o10 : (e.op == 10) = false := by rw [hop]; rfl
                have o11 : (e.op == 11) = false := by rw [hop]; rfl
                have o12 : (e.op == 12) = false := by rw [hop]; rfl
                have o13 : (e.op == 13) = false := by rw [hop]; rfl
                have o16 : (e.op == 16) = true := by rw [hop]; rfl
                have o3 : (e.op == 3) = false := by rw [hop]; rfl
                have hnm' : e.name = [] := h2.resolve_left (by omega)
                have E3 := Lib.hid (show r = if ¬ sameV e.val ⟨0, 0, false, [], 0⟩ = true then .error 1 else if a0 = 1 then .ok 4 else .error 40 by
                  rw [E3.out]; unfold kind3; rw [if_neg (fun h => h (HAR.out.trans HA.out)), if_neg (fun h => h h2), if_neg (show ¬ e.op = 1 by omega), if_neg (show ¬ e.op = 2 by omega), if_neg (show ¬ e.op = 8 by omega), if_neg (show ¬ e.op = 9 by omega), if_neg (show ¬ e.op = 12 by omega), if_neg (show ¬ (e.op = 10 ∨ e.op = 11) by omega), if_neg (show ¬ e.op = 13 by omega), if_pos (show e.op = 16 by omega)]
                  simp only [show (e.op = 1) = False from eq_false (by omega), false_or])
                clear h2
                have hnm : e.name.isEmpty = true := by rw [hnm']; rfl
                clear hnm'
                go_wp2_with fail
                refine (must_ok 1).mono ?_
                rintro x9 w9 ⟨rfl, rfl⟩
                go_wp2_with fail
                refine (same_c e.val ⟨0, 0, false, [], 0⟩).mono ?_
                rintro x9 w3 ⟨rfl, hb⟩
                have B2 := Lib.hid (below_self B1.out hb)
                have L2 := Lib.hid (L1.out.below hb)
                have K2 := Lib.hid (K1.out.below hb)
                have F2 := Lib.hid (F1.out.below hb)
                clear hb e0 e1 e2 e3 e4 e5 e6 e7 L1 K1 F1
                obtain ⟨e0, e1, e2, e3, e4, e5, e6, e7⟩ := cells8 L2.out
                obtain ⟨q0, q1, q2⟩ := cells3 K2.out
                have hz3 := lt_of_heap L2.out
                have hzk3 := lt_of_heap K2.out
                cases hsm : sameV e.val ⟨0, 0, false, [], 0⟩
                · have E4 := Lib.hid (show r = .error 1 by rw [E3.out, if_pos (fun h => by rw [hsm] at h; cases h)])
                  clear E3
                  go_wp2_with fail
                  refine (must_no 1).mono ?_
                  rintro x9 w9 ⟨hbd, rfl⟩
                  have hbd : x9 = .panicked [{ v := .iface 89 (.int .i64 1), recovered := false }] := hbd
                  subst hbd
                  go_wp2_with fail
                  rw [E4.out]
                  exact ⟨rfl, rfl, B2.out⟩
                · replace E3 := Lib.hid (show r = if a0 = 1 then .ok 4 else .error 40 by rw [E3.out, if_neg (fun h => h hsm)])
                  go_wp2_with fail
                  refine (must_ok 1).mono ?_
                  rintro x9 w9 ⟨rfl, rfl⟩
                  by_cases c0 : a0 = 1
                  · subst c0
                    have E4 := Lib.hid (show r = .ok 4 by rw [E3.out]; simp_all)
                    clear E3
                    go_wp2_with fail
                    refine (must_ok 40).mono ?_
                    rintro x9 w9 ⟨rfl, rfl⟩
                    go_wp2_with fail
                    go_ret
                    rw [E4.out]
                    exact ⟨rfl, B2.out⟩
                  · have c0b : (a0 == 1) = false := by simpa using c0
                    have E4 := Lib.hid (show r = .error 40 by rw [E3.out]; simp_all)
                    clear E3
                    go_wp2_with fail
                    refine (must_no 40).mono ?_
                    rintro x9 w9 ⟨hbd, rfl⟩
                    have hbd : x9 = .panicked [{ v := .iface 89 (.int .i64 40), recovered := false }] := hbd
                    subst hbd
                    go_wp2_with fail
                    rw [E4.out]
                    exact ⟨rfl, rfl, B2.out⟩
              have hv16 := hop
              clear hop
              by_cases hop : e.op = 3
              · have o1 : (e.op == 1) = false := by rw [hop]; rfl
                have o2 : (e.op == 2) = false := by rw [hop]; rfl
                have o8 : (e.op == 8) = false := by rw [hop]; rfl
                have o9 : (e.op == 9) = false := by rw [hop]; rfl
                have o10 : (e.op == 10) = false := by rw [hop]; rfl
                have o11 : (e.op == 11) = false := by rw [hop]; rfl
                have o12 : (e.op == 12) = false := by rw [hop]; rfl
                have o13 : (e.op == 13) = false := by rw [hop]; rfl
                have o16 : (e.op == 16) = false := by rw [hop]; rfl
                have o3 : (e.op == 3) = true := by rw [hop]; rfl
                have hnm' : e.name = [] := h2.resolve_left (by omega)
                have E3 := Lib.hid (show r = if ¬ sameV e.val ⟨0, 0, false, [], 0⟩ = true then .error 1 else if isN a0 = true then .ok a0 else .error 40 by
                  rw [E3.out]; unfold kind3; rw [if_neg (fun h => h (HAR.out.trans HA.out)), if_neg (fun h => h h2), if_neg (show ¬ e.op = 1 by omega), if_neg (show ¬ e.op = 2 by omega), if_neg (show ¬ e.op = 8 by omega), if_neg (show ¬ e.op = 9 by omega), if_neg (show ¬ e.op = 12 by omega), if_neg (show ¬ (e.op = 10 ∨ e.op = 11) by omega), if_neg (show ¬ e.op = 13 by omega), if_neg (show ¬ e.op = 16 by omega), if_pos (show e.op = 3 by omega)]
                  simp only [show (e.op = 1) = False from eq_false (by omega), false_or])
                clear h2
                have hnm : e.name.isEmpty = true := by rw [hnm']; rfl
                clear hnm'
                go_wp2_with fail
                refine (must_ok 1).mono ?_
                rintro x9 w9 ⟨rfl, rfl⟩
                go_wp2_with fail
                refine (same_c e.val ⟨0, 0, false, [], 0⟩).mono ?_
                rintro x9 w3 ⟨rfl, hb⟩
                have B2 := Lib.hid (below_self B1.out hb)
                have L2 := Lib.hid (L1.out.below hb)
                have K2 := Lib.hid (K1.out.below hb)
                have F2 := Lib.hid (F1.out.below hb)
                clear hb e0 e1 e2 e3 e4 e5 e6 e7 L1 K1 F1
                obtain ⟨e0, e1, e2, e3, e4, e5, e6, e7⟩ := cells8 L2.out
                obtain ⟨q0, q1, q2⟩ := cells3 K2.out
                have hz3 := lt_of_heap L2.out
                have hzk3 := lt_of_heap K2.out
                cases hsm : sameV e.val ⟨0, 0, false, [], 0⟩
                · have E4 := Lib.hid (show r = .error 1 by rw [E3.out, if_pos (fun h => by rw [hsm] at h; cases h)])
                  clear E3
                  go_wp2_with fail
                  refine (must_no 1).mono ?_
                  rintro x9 w9 ⟨hbd, rfl⟩
                  have hbd : x9 = .panicked [{ v := .iface 89 (.int .i64 1), recovered := false }] := hbd
                  subst hbd
                  go_wp2_with fail
                  rw [E4.out]
                  exact ⟨rfl, rfl, B2.out⟩
                · replace E3 := Lib.hid (show r = if isN a0 = true then .ok a0 else .error 40 by rw [E3.out, if_neg (fun h => h hsm)])
                  go_wp2_with fail
                  refine (must_ok 1).mono ?_
                  rintro x9 w9 ⟨rfl, rfl⟩
                  cases c0 : (isN a0)
                  · have E4 := Lib.hid (show r = .error 40 by rw [E3.out]; simp_all)
                    clear E3
                    go_wp2_with fail
                    refine (numeric_c _).mono ?_
                    rintro x9 w9 ⟨rfl, rfl⟩
                    go_wp2_with fail
                    refine (must_no 40).mono ?_
                    rintro x9 w9 ⟨hbd, rfl⟩
                    have hbd : x9 = .panicked [{ v := .iface 89 (.int .i64 40), recovered := false }] := hbd
                    subst hbd
                    go_wp2_with fail
                    rw [E4.out]
                    exact ⟨rfl, rfl, B2.out⟩
                  · have E4 := Lib.hid (show r = .ok a0 by rw [E3.out]; simp_all)
                    clear E3
                    go_wp2_with fail
                    refine (numeric_c _).mono ?_
                    rintro x9 w9 ⟨rfl, rfl⟩
                    go_wp2_with fail
                    refine (must_ok 40).mono ?_
                    rintro x9 w9 ⟨rfl, rfl⟩
                    go_wp2_with fail
                    go_ret
                    rw [E4.out]
                    exact ⟨rfl, B2.out⟩
              have hv3 := hop
              clear hop
              have hnm' : e.name = [] := h2.resolve_left (by omega)
              have o1 : (e.op == 1) = false := by simpa using hv1
              have o2 : (e.op == 2) = false := by simpa using hv2
              have o8 : (e.op == 8) = false := by simpa using hv8
              have o9 : (e.op == 9) = false := by simpa using hv9
              have o10 : (e.op == 10) = false := by simpa using hv10
              have o11 : (e.op == 11) = false := by simpa using hv11
              have o12 : (e.op == 12) = false := by simpa using hv12
              have o13 : (e.op == 13) = false := by simpa using hv13
              have o16 : (e.op == 16) = false := by simpa using hv16
              have o3 : (e.op == 3) = false := by simpa using hv3
              have E3 := Lib.hid (show r = if ¬ sameV e.val ⟨0, 0, false, [], 0⟩ = true then .error 1 else if a0 = a1 ∧ isN a0 = true then .ok a0 else .error 40 by
                rw [E3.out]; unfold kind3; rw [if_neg (fun h => h (HAR.out.trans HA.out)), if_neg (fun h => h h2), if_neg (show ¬ e.op = 1 by omega), if_neg (show ¬ e.op = 2 by omega), if_neg (show ¬ e.op = 8 by omega), if_neg (show ¬ e.op = 9 by omega), if_neg (show ¬ e.op = 12 by omega), if_neg (show ¬ (e.op = 10 ∨ e.op = 11) by omega), if_neg (show ¬ e.op = 13 by omega), if_neg (show ¬ e.op = 16 by omega), if_neg (show ¬ e.op = 3 by omega)]
                simp only [show (e.op = 1) = False from eq_false (by omega), false_or])
              clear h2
              have hnm : e.name.isEmpty = true := by rw [hnm']; rfl
              clear hnm'
              go_wp2_with fail
              refine (must_ok 1).mono ?_
              rintro x9 w9 ⟨rfl, rfl⟩
              go_wp2_with fail
              refine (same_c e.val ⟨0, 0, false, [], 0⟩).mono ?_
              rintro x9 w3 ⟨rfl, hb⟩
              have B2 := Lib.hid (below_self B1.out hb)
              have L2 := Lib.hid (L1.out.below hb)
              have K2 := Lib.hid (K1.out.below hb)
              have F2 := Lib.hid (F1.out.below hb)
              clear hb e0 e1 e2 e3 e4 e5 e6 e7 L1 K1 F1
              obtain ⟨e0, e1, e2, e3, e4, e5, e6, e7⟩ := cells8 L2.out
              obtain ⟨q0, q1, q2⟩ := cells3 K2.out
              have hz3 := lt_of_heap L2.out
              have hzk3 := lt_of_heap K2.out
              cases hsm : sameV e.val ⟨0, 0, false, [], 0⟩
              · have E4 := Lib.hid (show r = .error 1 by rw [E3.out, if_pos (fun h => by rw [hsm] at h; cases h)])
                clear E3
                go_wp2_with fail
                refine (must_no 1).mono ?_
                rintro x9 w9 ⟨hbd, rfl⟩
                have hbd : x9 = .panicked [{ v := .iface 89 (.int .i64 1), recovered := false }] := hbd
                subst hbd
                go_wp2_with fail
                rw [E4.out]
                exact ⟨rfl, rfl, B2.out⟩
              · replace E3 := Lib.hid (show r = if a0 = a1 ∧ isN a0 = true then .ok a0 else .error 40 by rw [E3.out, if_neg (fun h => h hsm)])
                go_wp2_with fail
                refine (must_ok 1).mono ?_
                rintro x9 w9 ⟨rfl, rfl⟩
                by_cases c0 : a0 = a1
                · subst c0
                  cases c1 : (isN a0)
                  · have E4 := Lib.hid (show r = .error 40 by rw [E3.out]; simp_all)
                    clear E3
                    go_wp2_with fail
                    refine (numeric_c _).mono ?_
                    rintro x9 w9 ⟨rfl, rfl⟩
                    go_wp2_with fail
                    refine (must_no 40).mono ?_
                    rintro x9 w9 ⟨hbd, rfl⟩
                    have hbd : x9 = .panicked [{ v := .iface 89 (.int .i64 40), recovered := false }] := hbd
                    subst hbd
                    go_wp2_with fail
                    rw [E4.out]
                    exact ⟨rfl, rfl, B2.out⟩
                  · have E4 := Lib.hid (show r = .ok a0 by rw [E3.out]; simp_all)
                    clear E3
                    go_wp2_with fail
                    refine (numeric_c _).mono ?_
                    rintro x9 w9 ⟨rfl, rfl⟩
                    go_wp2_with fail
                    refine (must_ok 40).mono ?_
                    rintro x9 w9 ⟨rfl, rfl⟩
                    go_wp2_with fail
                    go_ret
                    rw [E4.out]
                    exact ⟨rfl, B2.out⟩
                · have c0b : (a0 == a1) = false := by simpa using c0
                  have E4 := Lib.hid (show r = .error 40 by rw [E3.out]; simp_all)
                  clear E3
                  go_wp2_with fail
                  refine (must_no 40).mono ?_
                  rintro x9 w9 ⟨hbd, rfl⟩
                  have hbd : x9 = .panicked [{ v := .iface 89 (.int .i64 40), recovered := false }] := hbd
                  subst hbd
                  go_wp2_with fail
                  rw [E4.out]
                  exact ⟨rfl, rfl, B2.out⟩
          · have h2a : (e.op == 2) = false := by simpa using fun h => h2 (.inl h)
            have h2b : e.name.isEmpty = false := by cases hn : e.name with | nil => exact absurd (.inr hn) h2 | cons x l => rfl
            have E4 := Lib.hid (show r = .error 1 by rw [E3.out]; unfold kind3; rw [if_neg (fun h => h (HAR.out.trans HA.out)), if_pos h2])
            clear h2 E3
            go_wp2_with fail
            refine (must_no 1).mono ?_
            rintro x9 w9 ⟨hbd, rfl⟩
            have hbd : x9 = .panicked [{ v := .iface 89 (.int .i64 1), recovered := false }] := hbd
            subst hbd
            go_wp2_with fail
            rw [E4.out]
            exact ⟨rfl, rfl, B1.out⟩
        · have ha' : (ariF e.op == (e.kids.length : Int)) = false := by simpa using ha
          have HAr := fun W : World => arity_c (w := W) e.op
          have E4 := Lib.hid (show r = .error 1 by rw [E3.out]; unfold kind3; rw [if_pos ha])
          generalize hAr : ariF e.op = ar at *
          clear ha hAr E3
          have hb0 := HB.out
          go_wp2_with fail
          refine wp_region_held_drew (S := fun W => W.cell? ⟨w.heap.size, 0, none⟩ = some (.int .i64 e.op) ∧ W.cell? ⟨w.heap.size, 1, none⟩ = some (.slice B e.kids.length d) ∧ Below w.heap.size w W) (by kernel_rfl) ⟨e0, e1, hb0.drew⟩ (fun hHeld => ?_)
          refine wpAnyH_take (i := 0) (oi := { dst := some 27, op := Op.fieldAddr 27 (Operand.tmp 2) 0, type := 0, pos := "expr.go:84", after := #[], guard := none }) (v := .pointer (some ⟨w.heap.size, 0, none⟩)) rfl (by kernel_rfl) (by kernel_rfl) (by kernel_rfl) (fun _ _ _ h => h) (Or.inl ⟨by rfl, by (intro wz hSw; (try dsimp only at hSw); go_simp)⟩) (by assumption) ?_
          simp only [Act.put, List.setIfInBounds_toArray, List.set_cons_zero, List.set_cons_succ]
          refine wpAnyH_take (i := 1) (oi := { dst := some 28, op := Op.load 3 (Operand.tmp 27), type := 3, pos := "expr.go:84", after := #[{ on := 0, ground := Ground.data }], guard := none }) (v := .int .i64 e.op) rfl (by kernel_rfl) (by kernel_rfl) (by kernel_rfl) (fun _ _ _ h => h) (Or.inl ⟨by rfl, by (intro wz hSw; (try dsimp only at hSw); go_simp)⟩) (by assumption) ?_
          simp only [Act.put, List.setIfInBounds_toArray, List.set_cons_zero, List.set_cons_succ]
          refine wpAnyH_take (i := 3) (oi := { dst := some 30, op := Op.fieldAddr 27 (Operand.tmp 2) 1, type := 0, pos := "expr.go:84", after := #[], guard := none }) (v := .pointer (some ⟨w.heap.size, 1, none⟩)) rfl (by kernel_rfl) (by kernel_rfl) (by kernel_rfl) (fun _ _ _ h => h) (Or.inl ⟨by rfl, by (intro wz hSw; (try dsimp only at hSw); go_simp)⟩) (by assumption) ?_
          simp only [Act.put, List.setIfInBounds_toArray, List.set_cons_zero, List.set_cons_succ]
          refine wpAnyH_take (i := 4) (oi := { dst := some 31, op := Op.load 22 (Operand.tmp 30), type := 22, pos := "expr.go:84", after := #[{ on := 3, ground := Ground.data }], guard := none }) (v := .slice B e.kids.length d) rfl (by kernel_rfl) (by kernel_rfl) (by kernel_rfl) (fun _ _ _ h => h) (Or.inl ⟨by rfl, by (intro wz hSw; (try dsimp only at hSw); go_simp)⟩) (by assumption) ?_
          simp only [Act.put, List.setIfInBounds_toArray, List.set_cons_zero, List.set_cons_succ]
          refine wpAnyH_take (i := 5) (oi := { dst := some 32, op := Op.call { callee := Callee.builtin Builtin.len, args := #[Operand.tmp 31], argTypes := #[22] }, type := 3, pos := "expr.go:84", after := #[{ on := 4, ground := Ground.data }], guard := none }) (v := .int .i64 e.kids.length) rfl (by kernel_rfl) (by kernel_rfl) (by kernel_rfl) (fun _ _ _ h => h) (Or.inl ⟨by rfl, by (intro wz hSw; (try dsimp only at hSw); go_simp)⟩) (by assumption) ?_
          simp only [Act.put, List.setIfInBounds_toArray, List.set_cons_zero, List.set_cons_succ]
          refine wpAnyH_ready (rs := [2]) (by kernel_rfl) (by simp) ?_
          refine AllReadyH.cons (o := { dst := some 29, op := Op.call { callee := Callee.value (Operand.func 47), args := #[Operand.tmp 28], argTypes := #[3] }, type := 3, pos := "expr.go:84", after := #[{ on := 1, ground := Ground.data }], guard := none }) rfl (fun K hK => ?_) AllReadyH.nil
          go_simp
          refine (HAr _).mono ?_
          rintro x9 w9 ⟨rfl, rfl⟩
          refine hK.out _ _ hHeld (fun _ => ?_)
          clear hK K
          try simp only [Act.put, List.setIfInBounds_toArray, List.set_cons_zero, List.set_cons_succ]
          refine wpAnyH_take (i := 6) (oi := { dst := some 33, op := Op.binOp BinOp.eql 3 (Operand.tmp 29) (Operand.tmp 32) 3, type := 4, pos := "expr.go:84", after := #[{ on := 2, ground := Ground.data }, { on := 5, ground := Ground.data }], guard := none }) (v := .bool false) rfl (by kernel_rfl) (by kernel_rfl) (by kernel_rfl) (fun _ _ _ h => h) (Or.inl ⟨by rfl, by (intro wz hSw; (try dsimp only at hSw); go_simp)⟩) (by assumption) ?_
          simp only [Act.put, List.setIfInBounds_toArray, List.set_cons_zero, List.set_cons_succ]
          refine wpAnyH_ready (rs := [7]) (by kernel_rfl) (by simp) ?_
          refine AllReadyH.cons (o := { dst := some 34, op := Op.call { callee := Callee.value (Operand.func 31), args := #[Operand.tmp 33, Operand.const (Value.int IntKind.i64 1)], argTypes := #[4, 33] }, type := 0, pos := "expr.go:84", after := #[{ on := 6, ground := Ground.data }, { on := 2, ground := Ground.chain }], guard := none }) rfl (fun K hK => ?_) AllReadyH.nil
          go_simp
          refine (must_no 1).mono ?_
          rintro x9 w9 ⟨hbd, rfl⟩
          have hbd : x9 = .panicked [{ v := .iface 89 (.int .i64 1), recovered := false }] := hbd
          subst hbd
          refine ⟨rfl, ?_⟩
          rw [E4.out]
          exact ⟨rfl, hHeld.2.2⟩
end
end Go.Proofs.Ytijlamajcdekkaa
