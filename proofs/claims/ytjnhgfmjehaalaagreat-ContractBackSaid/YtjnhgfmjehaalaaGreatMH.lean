/- Texts that go together. -/
import Derived.Test.YtjnhgfmjehaalaaGreatMG
import Derived.Test.YtjnhgfmjehaalaaGreatMC
/- Chapter 6: the reference's Check of expressions: a part's kind. -/
namespace Go.Proofs.YtjnhgfmjehaalaaGreat
open Go.RowKit
set_option linter.unusedVariables false
set_option linter.unusedSimpArgs false
/-- what is told: a kind, or an error -/
def pairK : Except Int Int → Int × Int
  | .ok k => (k, 0)
  | .error x => (0, x)
/-- a kind, of a part with as many parts of its own as it must have -/
def tailK (fl : List Fld) (op : Int) (name : List UInt8) (val : Val) (a0 a1 a2 : Int) : Except Int Int :=
  if op = 1 then if goodV val = true then .ok val.kind else .error 40
  else if op = 2 then match fl[(findF name fl).toNat]? with | some f => if 0 ≤ findF name fl then .ok f.kind else .error 50 | none => .error 50
  else if op = 8 then if a0 = a1 then .ok 2 else .error 40
  else if op = 9 then if a0 = a1 ∧ (isN (a0) = true ∨ a0 = 3) then .ok 2 else .error 40
  else if op = 12 then if a0 = 2 then .ok (a0) else .error 40
  else if op = 10 ∨ op = 11 then if a0 = 2 ∧ a1 = 2 then .ok (a0) else .error 40
  else if op = 13 then if a0 = 2 ∧ a1 = a2 then .ok (a1) else .error 40
  else if op = 16 then if a0 = 1 then .ok 4 else .error 40
  else if op = 3 then if isN (a0) = true then .ok (a0) else .error 40
  else if a0 = a1 ∧ isN (a0) = true then .ok (a0) else .error 40
abbrev zV : Val := ⟨0, 0, false, [], 0⟩
theorem kind3_A {fl : List Fld} {e : Exp} {a b c : Int} (h : ¬ ariF e.op = e.kids.length) : kind3 fl e a b c = .error 1 := by unfold kind3; rw [if_pos h]
theorem kind3_B {fl : List Fld} {e : Exp} {a b c : Int} (h : ¬ (e.op = 2 ∨ e.name = [])) : kind3 fl e a b c = .error 1 := by
  unfold kind3
  by_cases hA : ¬ ariF e.op = e.kids.length
  · rw [if_pos hA]
  · rw [if_neg hA, if_pos h]
theorem kind3_C {fl : List Fld} {e : Exp} {a b c : Int} (h : ¬ (e.op = 1 ∨ sameV e.val zV = true)) : kind3 fl e a b c = .error 1 := by
  unfold kind3
  by_cases hA : ¬ ariF e.op = e.kids.length
  · rw [if_pos hA]
  · rw [if_neg hA]
    by_cases hB : ¬ (e.op = 2 ∨ e.name = [])
    · rw [if_pos hB]
    · rw [if_neg hB, if_pos h]
theorem kind3_D {fl : List Fld} {e : Exp} {a b c : Int} (hA : ariF e.op = e.kids.length) (hB : e.op = 2 ∨ e.name = []) (hC : e.op = 1 ∨ sameV e.val zV = true) : kind3 fl e a b c = tailK fl e.op e.name e.val a b c := by
  unfold kind3
  rw [if_neg (fun h => h hA), if_neg (fun h => h hB), if_neg (fun h => h hC)]
  rfl
theorem ari_16 {op : Int} {n : Nat} (h : ariF op = (n : Int)) : op = 1 ∨ op = 2 ∨ op = 3 ∨ op = 4 ∨ op = 5 ∨ op = 6 ∨ op = 7 ∨ op = 8 ∨ op = 9 ∨ op = 10 ∨ op = 11 ∨ op = 12 ∨ op = 13 ∨ op = 14 ∨ op = 15 ∨ op = 16 := by
  unfold ariF at h
  split at h
  · omega
  · split at h
    · omega
    · split at h
      · omega
      · split at h
        · omega
        · omega
section
variable {w : World}
theorem rkids_c (op : Int) : Calls Tryz.prog 184 #[.int .i64 op] w fun e w' => e = .returned (.int .i64 (ariF op)) ∧ w = w' := by
  have E := Lib.hid (show ariF op = if op = 1 ∨ op = 2 then 0 else if op = 3 ∨ op = 12 ∨ op = 16 then 1 else if op = 13 then 3 else if 4 ≤ op ∧ op ≤ 16 then 2 else -1 from rfl)
  generalize ariF op = r at *
  go_enter Tryz.func184, Tryz.ntmps184
  go_wp2_with fail
  all_goals (go_ret; rw [E.out]; refine ⟨?_, rfl⟩; simp_all; try omega)
theorem sameZ_c (v : Val) : Calls Tryz.prog 185 #[.agg #[.int .i64 v.kind, .int .i64 v.int, .bool v.bool, .string ⟨v.text.toArray⟩, .float .f64 v.num], .agg #[.int .i64 0, .int .i64 0, .bool false, .string ⟨#[]⟩, .float .f64 0]] w (Ret w (.bool (sameV v zV))) := same4_c v zV
theorem rfield05_c {ok : Nat → Prop} {A : Option Addr} {n c : Nat} {l : List Fld} (name : List UInt8) (h : Sl kFld ok w (.slice A n c) l) :
    Calls Tryz.prog 186 #[.string ⟨name.toArray⟩, .slice A n c] w (Ret w (.int .i64 (findF name l))) := by
  have H := Lib.hid h
  have hmax := h.len.2.2.1
  have hnc := h.len.2.1
  clear h
  rw [show findF name l = idx (isF name) l from rfl]
  go_enter Tryz.func186, Tryz.ntmps186
  go_wp2_with fail
  go_loopw [5] (fun v wr => ∃ k : Nat, k ≤ n ∧ v = .int .i64 k ∧ (∀ j x, j < k → l[j]? = some x → (fun (_ : Nat) x => isF name x) j x = false) ∧ Below w.heap.size w wr) (fun v _ => n - (intOf v).toNat)
  case atStart => exact ⟨0, Nat.zero_le _, rfl, allI_nil, Below.refl _ _⟩
  case round =>
    obtain ⟨k, hk, rfl, hp, hb⟩ := hrel
    have HP := Lib.hid hp
    clear hp
    by_cases hlt : k < n
    · obtain ⟨ad, e, B', d', rfl, he, -, c0, -⟩ := fld_at (H.out.below hb) hlt
      have HE := Lib.hid he
      clear he
      cases hm : (e.name == name)
      · have HM := Lib.hid (show isF name e = false from hm)
        go_wp2_with fail
        go_roundw
        case rel => exact ⟨k + 1, by omega, by go_num, allI_step (q := fun _ x => isF name x) HP.out HE.out HM.out, hb⟩
        case measure => simp [intOf]; omega
      · have E1 := Lib.hid (idx_at (p := isF name) HP.out HE.out hm)
        go_wp2_with fail
        go_ret
        rw [E1.out]
        exact ⟨rfl, bW⟩
    · have E1 := Lib.hid (idx_none (n := k) (p := isF name) (by have := H.out.len.1; omega) HP.out)
      go_wp2_with fail
      go_ret
      rw [E1.out]
      exact ⟨rfl, bW⟩
set_option maxRecDepth 100000 in
set_option maxHeartbeats 8000000 in
theorem rkind_no {A K : Option Addr} {N c kc : Nat} {fl : List Fld} {ks : List Int} {B : Option Addr} {d : Nat} (op : Int) (kids : List Exp) (name : List UInt8) (val : Val) (hg : ¬ (ariF op = (kids.length : Int) ∧ (op = 2 ∨ name = []) ∧ (op = 1 ∨ sameV val zV = true))) (hk : ks.length = kids.length)
    (hks : Sl kI (fun _ => True) w (.slice K ks.length kc) ks) (hf : Sl kFld (fun _ => True) w (.slice A N c) fl) :
    Calls Tryz.prog 171 #[.agg #[.int .i64 op, .slice B kids.length d, .string ⟨name.toArray⟩, .int .i64 val.kind, .int .i64 val.int, .bool val.bool, .string ⟨val.text.toArray⟩, .float .f64 val.num], .slice K ks.length kc, .slice A N c] w (Ret w (.tuple #[.int .i64 (pairK (kindOf fl (.mk op kids name val) ks)).1, .int .i64 (pairK (kindOf fl (.mk op kids name val) ks)).2])) := by
  have SF := store_f64
  have HG := Lib.hid hg
  clear hg
  have HF := Lib.hid (show ∀ W : World, Below w.heap.size w W → Sl kFld (fun _ => True) W (.slice A N c) fl from fun W hW => hf.below hW)
  have HK := Lib.hid (show ∀ W : World, Below w.heap.size w W → Sl kI (fun _ => True) W (.slice K ks.length kc) ks from fun W hW => hks.below hW)
  have E := Lib.hid (show kindOf fl (.mk op kids name val) ks = kind3 fl (.mk op kids name val) (ks.getD 0 0) (ks.getD 1 0) (ks.getD 2 0) from rfl)
  have hL : Loc1 w.heap.size 44 #[.int .i64 op, .slice B kids.length d, .string ⟨name.toArray⟩, .int .i64 val.kind, .int .i64 val.int, .bool val.bool, .string ⟨val.text.toArray⟩, .float .f64 val.num] (w.alloc (.cells #[.int .i64 op, .slice B kids.length d, .string ⟨name.toArray⟩, .int .i64 val.kind, .int .i64 val.int, .bool val.bool, .string ⟨val.text.toArray⟩, .float .f64 val.num] 44)) := Loc1.new _ _ _
  have B0 : Below w.heap.size w (w.alloc (.cells #[.int .i64 op, .slice B kids.length d, .string ⟨name.toArray⟩, .int .i64 val.kind, .int .i64 val.int, .bool val.bool, .string ⟨val.text.toArray⟩, .float .f64 val.num] 44)) := bW
  have KK := Lib.hid (show ∀ W : World, Below (w.alloc (.cells #[.int .i64 op, .slice B kids.length d, .string ⟨name.toArray⟩, .int .i64 val.kind, .int .i64 val.int, .bool val.bool, .string ⟨val.text.toArray⟩, .float .f64 val.num] 44)).heap.size (w.alloc (.cells #[.int .i64 op, .slice B kids.length d, .string ⟨name.toArray⟩, .int .i64 val.kind, .int .i64 val.int, .bool val.bool, .string ⟨val.text.toArray⟩, .float .f64 val.num] 44)) W → (W.cell? ⟨w.heap.size, 0, none⟩ = some (.int .i64 op) ∧ W.cell? ⟨w.heap.size, 1, none⟩ = some (.slice B kids.length d) ∧ W.cell? ⟨w.heap.size, 2, none⟩ = some (.string ⟨name.toArray⟩) ∧ W.cell? ⟨w.heap.size, 3, none⟩ = some (.int .i64 val.kind) ∧ W.cell? ⟨w.heap.size, 4, none⟩ = some (.int .i64 val.int) ∧ W.cell? ⟨w.heap.size, 5, none⟩ = some (.bool val.bool) ∧ W.cell? ⟨w.heap.size, 6, none⟩ = some (.string ⟨val.text.toArray⟩) ∧ W.cell? ⟨w.heap.size, 7, none⟩ = some (.float .f64 val.num)) ∧ w.heap.size < W.heap.size from fun W hW => ⟨⟨cell_of (hL.bel hW) 0, cell_of (hL.bel hW) 1, cell_of (hL.bel hW) 2, cell_of (hL.bel hW) 3, cell_of (hL.bel hW) 4, cell_of (hL.bel hW) 5, cell_of (hL.bel hW) 6, cell_of (hL.bel hW) 7⟩, lt_of_heap (hL.bel hW)⟩)
  have hm1 := hks.len.2.2.1
  have hm2 := hks.len.2.1
  have hm3 := hf.len.2.2.1
  have hm4 := hf.len.2.1
  generalize hr : pairK (kindOf fl (.mk op kids name val) ks) = r at *
  obtain ⟨r1, r2⟩ := r
  have HR := Lib.hid hr
  clear hr hf hks hL
  by_cases hA : ariF op = kids.length
  rotate_left
  · have hb1 : (ariF op != (kids.length : Int)) = true := by simpa using hA
    have E1 := Lib.hid (show (r1, r2) = ((0, 1) : Int × Int) from by rw [← HR.out, E.out, kind3_A (e := .mk op kids name val) hA]; rfl)
    go_enter Tryz.func171, Tryz.ntmps171
    go_wp2_with fail
    go_quiet ((go_at_call 184; exact quiet_left (rkids_c _)))
    go_wp2_with fail
    go_ret2
    obtain ⟨rfl, rfl⟩ := Prod.mk.inj E1.out
    exact ⟨rfl, bW⟩
  have hb1 : (ariF op != (kids.length : Int)) = false := by simpa using hA
  have HA := Lib.hid hA
  by_cases hB : op = 2 ∨ name = []
  rotate_left
  · have hb2 : (op != 2) = true := by simp only [bne_iff_ne]; exact fun h => hB (.inl h)
    have hnm : name.isEmpty = false := by cases name with
      | nil => exact absurd (.inr rfl) hB
      | cons => rfl
    have HB := Lib.hid hB
    clear hA hB
    have E1 := Lib.hid (show (r1, r2) = ((0, 1) : Int × Int) from by rw [← HR.out, E.out, kind3_B (e := .mk op kids name val) HB.out]; rfl)
    go_enter Tryz.func171, Tryz.ntmps171
    go_wp2_with fail
    go_quiet ((go_at_call 184; exact quiet_left (rkids_c _)))
    go_wp2_with fail
    go_ret2
    obtain ⟨rfl, rfl⟩ := Prod.mk.inj E1.out
    exact ⟨rfl, bW⟩
  have HB := Lib.hid hB
  by_cases hC : op = 1 ∨ sameV val zV = true
  rotate_left
  · have HC := Lib.hid hC
    have hb3 : (op != 1) = true := by simp only [bne_iff_ne]; exact fun h => hC (.inl h)
    have hsv : sameV val zV = false := by simpa using fun h => hC (.inr h)
    clear hA hC
    by_cases h2 : op = 2
    · have hb2 : (op != 2) = false := by simpa using h2
      clear hB h2
      have E1 := Lib.hid (show (r1, r2) = ((0, 1) : Int × Int) from by rw [← HR.out, E.out, kind3_C (e := .mk op kids name val) HC.out]; rfl)
      go_enter Tryz.func171, Tryz.ntmps171
      go_wp2_with fail
      refine wp_region_held_drew (S := fun W => (W.cell? ⟨w.heap.size, 0, none⟩ = some (.int .i64 op) ∧ W.cell? ⟨w.heap.size, 1, none⟩ = some (.slice B kids.length d) ∧ W.cell? ⟨w.heap.size, 2, none⟩ = some (.string ⟨name.toArray⟩) ∧ W.cell? ⟨w.heap.size, 3, none⟩ = some (.int .i64 val.kind) ∧ W.cell? ⟨w.heap.size, 4, none⟩ = some (.int .i64 val.int) ∧ W.cell? ⟨w.heap.size, 5, none⟩ = some (.bool val.bool) ∧ W.cell? ⟨w.heap.size, 6, none⟩ = some (.string ⟨val.text.toArray⟩) ∧ W.cell? ⟨w.heap.size, 7, none⟩ = some (.float .f64 val.num))) (by kernel_rfl) (KK.out _ bW).1 (fun hHeld => ?_)
      refine wpAnyH_take (i := 0) (oi := { dst := some 9, op := Op.fieldAddr 44 (Operand.tmp 3) 0, type := 0, pos := "ref.go:52", after := #[], guard := none }) (v := .pointer (some ⟨w.heap.size, 0, none⟩)) rfl (by kernel_rfl) (by kernel_rfl) (by kernel_rfl) (fun _ _ _ h => h) (Or.inl ⟨by rfl, by (intro wz hSw; (try dsimp only at hSw); go_simp)⟩) (by assumption) ?_
      try simp only [Act.put, List.setIfInBounds_toArray, List.set_cons_zero, List.set_cons_succ]
      refine wpAnyH_take (i := 1) (oi := { dst := some 10, op := Op.load 3 (Operand.tmp 9), type := 3, pos := "ref.go:52", after := #[{ on := 0, ground := Ground.data }], guard := none }) (v := .int .i64 op) rfl (by kernel_rfl) (by kernel_rfl) (by kernel_rfl) (fun _ _ _ h => h) (Or.inl ⟨by rfl, by (intro wz hSw; (try dsimp only at hSw); go_simp)⟩) (by assumption) ?_
      try simp only [Act.put, List.setIfInBounds_toArray, List.set_cons_zero, List.set_cons_succ]
      refine wpAnyH_take (i := 3) (oi := { dst := some 12, op := Op.fieldAddr 44 (Operand.tmp 3) 1, type := 0, pos := "ref.go:52", after := #[], guard := none }) (v := .pointer (some ⟨w.heap.size, 1, none⟩)) rfl (by kernel_rfl) (by kernel_rfl) (by kernel_rfl) (fun _ _ _ h => h) (Or.inl ⟨by rfl, by (intro wz hSw; (try dsimp only at hSw); go_simp)⟩) (by assumption) ?_
      try simp only [Act.put, List.setIfInBounds_toArray, List.set_cons_zero, List.set_cons_succ]
      refine wpAnyH_take (i := 4) (oi := { dst := some 13, op := Op.load 42 (Operand.tmp 12), type := 42, pos := "ref.go:52", after := #[{ on := 3, ground := Ground.data }], guard := none }) (v := .slice B kids.length d) rfl (by kernel_rfl) (by kernel_rfl) (by kernel_rfl) (fun _ _ _ h => h) (Or.inl ⟨by rfl, by (intro wz hSw; (try dsimp only at hSw); go_simp)⟩) (by assumption) ?_
      try simp only [Act.put, List.setIfInBounds_toArray, List.set_cons_zero, List.set_cons_succ]
      refine wpAnyH_take (i := 5) (oi := { dst := some 14, op := Op.call { callee := Callee.builtin Builtin.len, args := #[Operand.tmp 13], argTypes := #[42] }, type := 3, pos := "ref.go:52", after := #[{ on := 4, ground := Ground.data }], guard := none }) (v := .int .i64 kids.length) rfl (by kernel_rfl) (by kernel_rfl) (by kernel_rfl) (fun _ _ _ h => h) (Or.inl ⟨by rfl, by (intro wz hSw; (try dsimp only at hSw); go_simp)⟩) (by assumption) ?_
      try simp only [Act.put, List.setIfInBounds_toArray, List.set_cons_zero, List.set_cons_succ]
      refine wpAnyH_ready (rs := [2]) (by kernel_rfl) (by simp) ?_
      refine AllReadyH.cons (o := { dst := some 11, op := Op.call { callee := Callee.value (Operand.func 184), args := #[Operand.tmp 10], argTypes := #[3] }, type := 3, pos := "ref.go:52", after := #[{ on := 1, ground := Ground.data }], guard := none }) rfl (fun K hK => ?_) AllReadyH.nil
      go_simp
      refine (rkids_c _).mono ?_
      rintro x9 wz ⟨rfl, rfl⟩
      refine hK.out _ _ (KK.out _ bW).1 (fun hHeld => ?_)
      clear hK K
      try simp only [Act.put, List.setIfInBounds_toArray, List.set_cons_zero, List.set_cons_succ]
      refine wpAnyH_take (i := 6) (oi := { dst := some 15, op := Op.binOp BinOp.neq 3 (Operand.tmp 11) (Operand.tmp 14) 3, type := 4, pos := "ref.go:52", after := #[{ on := 2, ground := Ground.data }, { on := 5, ground := Ground.data }], guard := none }) (v := .bool false) rfl (by kernel_rfl) (by kernel_rfl) (by kernel_rfl) (fun _ _ _ h => h) (Or.inl ⟨by rfl, by (intro wz hSw; (try dsimp only at hSw); go_simp)⟩) (by assumption) ?_
      try simp only [Act.put, List.setIfInBounds_toArray, List.set_cons_zero, List.set_cons_succ]
      refine wpAnyH_take (i := 7) (oi := { dst := some 16, op := Op.move (Operand.tmp 15), type := 4, pos := "ref.go:52", after := #[{ on := 6, ground := Ground.data }, { on := 2, ground := Ground.chain }], guard := none }) (v := .bool false) rfl (by kernel_rfl) (by kernel_rfl) (by kernel_rfl) (fun _ _ _ h => h) (Or.inl ⟨by rfl, by (intro wz hSw; (try dsimp only at hSw); go_simp)⟩) (by assumption) ?_
      try simp only [Act.put, List.setIfInBounds_toArray, List.set_cons_zero, List.set_cons_succ]
      refine wpAnyH_take (i := 8) (oi := { dst := some 17, op := Op.fieldAddr 44 (Operand.tmp 3) 0, type := 0, pos := "ref.go:52", after := #[{ on := 7, ground := Ground.guard }], guard := some (7, false) }) (v := .pointer (some ⟨w.heap.size, 0, none⟩)) rfl (by kernel_rfl) (by kernel_rfl) (by kernel_rfl) (fun _ _ _ h => h) (Or.inl ⟨by rfl, by (intro wz hSw; (try dsimp only at hSw); go_simp)⟩) (by assumption) ?_
      try simp only [Act.put, List.setIfInBounds_toArray, List.set_cons_zero, List.set_cons_succ]
      refine wpAnyH_take (i := 9) (oi := { dst := some 18, op := Op.load 3 (Operand.tmp 17), type := 3, pos := "ref.go:52", after := #[{ on := 8, ground := Ground.data }, { on := 7, ground := Ground.guard }], guard := some (7, false) }) (v := .int .i64 op) rfl (by kernel_rfl) (by kernel_rfl) (by kernel_rfl) (fun _ _ _ h => h) (Or.inl ⟨by rfl, by (intro wz hSw; (try dsimp only at hSw); go_simp)⟩) (by assumption) ?_
      try simp only [Act.put, List.setIfInBounds_toArray, List.set_cons_zero, List.set_cons_succ]
      refine wpAnyH_take (i := 10) (oi := { dst := some 19, op := Op.binOp BinOp.neq 3 (Operand.tmp 18) (Operand.const (Value.int IntKind.i64 2)) 3, type := 4, pos := "ref.go:52", after := #[{ on := 9, ground := Ground.data }, { on := 7, ground := Ground.guard }], guard := some (7, false) }) (v := .bool false) rfl (by kernel_rfl) (by kernel_rfl) (by kernel_rfl) (fun _ _ _ h => h) (Or.inl ⟨by rfl, by (intro wz hSw; (try dsimp only at hSw); go_simp)⟩) (by assumption) ?_
      try simp only [Act.put, List.setIfInBounds_toArray, List.set_cons_zero, List.set_cons_succ]
      refine wpAnyH_take (i := 11) (oi := { dst := some 20, op := Op.move (Operand.tmp 19), type := 4, pos := "ref.go:52", after := #[{ on := 10, ground := Ground.data }, { on := 7, ground := Ground.chain }, { on := 7, ground := Ground.guard }], guard := some (7, false) }) (v := .bool false) rfl (by kernel_rfl) (by kernel_rfl) (by kernel_rfl) (fun _ _ _ h => h) (Or.inl ⟨by rfl, by (intro wz hSw; (try dsimp only at hSw); go_simp)⟩) (by assumption) ?_
      try simp only [Act.put, List.setIfInBounds_toArray, List.set_cons_zero, List.set_cons_succ]
      refine wpAnyH_take (i := 12) (oi := { dst := some 21, op := Op.fieldAddr 44 (Operand.tmp 3) 2, type := 0, pos := "ref.go:52", after := #[{ on := 11, ground := Ground.guard }], guard := some (11, true) }) (v := undef) rfl (by kernel_rfl) (by kernel_rfl) (by kernel_rfl) (fun _ _ _ h => h) (Or.inr ⟨by rfl, rfl⟩) (by assumption) ?_
      try simp only [Act.put, List.setIfInBounds_toArray, List.set_cons_zero, List.set_cons_succ]
      refine wpAnyH_take (i := 13) (oi := { dst := some 22, op := Op.load 9 (Operand.tmp 21), type := 9, pos := "ref.go:52", after := #[{ on := 12, ground := Ground.data }, { on := 11, ground := Ground.guard }], guard := some (11, true) }) (v := undef) rfl (by kernel_rfl) (by kernel_rfl) (by kernel_rfl) (fun _ _ _ h => h) (Or.inr ⟨by rfl, rfl⟩) (by assumption) ?_
      try simp only [Act.put, List.setIfInBounds_toArray, List.set_cons_zero, List.set_cons_succ]
      refine wpAnyH_take (i := 14) (oi := { dst := some 23, op := Op.binOp BinOp.neq 9 (Operand.tmp 22) (Operand.const (Value.string { data := #[] })) 9, type := 4, pos := "ref.go:52", after := #[{ on := 13, ground := Ground.data }, { on := 11, ground := Ground.guard }], guard := some (11, true) }) (v := undef) rfl (by kernel_rfl) (by kernel_rfl) (by kernel_rfl) (fun _ _ _ h => h) (Or.inr ⟨by rfl, rfl⟩) (by assumption) ?_
      try simp only [Act.put, List.setIfInBounds_toArray, List.set_cons_zero, List.set_cons_succ]
      refine wpAnyH_take (i := 15) (oi := { dst := some 24, op := Op.pick (Operand.tmp 20) (Operand.tmp 23) (Operand.const (Value.bool false)), type := 4, pos := "ref.go:52", after := #[{ on := 11, ground := Ground.data }, { on := 14, ground := Ground.data }, { on := 7, ground := Ground.guard }], guard := some (7, false) }) (v := .bool false) rfl (by kernel_rfl) (by kernel_rfl) (by kernel_rfl) (fun _ _ _ h => h) (Or.inl ⟨by rfl, by (intro wz hSw; (try dsimp only at hSw); go_simp)⟩) (by assumption) ?_
      try simp only [Act.put, List.setIfInBounds_toArray, List.set_cons_zero, List.set_cons_succ]
      refine wpAnyH_take (i := 16) (oi := { dst := some 25, op := Op.pick (Operand.tmp 16) (Operand.const (Value.bool true)) (Operand.tmp 24), type := 4, pos := "ref.go:52", after := #[{ on := 7, ground := Ground.data }, { on := 15, ground := Ground.data }], guard := none }) (v := .bool false) rfl (by kernel_rfl) (by kernel_rfl) (by kernel_rfl) (fun _ _ _ h => h) (Or.inl ⟨by rfl, by (intro wz hSw; (try dsimp only at hSw); go_simp)⟩) (by assumption) ?_
      try simp only [Act.put, List.setIfInBounds_toArray, List.set_cons_zero, List.set_cons_succ]
      refine wpAnyH_take (i := 17) (oi := { dst := some 26, op := Op.move (Operand.tmp 25), type := 4, pos := "ref.go:52", after := #[{ on := 16, ground := Ground.data }, { on := 11, ground := Ground.chain }], guard := none }) (v := .bool false) rfl (by kernel_rfl) (by kernel_rfl) (by kernel_rfl) (fun _ _ _ h => h) (Or.inl ⟨by rfl, by (intro wz hSw; (try dsimp only at hSw); go_simp)⟩) (by assumption) ?_
      try simp only [Act.put, List.setIfInBounds_toArray, List.set_cons_zero, List.set_cons_succ]
      refine wpAnyH_take (i := 18) (oi := { dst := some 27, op := Op.fieldAddr 44 (Operand.tmp 3) 0, type := 0, pos := "ref.go:52", after := #[{ on := 17, ground := Ground.guard }], guard := some (17, false) }) (v := .pointer (some ⟨w.heap.size, 0, none⟩)) rfl (by kernel_rfl) (by kernel_rfl) (by kernel_rfl) (fun _ _ _ h => h) (Or.inl ⟨by rfl, by (intro wz hSw; (try dsimp only at hSw); go_simp)⟩) (by assumption) ?_
      try simp only [Act.put, List.setIfInBounds_toArray, List.set_cons_zero, List.set_cons_succ]
      refine wpAnyH_take (i := 19) (oi := { dst := some 28, op := Op.load 3 (Operand.tmp 27), type := 3, pos := "ref.go:52", after := #[{ on := 18, ground := Ground.data }, { on := 17, ground := Ground.guard }], guard := some (17, false) }) (v := .int .i64 op) rfl (by kernel_rfl) (by kernel_rfl) (by kernel_rfl) (fun _ _ _ h => h) (Or.inl ⟨by rfl, by (intro wz hSw; (try dsimp only at hSw); go_simp)⟩) (by assumption) ?_
      try simp only [Act.put, List.setIfInBounds_toArray, List.set_cons_zero, List.set_cons_succ]
      refine wpAnyH_take (i := 20) (oi := { dst := some 29, op := Op.binOp BinOp.neq 3 (Operand.tmp 28) (Operand.const (Value.int IntKind.i64 1)) 3, type := 4, pos := "ref.go:52", after := #[{ on := 19, ground := Ground.data }, { on := 17, ground := Ground.guard }], guard := some (17, false) }) (v := .bool true) rfl (by kernel_rfl) (by kernel_rfl) (by kernel_rfl) (fun _ _ _ h => h) (Or.inl ⟨by rfl, by (intro wz hSw; (try dsimp only at hSw); go_simp)⟩) (by assumption) ?_
      try simp only [Act.put, List.setIfInBounds_toArray, List.set_cons_zero, List.set_cons_succ]
      refine wpAnyH_take (i := 21) (oi := { dst := some 30, op := Op.move (Operand.tmp 29), type := 4, pos := "ref.go:52", after := #[{ on := 20, ground := Ground.data }, { on := 17, ground := Ground.chain }, { on := 17, ground := Ground.guard }], guard := some (17, false) }) (v := .bool true) rfl (by kernel_rfl) (by kernel_rfl) (by kernel_rfl) (fun _ _ _ h => h) (Or.inl ⟨by rfl, by (intro wz hSw; (try dsimp only at hSw); go_simp)⟩) (by assumption) ?_
      try simp only [Act.put, List.setIfInBounds_toArray, List.set_cons_zero, List.set_cons_succ]
      refine wpAnyH_take (i := 22) (oi := { dst := some 31, op := Op.fieldAddr 44 (Operand.tmp 3) 3, type := 0, pos := "ref.go:52", after := #[{ on := 21, ground := Ground.guard }], guard := some (21, true) }) (v := .pointer (some ⟨w.heap.size, 3, none⟩)) rfl (by kernel_rfl) (by kernel_rfl) (by kernel_rfl) (fun _ _ _ h => h) (Or.inl ⟨by rfl, by (intro wz hSw; (try dsimp only at hSw); go_simp)⟩) (by assumption) ?_
      try simp only [Act.put, List.setIfInBounds_toArray, List.set_cons_zero, List.set_cons_succ]
      refine wpAnyH_take (i := 23) (oi := { dst := some 32, op := Op.load 39 (Operand.tmp 31), type := 39, pos := "ref.go:52", after := #[{ on := 22, ground := Ground.data }, { on := 21, ground := Ground.guard }], guard := some (21, true) }) (v := .agg #[.int .i64 val.kind, .int .i64 val.int, .bool val.bool, .string ⟨val.text.toArray⟩, .float .f64 val.num]) rfl (by kernel_rfl) (by kernel_rfl) (by kernel_rfl) (fun _ _ _ h => h) (Or.inl ⟨by rfl, by (intro wz hSw; (try dsimp only at hSw); go_simp)⟩) (by assumption) ?_
      try simp only [Act.put, List.setIfInBounds_toArray, List.set_cons_zero, List.set_cons_succ]
      refine wpAnyH_take (i := 24) (oi := { dst := some 33, op := Op.build 39 #[], type := 39, pos := "ref.go:52", after := #[{ on := 21, ground := Ground.guard }], guard := some (21, true) }) (v := .agg #[.int .i64 0, .int .i64 0, .bool false, .string ⟨#[]⟩, .float .f64 0]) rfl (by kernel_rfl) (by kernel_rfl) (by kernel_rfl) (fun _ _ _ h => h) (Or.inl ⟨by rfl, by (intro wz hSw; (try dsimp only at hSw); go_simp)⟩) (by assumption) ?_
      try simp only [Act.put, List.setIfInBounds_toArray, List.set_cons_zero, List.set_cons_succ]
      refine wpAnyH_ready (rs := [25]) (by kernel_rfl) (by simp) ?_
      refine AllReadyH.cons (o := { dst := some 34, op := Op.call { callee := Callee.value (Operand.func 185), args := #[Operand.tmp 32, Operand.tmp 33], argTypes := #[39, 39] }, type := 4, pos := "ref.go:52", after := #[{ on := 23, ground := Ground.data }, { on := 24, ground := Ground.data }, { on := 21, ground := Ground.chain }, { on := 21, ground := Ground.guard }], guard := some (21, true) }) rfl (fun K hK => ?_) AllReadyH.nil
      go_simp
      refine (sameZ_c val).mono ?_
      rintro x9 wz ⟨rfl, hb⟩
      refine hK.out _ _ (KK.out _ bW).1 (fun hHeld => ?_)
      clear hK K
      try simp only [Act.put, List.setIfInBounds_toArray, List.set_cons_zero, List.set_cons_succ]
      refine wpAnyH_take (i := 26) (oi := { dst := some 35, op := Op.unOp UnOp.not 4 (Operand.tmp 34), type := 4, pos := "ref.go:52", after := #[{ on := 25, ground := Ground.data }, { on := 21, ground := Ground.guard }], guard := some (21, true) }) (v := .bool true) rfl (by kernel_rfl) (by kernel_rfl) (by kernel_rfl) (fun _ _ _ h => h) (Or.inl ⟨by rfl, by (intro wz hSw; (try dsimp only at hSw); go_simp)⟩) (by assumption) ?_
      try simp only [Act.put, List.setIfInBounds_toArray, List.set_cons_zero, List.set_cons_succ]
      refine wpAnyH_take (i := 27) (oi := { dst := some 36, op := Op.pick (Operand.tmp 30) (Operand.tmp 35) (Operand.const (Value.bool false)), type := 4, pos := "ref.go:52", after := #[{ on := 21, ground := Ground.data }, { on := 26, ground := Ground.data }, { on := 17, ground := Ground.guard }], guard := some (17, false) }) (v := .bool true) rfl (by kernel_rfl) (by kernel_rfl) (by kernel_rfl) (fun _ _ _ h => h) (Or.inl ⟨by rfl, by (intro wz hSw; (try dsimp only at hSw); go_simp)⟩) (by assumption) ?_
      try simp only [Act.put, List.setIfInBounds_toArray, List.set_cons_zero, List.set_cons_succ]
      refine wpAnyH_take (i := 28) (oi := { dst := some 37, op := Op.pick (Operand.tmp 26) (Operand.const (Value.bool true)) (Operand.tmp 36), type := 4, pos := "ref.go:52", after := #[{ on := 17, ground := Ground.data }, { on := 27, ground := Ground.data }], guard := none }) (v := .bool true) rfl (by kernel_rfl) (by kernel_rfl) (by kernel_rfl) (fun _ _ _ h => h) (Or.inl ⟨by rfl, by (intro wz hSw; (try dsimp only at hSw); go_simp)⟩) (by assumption) ?_
      try simp only [Act.put, List.setIfInBounds_toArray, List.set_cons_zero, List.set_cons_succ]
      refine wpAnyH_done (by kernel_rfl) ?_ _
      go_wp2_with fail
      go_ret2
      obtain ⟨rfl, rfl⟩ := Prod.mk.inj E1.out
      exact ⟨rfl, bW⟩
    · have hb2 : (op != 2) = true := by simpa using h2
      have hnm : name.isEmpty = true := by rcases hB with h | h; exact absurd h h2; rw [h]; rfl
      clear h2 hB
      have E1 := Lib.hid (show (r1, r2) = ((0, 1) : Int × Int) from by rw [← HR.out, E.out, kind3_C (e := .mk op kids name val) HC.out]; rfl)
      go_enter Tryz.func171, Tryz.ntmps171
      go_wp2_with fail
      go_region_held3 (fun W => (W.cell? ⟨w.heap.size, 0, none⟩ = some (.int .i64 op) ∧ W.cell? ⟨w.heap.size, 1, none⟩ = some (.slice B kids.length d) ∧ W.cell? ⟨w.heap.size, 2, none⟩ = some (.string ⟨name.toArray⟩) ∧ W.cell? ⟨w.heap.size, 3, none⟩ = some (.int .i64 val.kind) ∧ W.cell? ⟨w.heap.size, 4, none⟩ = some (.int .i64 val.int) ∧ W.cell? ⟨w.heap.size, 5, none⟩ = some (.bool val.bool) ∧ W.cell? ⟨w.heap.size, 6, none⟩ = some (.string ⟨val.text.toArray⟩) ∧ W.cell? ⟨w.heap.size, 7, none⟩ = some (.float .f64 val.num))) (exact (KK.out _ bW).1)
        (first
        | (go_at_call 184; refine (rkids_c _).mono ?_; rintro x9 wz ⟨rfl, rfl⟩)
        | (go_at_call 185; refine (sameZ_c val).mono ?_; rintro x9 wz ⟨rfl, hb⟩))
      go_wp2_with fail
      go_ret2
      obtain ⟨rfl, rfl⟩ := Prod.mk.inj E1.out
      exact ⟨rfl, bW⟩
  exact absurd ⟨HA.out, HB.out, hC⟩ HG.out
end
end Go.Proofs.YtjnhgfmjehaalaaGreat

/- Chapter 6: the reference's Check of expressions: each operation. -/
namespace Go.Proofs.YtjnhgfmjehaalaaGreat
open Go.RowKit
set_option linter.unusedVariables false
set_option linter.unusedSimpArgs false
theorem len1 {α : Type} {l : List α} (h : l.length = 1) : ∃ a, l = [a] := by match l, h with | [a], _ => exact ⟨a, rfl⟩
theorem len2 {α : Type} {l : List α} (h : l.length = 2) : ∃ a b, l = [a, b] := by match l, h with | [a, b], _ => exact ⟨a, b, rfl⟩
theorem len3 {α : Type} {l : List α} (h : l.length = 3) : ∃ a b c, l = [a, b, c] := by match l, h with | [a, b, c], _ => exact ⟨a, b, c, rfl⟩
theorem addz0 (ad : Addr) : ad.add 0 = ad := by unfold Addr.add; simp
theorem addn0 (ad : Addr) (k : Nat) (h : 0 < k) : ad.add k = ⟨ad.block, ad.off + k, none⟩ := by unfold Addr.add; rw [if_neg (by omega)]
theorem icell {ok : Nat → Prop} {W : World} {ad : Addr} {n c : Nat} {ks : List Int} (h : Sl kI ok W (.slice (some ad) n c) ks) {i : Nat} {x : Int} (hx : ks[i]? = some x) : W.cell? (ad.add i) = some (.int .i64 x) := by
  obtain ⟨ad', cs, e, _, hr, hc⟩ := h.at_ hx
  injection e with e
  subst e
  have hr' : cs = [.int .i64 x] := hr
  have := hc 0 (.int .i64 x) (by rw [hr']; rfl)
  simpa [kI, kInt, scalar] using this
theorem iaddr {ok : Nat → Prop} {W : World} {A : Option Addr} {n c : Nat} {ks : List Int} (h : Sl kI ok W (.slice A n c) ks) (hn : 0 < n) : ∃ ad, A = some ad := by
  have hl := h.len.1
  obtain ⟨ad, cs, e, _⟩ := h.at_ (List.getElem?_eq_getElem (show 0 < ks.length by omega))
  exact ⟨ad, e⟩
section
variable {w : World}
end
end Go.Proofs.YtjnhgfmjehaalaaGreat
