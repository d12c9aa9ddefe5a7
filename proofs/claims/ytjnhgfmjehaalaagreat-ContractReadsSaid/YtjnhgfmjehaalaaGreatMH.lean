/- Texts that go together. -/
import Derived.Test.YtjnhgfmjehaalaaGreatMG
import Derived.Test.YtjnhgfmjehaalaaGreatRL
import Derived.Test.YtjnhgfmjehaalaaGreatMC
/- Chapter 6: the reference's Check of expressions: a part's kind. -/
namespace Go.Proofs.YtjnhgfmjehaalaaGreat
open Go.RowKit
set_option linter.unusedVariables false
set_option linter.unusedSimpArgs false
/-- what is told: a kind, or an error -/
def pairK : Except Int Int → Int × Int
 | .ok k => (k, 0)
 | .error x => (0, x)
/-- a kind, of a part with as many parts of its own as it must have -/
def tailK (fl : List Fld) (op : Int) (name : List UInt8) (val : Val) (a0 a1 a2 : Int) : Except Int Int :=
 if op = 1 then if goodV val = true then .ok val.kind else .error 40
 else if op = 2 then match fl[(findF name fl).toNat]? with | some f => if 0 ≤ findF name fl then .ok f.kind else .error 50 | none => .error 50
 else if op = 8 then if a0 = a1 then .ok 2 else .error 40
 else if op = 9 then if a0 = a1 ∧ (isN (a0) = true ∨ a0 = 3) then .ok 2 else .error 40
 else if op = 12 then if a0 = 2 then .ok (a0) else .error 40
 else if op = 10 ∨ op = 11 then if a0 = 2 ∧ a1 = 2 then .ok (a0) else .error 40
 else if op = 13 then if a0 = 2 ∧ a1 = a2 then .ok (a1) else .error 40
 else if op = 16 then if a0 = 1 then .ok 4 else .error 40
 else if op = 3 then if isN (a0) = true then .ok (a0) else .error 40
 else if a0 = a1 ∧ isN (a0) = true then .ok (a0) else .error 40
abbrev zV : Val := ⟨0, 0, false, [], 0⟩
theorem kind3_A {fl : List Fld} {e : Exp} {a b c : Int} (h : ¬ ariF e.op = e.kids.length) : kind3 fl e a b c = .error 1 := by unfold kind3; rw [if_pos h]
theorem kind3_B {fl : List Fld} {e : Exp} {a b c : Int} (h : ¬ (e.op = 2 ∨ e.name = [])) : kind3 fl e a b c = .error 1 := by
 unfold kind3
 by_cases hA : ¬ ariF e.op = e.kids.length
 ·rw [if_pos hA]
 ·rw [if_neg hA, if_pos h]
theorem kind3_C {fl : List Fld} {e : Exp} {a b c : Int} (h : ¬ (e.op = 1 ∨ sameV e.val zV = true)) : kind3 fl e a b c = .error 1 := by
 unfold kind3
 by_cases hA : ¬ ariF e.op = e.kids.length
 ·rw [if_pos hA]
 ·rw [if_neg hA]
  by_cases hB : ¬ (e.op = 2 ∨ e.name = [])
  ·rw [if_pos hB]
  ·rw [if_neg hB, if_pos h]
theorem kind3_D {fl : List Fld} {e : Exp} {a b c : Int} (hA : ariF e.op = e.kids.length) (hB : e.op = 2 ∨ e.name = []) (hC : e.op = 1 ∨ sameV e.val zV = true) : kind3 fl e a b c = tailK fl e.op e.name e.val a b c := by
 unfold kind3
 rw [if_neg (fun h => h hA), if_neg (fun h => h hB), if_neg (fun h => h hC)]
 rfl
theorem ari_16 {op : Int} {n : Nat} (h : ariF op = (n : Int)) : op = 1 ∨ op = 2 ∨ op = 3 ∨ op = 4 ∨ op = 5 ∨ op = 6 ∨ op = 7 ∨ op = 8 ∨ op = 9 ∨ op = 10 ∨ op = 11 ∨ op = 12 ∨ op = 13 ∨ op = 14 ∨ op = 15 ∨ op = 16 := by
 unfold ariF at h
 split at h
 ·omega
 ·split at h
  ·omega
  ·split at h
   ·omega
   ·split at h
    ·omega
    ·omega
section
variable {w : World}
theorem rkids_c (op : Int) : Calls Tryz.prog 184 #[.int .i64 op] w fun e w' => e = .returned (.int .i64 (ariF op)) ∧ w = w' := by
 have E := Lib.hid (show ariF op = if op = 1 ∨ op = 2 then 0 else if op = 3 ∨ op = 12 ∨ op = 16 then 1 else if op = 13 then 3 else if 4 ≤ op ∧ op ≤ 16 then 2 else -1 from rfl)
 generalize ariF op = r at *
 go_enter Tryz.func184, Tryz.ntmps184
 go_wp2_with fail
 all_goals (go_ret; rw [E.out]; refine ⟨?_, rfl⟩; simp_all; try omega)
theorem sameZ_c (v : Val) : Calls Tryz.prog 185 #[.agg #[.int .i64 v.kind, .int .i64 v.int, .bool v.bool, .string ⟨v.text.toArray⟩, .float .f64 v.num], .agg #[.int .i64 0, .int .i64 0, .bool false, .string ⟨#[]⟩, .float .f64 0]] w (Ret w (.bool (sameV v zV))) := same4_c v zV
theorem rfield05_c {ok : Nat → Prop} {A : Option Addr} {n c : Nat} {l : List Fld} (name : List UInt8) (h : Sl kFld ok w (.slice A n c) l) :
 Calls Tryz.prog 186 #[.string ⟨name.toArray⟩, .slice A n c] w (Ret w (.int .i64 (findF name l))) := by
 have H := Lib.hid h
 have hmax := h.len.2.2.1
 have hnc := h.len.2.1
 clear h
 rw [show findF name l = idx (isF name) l from rfl]
 go_enter Tryz.func186, Tryz.ntmps186
 go_wp2_with fail
 go_loopw [5] (fun v wr => ∃ k : Nat, k ≤ n ∧ v = .int .i64 k ∧ (∀ j x, j < k → l[j]? = some x → (fun (_ : Nat) x => isF name x) j x = false) ∧ Below w.heap.size w wr) (fun v _ => n - (intOf v).toNat)
 case atStart => exact ⟨0, Nat.zero_le _, rfl, allI_nil, Below.refl _ _⟩
 case round =>
  obtain ⟨k, hk, rfl, hp, hb⟩ := hrel
  have HP := Lib.hid hp
  clear hp
  by_cases hlt : k < n
  ·obtain ⟨ad, e, B', d', rfl, he, -, c0, -⟩ := fld_at (H.out.below hb) hlt
   have HE := Lib.hid he
   clear he
   cases hm : (e.name == name)
   ·have HM := Lib.hid (show isF name e = false from hm)
    go_wp2_with fail
    go_roundw
    case rel => exact ⟨k + 1, by omega, by go_num, allI_step (q := fun _ x => isF name x) HP.out HE.out HM.out, hb⟩
    case measure => simp [intOf]; omega
   ·have E1 := Lib.hid (idx_at (p := isF name) HP.out HE.out hm)
    go_wp2_with fail
    go_ret
    rw [E1.out]
    exact ⟨rfl, bW⟩
  ·have E1 := Lib.hid (idx_none (n := k) (p := isF name) (by have := H.out.len.1; omega) HP.out)
   go_wp2_with fail
   go_ret
   rw [E1.out]
   exact ⟨rfl, bW⟩
set_option maxRecDepth 100000 in
set_option maxHeartbeats 8000000 in
theorem rkind_no {A K : Option Addr} {N c kc : Nat} {fl : List Fld} {ks : List Int} {B : Option Addr} {d : Nat} (op : Int) (kids : List Exp) (name : List UInt8) (val : Val) (hg : ¬ (ariF op = (kids.length : Int) ∧ (op = 2 ∨ name = []) ∧ (op = 1 ∨ sameV val zV = true))) (hk : ks.length = kids.length)
 (hks : Sl kI (fun _ => True) w (.slice K ks.length kc) ks) (hf : Sl kFld (fun _ => True) w (.slice A N c) fl) :
 Calls Tryz.prog 171 #[.agg #[.int .i64 op, .slice B kids.length d, .string ⟨name.toArray⟩, .int .i64 val.kind, .int .i64 val.int, .bool val.bool, .string ⟨val.text.toArray⟩, .float .f64 val.num], .slice K ks.length kc, .slice A N c] w (Ret w (.tuple #[.int .i64 (pairK (kindOf fl (.mk op kids name val) ks)).1, .int .i64 (pairK (kindOf fl (.mk op kids name val) ks)).2])) := by
 have SF := store_f64
 have HG := Lib.hid hg
 clear hg
 have HF := hidS hf
 have HK := hidS hks
 have E := Lib.hid (show kindOf fl (.mk op kids name val) ks = kind3 fl (.mk op kids name val) (ks.getD 0 0) (ks.getD 1 0) (ks.getD 2 0) from rfl)
 have hL := Loc1.new w 44 #[.int .i64 op, .slice B kids.length d, .string ⟨name.toArray⟩, .int .i64 val.kind, .int .i64 val.int, .bool val.bool, .string ⟨val.text.toArray⟩, .float .f64 val.num]
 have B0 : Below w.heap.size w (w.alloc (.cells #[.int .i64 op, .slice B kids.length d, .string ⟨name.toArray⟩, .int .i64 val.kind, .int .i64 val.int, .bool val.bool, .string ⟨val.text.toArray⟩, .float .f64 val.num] 44)) := bW
 have KK := kk8 hL
 have hm1 := hks.len.2.2.1
 have hm2 := hks.len.2.1
 have hm3 := hf.len.2.2.1
 have hm4 := hf.len.2.1
 generalize hr : pairK (kindOf fl (.mk op kids name val) ks) = r at *
 obtain ⟨r1, r2⟩ := r
 have HR := Lib.hid hr
 clear hr hf hks hL
 by_cases hA : ariF op = kids.length
 rotate_left
 ·have hb1 : (ariF op != (kids.length : Int)) = true := by simpa using hA
  have E1 := Lib.hid (show (r1, r2) = ((0, 1) : Int × Int) from by rw [← HR.out, E.out, kind3_A (e := .mk op kids name val) hA]; rfl)
  go_enter Tryz.func171, Tryz.ntmps171
  go_wp2_with fail
  go_quiet ((go_at_call 184; exact quiet_left (rkids_c _)))
  go_wp2_with fail
  go_ret2
  obtain ⟨rfl, rfl⟩ := Prod.mk.inj E1.out
  exact ⟨rfl, bW⟩
 have hb1 : (ariF op != (kids.length : Int)) = false := by simpa using hA
 have HA := Lib.hid hA
 by_cases hB : op = 2 ∨ name = []
 rotate_left
 ·have hb2 : (op != 2) = true := by simp only [bne_iff_ne]; exact fun h => hB (.inl h)
  have hnm : name.isEmpty = false := by cases name with
   | nil => exact absurd (.inr rfl) hB
   | cons => rfl
  have HB := Lib.hid hB
  clear hA hB
  have E1 := Lib.hid (show (r1, r2) = ((0, 1) : Int × Int) from by rw [← HR.out, E.out, kind3_B (e := .mk op kids name val) HB.out]; rfl)
  go_enter Tryz.func171, Tryz.ntmps171
  go_wp2_with fail
  go_quiet ((go_at_call 184; exact quiet_left (rkids_c _)))
  go_wp2_with fail
  go_ret2
  obtain ⟨rfl, rfl⟩ := Prod.mk.inj E1.out
  exact ⟨rfl, bW⟩
 have HB := Lib.hid hB
 by_cases hC : op = 1 ∨ sameV val zV = true
 rotate_left
 ·have HC := Lib.hid hC
  have hb3 : (op != 1) = true := by simp only [bne_iff_ne]; exact fun h => hC (.inl h)
  have hsv : sameV val zV = false := by simpa using fun h => hC (.inr h)
  clear hA hC
  by_cases h2 : op = 2
  ·have hb2 : (op != 2) = false := by simpa using h2
   clear hB h2
   have E1 := Lib.hid (show (r1, r2) = ((0, 1) : Int × Int) from by rw [← HR.out, E.out, kind3_C (e := .mk op kids name val) HC.out]; rfl)
   go_enter Tryz.func171, Tryz.ntmps171
   go_wp2_with fail
   refine wp_region_held_drew (S := fun W => (W.cell? ⟨w.heap.size, 0, none⟩ = some (.int .i64 op) ∧ W.cell? ⟨w.heap.size, 1, none⟩ = some (.slice B kids.length d) ∧ W.cell? ⟨w.heap.size, 2, none⟩ = some (.string ⟨name.toArray⟩) ∧ W.cell? ⟨w.heap.size, 3, none⟩ = some (.int .i64 val.kind) ∧ W.cell? ⟨w.heap.size, 4, none⟩ = some (.int .i64 val.int) ∧ W.cell? ⟨w.heap.size, 5, none⟩ = some (.bool val.bool) ∧ W.cell? ⟨w.heap.size, 6, none⟩ = some (.string ⟨val.text.toArray⟩) ∧ W.cell? ⟨w.heap.size, 7, none⟩ = some (.float .f64 val.num))) (by kernel_rfl) (KK.out _ bW).1 (fun hHeld => ?_)
   refine takeL 0 9 (.pointer (some ⟨w.heap.size, 0, none⟩)) rfl rfl (by kernel_rfl) (fun _ _ _ h => h) (Or.inl ⟨by rfl, by (intro wz hSw; (try dsimp only at hSw); go_simp)⟩) (by assumption) ?_
   try simp only [Act.put, nrmA, nrmZ, nrmS]
   refine takeL 1 10 (.int .i64 op) rfl rfl (by kernel_rfl) (fun _ _ _ h => h) (Or.inl ⟨by rfl, by (intro wz hSw; (try dsimp only at hSw); go_simp)⟩) (by assumption) ?_
   try simp only [Act.put, nrmA, nrmZ, nrmS]
   refine takeL 3 12 (.pointer (some ⟨w.heap.size, 1, none⟩)) rfl rfl (by kernel_rfl) (fun _ _ _ h => h) (Or.inl ⟨by rfl, by (intro wz hSw; (try dsimp only at hSw); go_simp)⟩) (by assumption) ?_
   try simp only [Act.put, nrmA, nrmZ, nrmS]
   refine takeL 4 13 (.slice B kids.length d) rfl rfl (by kernel_rfl) (fun _ _ _ h => h) (Or.inl ⟨by rfl, by (intro wz hSw; (try dsimp only at hSw); go_simp)⟩) (by assumption) ?_
   try simp only [Act.put, nrmA, nrmZ, nrmS]
   refine takeL 5 14 (.int .i64 kids.length) rfl rfl (by kernel_rfl) (fun _ _ _ h => h) (Or.inl ⟨by rfl, by (intro wz hSw; (try dsimp only at hSw); go_simp)⟩) (by assumption) ?_
   try simp only [Act.put, nrmA, nrmZ, nrmS]
   refine rdL 2 rfl (by kernel_rfl) fun K hK => ?_
   go_simp
   refine (rkids_c _).mono ?_
   rintro x9 wz ⟨rfl, rfl⟩
   refine hK.out _ _ (KK.out _ bW).1 (fun hHeld => ?_)
   clear hK K
   try simp only [Act.put, nrmA, nrmZ, nrmS]
   refine takeL 6 15 (.bool false) rfl rfl (by kernel_rfl) (fun _ _ _ h => h) (Or.inl ⟨by rfl, by (intro wz hSw; (try dsimp only at hSw); go_simp)⟩) (by assumption) ?_
   try simp only [Act.put, nrmA, nrmZ, nrmS]
   refine takeL 7 16 (.bool false) rfl rfl (by kernel_rfl) (fun _ _ _ h => h) (Or.inl ⟨by rfl, by (intro wz hSw; (try dsimp only at hSw); go_simp)⟩) (by assumption) ?_
   try simp only [Act.put, nrmA, nrmZ, nrmS]
   refine takeL 8 17 (.pointer (some ⟨w.heap.size, 0, none⟩)) rfl rfl (by kernel_rfl) (fun _ _ _ h => h) (Or.inl ⟨by rfl, by (intro wz hSw; (try dsimp only at hSw); go_simp)⟩) (by assumption) ?_
   try simp only [Act.put, nrmA, nrmZ, nrmS]
   refine takeL 9 18 (.int .i64 op) rfl rfl (by kernel_rfl) (fun _ _ _ h => h) (Or.inl ⟨by rfl, by (intro wz hSw; (try dsimp only at hSw); go_simp)⟩) (by assumption) ?_
   try simp only [Act.put, nrmA, nrmZ, nrmS]
   refine takeL 10 19 (.bool false) rfl rfl (by kernel_rfl) (fun _ _ _ h => h) (Or.inl ⟨by rfl, by (intro wz hSw; (try dsimp only at hSw); go_simp)⟩) (by assumption) ?_
   try simp only [Act.put, nrmA, nrmZ, nrmS]
   refine takeL 11 20 (.bool false) rfl rfl (by kernel_rfl) (fun _ _ _ h => h) (Or.inl ⟨by rfl, by (intro wz hSw; (try dsimp only at hSw); go_simp)⟩) (by assumption) ?_
   try simp only [Act.put, nrmA, nrmZ, nrmS]
   refine skipL 12 rfl (by kernel_rfl) (fun _ _ _ h => h) (Or.inr ⟨by rfl, rfl⟩) (by assumption) ?_
   try simp only [Act.put, nrmA, nrmZ, nrmS]
   refine skipL 13 rfl (by kernel_rfl) (fun _ _ _ h => h) (Or.inr ⟨by rfl, rfl⟩) (by assumption) ?_
   try simp only [Act.put, nrmA, nrmZ, nrmS]
   refine skipL 14 rfl (by kernel_rfl) (fun _ _ _ h => h) (Or.inr ⟨by rfl, rfl⟩) (by assumption) ?_
   try simp only [Act.put, nrmA, nrmZ, nrmS]
   refine takeL 15 24 (.bool false) rfl rfl (by kernel_rfl) (fun _ _ _ h => h) (Or.inl ⟨by rfl, by (intro wz hSw; (try dsimp only at hSw); go_simp)⟩) (by assumption) ?_
   try simp only [Act.put, nrmA, nrmZ, nrmS]
   refine takeL 16 25 (.bool false) rfl rfl (by kernel_rfl) (fun _ _ _ h => h) (Or.inl ⟨by rfl, by (intro wz hSw; (try dsimp only at hSw); go_simp)⟩) (by assumption) ?_
   try simp only [Act.put, nrmA, nrmZ, nrmS]
   refine takeL 17 26 (.bool false) rfl rfl (by kernel_rfl) (fun _ _ _ h => h) (Or.inl ⟨by rfl, by (intro wz hSw; (try dsimp only at hSw); go_simp)⟩) (by assumption) ?_
   try simp only [Act.put, nrmA, nrmZ, nrmS]
   refine takeL 18 27 (.pointer (some ⟨w.heap.size, 0, none⟩)) rfl rfl (by kernel_rfl) (fun _ _ _ h => h) (Or.inl ⟨by rfl, by (intro wz hSw; (try dsimp only at hSw); go_simp)⟩) (by assumption) ?_
   try simp only [Act.put, nrmA, nrmZ, nrmS]
   refine takeL 19 28 (.int .i64 op) rfl rfl (by kernel_rfl) (fun _ _ _ h => h) (Or.inl ⟨by rfl, by (intro wz hSw; (try dsimp only at hSw); go_simp)⟩) (by assumption) ?_
   try simp only [Act.put, nrmA, nrmZ, nrmS]
   refine takeL 20 29 (.bool true) rfl rfl (by kernel_rfl) (fun _ _ _ h => h) (Or.inl ⟨by rfl, by (intro wz hSw; (try dsimp only at hSw); go_simp)⟩) (by assumption) ?_
   try simp only [Act.put, nrmA, nrmZ, nrmS]
   refine takeL 21 30 (.bool true) rfl rfl (by kernel_rfl) (fun _ _ _ h => h) (Or.inl ⟨by rfl, by (intro wz hSw; (try dsimp only at hSw); go_simp)⟩) (by assumption) ?_
   try simp only [Act.put, nrmA, nrmZ, nrmS]
   refine takeL 22 31 (.pointer (some ⟨w.heap.size, 3, none⟩)) rfl rfl (by kernel_rfl) (fun _ _ _ h => h) (Or.inl ⟨by rfl, by (intro wz hSw; (try dsimp only at hSw); go_simp)⟩) (by assumption) ?_
   try simp only [Act.put, nrmA, nrmZ, nrmS]
   refine takeL 23 32 (.agg #[.int .i64 val.kind, .int .i64 val.int, .bool val.bool, .string ⟨val.text.toArray⟩, .float .f64 val.num]) rfl rfl (by kernel_rfl) (fun _ _ _ h => h) (Or.inl ⟨by rfl, by (intro wz hSw; (try dsimp only at hSw); go_simp)⟩) (by assumption) ?_
   try simp only [Act.put, nrmA, nrmZ, nrmS]
   refine takeL 24 33 (.agg #[.int .i64 0, .int .i64 0, .bool false, .string ⟨#[]⟩, .float .f64 0]) rfl rfl (by kernel_rfl) (fun _ _ _ h => h) (Or.inl ⟨by rfl, by (intro wz hSw; (try dsimp only at hSw); go_simp)⟩) (by assumption) ?_
   try simp only [Act.put, nrmA, nrmZ, nrmS]
   refine rdL 25 rfl (by kernel_rfl) fun K hK => ?_
   go_simp
   refine (sameZ_c val).mono ?_
   rintro x9 wz ⟨rfl, hb⟩
   refine hK.out _ _ (KK.out _ bW).1 (fun hHeld => ?_)
   clear hK K
   try simp only [Act.put, nrmA, nrmZ, nrmS]
   refine takeL 26 35 (.bool true) rfl rfl (by kernel_rfl) (fun _ _ _ h => h) (Or.inl ⟨by rfl, by (intro wz hSw; (try dsimp only at hSw); go_simp)⟩) (by assumption) ?_
   try simp only [Act.put, nrmA, nrmZ, nrmS]
   refine takeL 27 36 (.bool true) rfl rfl (by kernel_rfl) (fun _ _ _ h => h) (Or.inl ⟨by rfl, by (intro wz hSw; (try dsimp only at hSw); go_simp)⟩) (by assumption) ?_
   try simp only [Act.put, nrmA, nrmZ, nrmS]
   refine takeL 28 37 (.bool true) rfl rfl (by kernel_rfl) (fun _ _ _ h => h) (Or.inl ⟨by rfl, by (intro wz hSw; (try dsimp only at hSw); go_simp)⟩) (by assumption) ?_
   try simp only [Act.put, nrmA, nrmZ, nrmS]
   refine wpAnyH_done (by kernel_rfl) ?_ _
   go_wp2_with fail
   go_ret2
   obtain ⟨rfl, rfl⟩ := Prod.mk.inj E1.out
   exact ⟨rfl, bW⟩
  ·have hb2 : (op != 2) = true := by simpa using h2
   have hnm : name.isEmpty = true := by rcases hB with h | h; exact absurd h h2; rw [h]; rfl
   clear h2 hB
   have E1 := Lib.hid (show (r1, r2) = ((0, 1) : Int × Int) from by rw [← HR.out, E.out, kind3_C (e := .mk op kids name val) HC.out]; rfl)
   go_enter Tryz.func171, Tryz.ntmps171
   go_wp2_with fail
   go_region_held3 (fun W => (W.cell? ⟨w.heap.size, 0, none⟩ = some (.int .i64 op) ∧ W.cell? ⟨w.heap.size, 1, none⟩ = some (.slice B kids.length d) ∧ W.cell? ⟨w.heap.size, 2, none⟩ = some (.string ⟨name.toArray⟩) ∧ W.cell? ⟨w.heap.size, 3, none⟩ = some (.int .i64 val.kind) ∧ W.cell? ⟨w.heap.size, 4, none⟩ = some (.int .i64 val.int) ∧ W.cell? ⟨w.heap.size, 5, none⟩ = some (.bool val.bool) ∧ W.cell? ⟨w.heap.size, 6, none⟩ = some (.string ⟨val.text.toArray⟩) ∧ W.cell? ⟨w.heap.size, 7, none⟩ = some (.float .f64 val.num))) (exact (KK.out _ bW).1)
    (first
    | (go_at_call 184; refine (rkids_c _).mono ?_; rintro x9 wz ⟨rfl, rfl⟩)
    | (go_at_call 185; refine (sameZ_c val).mono ?_; rintro x9 wz ⟨rfl, hb⟩))
   go_wp2_with fail
   go_ret2
   obtain ⟨rfl, rfl⟩ := Prod.mk.inj E1.out
   exact ⟨rfl, bW⟩
 exact absurd ⟨HA.out, HB.out, hC⟩ HG.out
end
end Go.Proofs.YtjnhgfmjehaalaaGreat
/- Chapter 6: the reference's Check of expressions: each operation. -/
namespace Go.Proofs.YtjnhgfmjehaalaaGreat
open Go.RowKit
set_option linter.unusedVariables false
set_option linter.unusedSimpArgs false
theorem len1 {α : Type} {l : List α} (h : l.length = 1) : ∃ a, l = [a] := by match l, h with | [a], _ => exact ⟨a, rfl⟩
theorem len2 {α : Type} {l : List α} (h : l.length = 2) : ∃ a b, l = [a, b] := by match l, h with | [a, b], _ => exact ⟨a, b, rfl⟩
theorem len3 {α : Type} {l : List α} (h : l.length = 3) : ∃ a b c, l = [a, b, c] := by match l, h with | [a, b, c], _ => exact ⟨a, b, c, rfl⟩
theorem addz0 (ad : Addr) : ad.add 0 = ad := by unfold Addr.add; simp
theorem addn0 (ad : Addr) (k : Nat) (h : 0 < k) : ad.add k = ⟨ad.block, ad.off + k, none⟩ := by unfold Addr.add; rw [if_neg (by omega)]
theorem icell {ok : Nat → Prop} {W : World} {ad : Addr} {n c : Nat} {ks : List Int} (h : Sl kI ok W (.slice (some ad) n c) ks) {i : Nat} {x : Int} (hx : ks[i]? = some x) : W.cell? (ad.add i) = some (.int .i64 x) := by
 obtain ⟨ad', cs, e, _, hr, hc⟩ := h.at_ hx
 injection e with e
 subst e
 have hr' : cs = [.int .i64 x] := hr
 have := hc 0 (.int .i64 x) (by rw [hr']; rfl)
 simpa [kI, kInt, scalar] using this
theorem iaddr {ok : Nat → Prop} {W : World} {A : Option Addr} {n c : Nat} {ks : List Int} (h : Sl kI ok W (.slice A n c) ks) (hn : 0 < n) : ∃ ad, A = some ad := by
 have hl := h.len.1
 obtain ⟨ad, cs, e, _⟩ := h.at_ (List.getElem?_eq_getElem (show 0 < ks.length by omega))
 exact ⟨ad, e⟩
section
variable {w : World}
end
end Go.Proofs.YtjnhgfmjehaalaaGreat
