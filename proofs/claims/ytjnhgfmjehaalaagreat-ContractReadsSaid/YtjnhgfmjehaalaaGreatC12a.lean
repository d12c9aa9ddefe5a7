/- Chapter 6: the reference's Check of expressions: each operation. -/
import Derived.Test.YtjnhgfmjehaalaaGreatMH
import Derived.Test.YtjnhgfmjehaalaaGreatRL
namespace Go.Proofs.YtjnhgfmjehaalaaGreat
open Go.RowKit
set_option linter.unusedVariables false
set_option linter.unusedSimpArgs false
section
variable {w : World}
set_option maxRecDepth 100000 in
set_option maxHeartbeats 4000000 in
theorem rkind1 {A K : Option Addr} {N c kc : Nat} {fl : List Fld} {ks : List Int} {B : Option Addr} {d : Nat} (op : Int) (kids : List Exp) (name : List UInt8) (val : Val) (hk : ks.length = kids.length) (ho : op = 1)
 (hA : ariF op = (kids.length : Int)) (hB : op = 2 ∨ name = []) (hC : op = 1 ∨ sameV val zV = true) (hks : Sl kI (fun _ => True) w (.slice K ks.length kc) ks) (hf : Sl kFld (fun _ => True) w (.slice A N c) fl) :
 Calls Tryz.prog 171 #[.agg #[.int .i64 op, .slice B kids.length d, .string ⟨name.toArray⟩, .int .i64 val.kind, .int .i64 val.int, .bool val.bool, .string ⟨val.text.toArray⟩, .float .f64 val.num], .slice K ks.length kc, .slice A N c] w (Ret w (.tuple #[.int .i64 (pairK (kindOf fl (.mk op kids name val) ks)).1, .int .i64 (pairK (kindOf fl (.mk op kids name val) ks)).2])) := by
 have SF := store_f64
 have HF := hidS hf
 have E := Lib.hid (show kindOf fl (.mk op kids name val) ks = tailK fl op name val (ks.getD 0 0) (ks.getD 1 0) (ks.getD 2 0) from kind3_D (e := .mk op kids name val) hA hB hC)
 have hlen0 : (ks.length : Int) = ariF op := by rw [hA, hk]
 rw [ho, show ariF 1 = 0 from by decide] at hlen0
 have hlen : ks.length = 0 := by omega
 clear hlen0
 obtain rfl : ks = [] := List.eq_nil_of_length_eq_zero hlen
 have hL := Loc1.new w 44 #[.int .i64 op, .slice B kids.length d, .string ⟨name.toArray⟩, .int .i64 val.kind, .int .i64 val.int, .bool val.bool, .string ⟨val.text.toArray⟩, .float .f64 val.num]
 have B0 : Below w.heap.size w (w.alloc (.cells #[.int .i64 op, .slice B kids.length d, .string ⟨name.toArray⟩, .int .i64 val.kind, .int .i64 val.int, .bool val.bool, .string ⟨val.text.toArray⟩, .float .f64 val.num] 44)) := bW
 have KK := kk8 hL
 have hm3 := hf.len.2.2.1
 have hm4 := hf.len.2.1
 generalize hr : kindOf fl (.mk op kids name val) [] = r at *
 have ET := Lib.hid (show r = (if goodV val = true then .ok val.kind else .error 40) by rw [E.out]; unfold tailK; rw [ho]; first | rfl | simp)
 have f1 : (op == 1) = true := by rw [ho]; rfl
 have f2 : (op == 2) = false := by rw [ho]; rfl
 have f3 : (op == 3) = false := by rw [ho]; rfl
 have f16 : (op == 16) = false := by rw [ho]; rfl
 have f12 : (op == 12) = false := by rw [ho]; rfl
 have f10 : (op == 10) = false := by rw [ho]; rfl
 have f11 : (op == 11) = false := by rw [ho]; rfl
 have f8 : (op == 8) = false := by rw [ho]; rfl
 have f9 : (op == 9) = false := by rw [ho]; rfl
 have f13 : (op == 13) = false := by rw [ho]; rfl
 have hb1 : (ariF op != (kids.length : Int)) = false := by simpa using hA
 have hb2 : (op != 2) = true := by rw [ho]; rfl
 have hb3 : (op != 1) = false := by rw [ho]; rfl
 have hnm : name.isEmpty = true := by rcases hB with h | h; (exact absurd (ho.symm.trans h) (by decide)); rw [h]; rfl
 clear hr E hf hks hL hA hB hC ho hlen
 go_enter Tryz.func171, Tryz.ntmps171
 go_wp2_with fail
 go_quiet ((go_at_call 184; exact quiet_left (rkids_c _)))
 obtain ⟨⟨c0, c1, c2, c3, c4, c5, c6, c7⟩, hz⟩ := KK.out (w.alloc (.cells #[.int .i64 op, .slice B kids.length d, .string ⟨name.toArray⟩, .int .i64 val.kind, .int .i64 val.int, .bool val.bool, .string ⟨val.text.toArray⟩, .float .f64 val.num] 44)) bW
 go_wp2_with (first | (go_at_call 66; refine (good4_c val).mono ?_; rintro x9 wz ⟨rfl, hb⟩; obtain ⟨⟨c0, c1, c2, c3, c4, c5, c6, c7⟩, hz⟩ := KK.out wz bW))
 all_goals
  go_ret2
  rw [ET.out]
  refine ⟨?_, bW⟩
 all_goals first
  | (simp [pairK, isN, *]; done)
  | (clear KK HF; simp_all [pairK, isN]; done)
  | (clear KK HF; simp_all [pairK, isN]; omega)
  | (clear KK HF; simp [pairK, isN, *]; (repeat' split) <;> simp_all)
set_option maxRecDepth 100000 in
set_option maxHeartbeats 4000000 in
theorem rkind2 {A K : Option Addr} {N c kc : Nat} {fl : List Fld} {ks : List Int} {B : Option Addr} {d : Nat} (op : Int) (kids : List Exp) (name : List UInt8) (val : Val) (hk : ks.length = kids.length) (ho : op = 2)
 (hA : ariF op = (kids.length : Int)) (hB : op = 2 ∨ name = []) (hC : op = 1 ∨ sameV val zV = true) (hks : Sl kI (fun _ => True) w (.slice K ks.length kc) ks) (hf : Sl kFld (fun _ => True) w (.slice A N c) fl) :
 Calls Tryz.prog 171 #[.agg #[.int .i64 op, .slice B kids.length d, .string ⟨name.toArray⟩, .int .i64 val.kind, .int .i64 val.int, .bool val.bool, .string ⟨val.text.toArray⟩, .float .f64 val.num], .slice K ks.length kc, .slice A N c] w (Ret w (.tuple #[.int .i64 (pairK (kindOf fl (.mk op kids name val) ks)).1, .int .i64 (pairK (kindOf fl (.mk op kids name val) ks)).2])) := by
 have SF := store_f64
 have HF := hidS hf
 have E := Lib.hid (show kindOf fl (.mk op kids name val) ks = tailK fl op name val (ks.getD 0 0) (ks.getD 1 0) (ks.getD 2 0) from kind3_D (e := .mk op kids name val) hA hB hC)
 have hlen0 : (ks.length : Int) = ariF op := by rw [hA, hk]
 rw [ho, show ariF 2 = 0 from by decide] at hlen0
 have hlen : ks.length = 0 := by omega
 clear hlen0
 obtain rfl : ks = [] := List.eq_nil_of_length_eq_zero hlen
 have hL := Loc1.new w 44 #[.int .i64 op, .slice B kids.length d, .string ⟨name.toArray⟩, .int .i64 val.kind, .int .i64 val.int, .bool val.bool, .string ⟨val.text.toArray⟩, .float .f64 val.num]
 have B0 : Below w.heap.size w (w.alloc (.cells #[.int .i64 op, .slice B kids.length d, .string ⟨name.toArray⟩, .int .i64 val.kind, .int .i64 val.int, .bool val.bool, .string ⟨val.text.toArray⟩, .float .f64 val.num] 44)) := bW
 have KK := kk8 hL
 have hm3 := hf.len.2.2.1
 have hm4 := hf.len.2.1
 generalize hr : kindOf fl (.mk op kids name val) [] = r at *
 have ET := Lib.hid (show r = (match fl[(findF name fl).toNat]? with | some f => if 0 ≤ findF name fl then .ok f.kind else .error 50 | none => .error 50) by rw [E.out]; unfold tailK; rw [ho]; first | rfl | simp)
 have f1 : (op == 1) = false := by rw [ho]; rfl
 have f2 : (op == 2) = true := by rw [ho]; rfl
 have f3 : (op == 3) = false := by rw [ho]; rfl
 have f16 : (op == 16) = false := by rw [ho]; rfl
 have f12 : (op == 12) = false := by rw [ho]; rfl
 have f10 : (op == 10) = false := by rw [ho]; rfl
 have f11 : (op == 11) = false := by rw [ho]; rfl
 have f8 : (op == 8) = false := by rw [ho]; rfl
 have f9 : (op == 9) = false := by rw [ho]; rfl
 have f13 : (op == 13) = false := by rw [ho]; rfl
 have hb1 : (ariF op != (kids.length : Int)) = false := by simpa using hA
 have hb2 : (op != 2) = false := by rw [ho]; rfl
 have hb3 : (op != 1) = true := by rw [ho]; rfl
 have hsv : sameV val zV = true := by rcases hC with h | h; (exact absurd (ho.symm.trans h) (by decide)); exact h
 clear hr E hf hks hL hA hB hC ho hlen
 have HI := Lib.hid (show 0 ≤ findF name fl → ∃ i f, findF name fl = (i : Nat) ∧ fl[i]? = some f ∧ f.name = name from findF_some)
 generalize hg : findF name fl = g at *
 have HG := Lib.hid hg
 clear hg
 go_enter Tryz.func171, Tryz.ntmps171
 go_wp2_with fail
 refine wp_region_held_drew (S := fun W => (W.cell? ⟨w.heap.size, 0, none⟩ = some (.int .i64 op) ∧ W.cell? ⟨w.heap.size, 1, none⟩ = some (.slice B kids.length d) ∧ W.cell? ⟨w.heap.size, 2, none⟩ = some (.string ⟨name.toArray⟩) ∧ W.cell? ⟨w.heap.size, 3, none⟩ = some (.int .i64 val.kind) ∧ W.cell? ⟨w.heap.size, 4, none⟩ = some (.int .i64 val.int) ∧ W.cell? ⟨w.heap.size, 5, none⟩ = some (.bool val.bool) ∧ W.cell? ⟨w.heap.size, 6, none⟩ = some (.string ⟨val.text.toArray⟩) ∧ W.cell? ⟨w.heap.size, 7, none⟩ = some (.float .f64 val.num))) (by kernel_rfl) (KK.out _ bW).1 (fun hHeld => ?_)
 refine takeL 0 9 (.pointer (some ⟨w.heap.size, 0, none⟩)) rfl rfl (by kernel_rfl) (fun _ _ _ h => h) (Or.inl ⟨by rfl, by (intro wz hSw; (try dsimp only at hSw); go_simp)⟩) (by assumption) ?_
 try simp only [Act.put, nrmA, nrmZ, nrmS]
 refine takeL 1 10 (.int .i64 op) rfl rfl (by kernel_rfl) (fun _ _ _ h => h) (Or.inl ⟨by rfl, by (intro wz hSw; (try dsimp only at hSw); go_simp)⟩) (by assumption) ?_
 try simp only [Act.put, nrmA, nrmZ, nrmS]
 refine takeL 3 12 (.pointer (some ⟨w.heap.size, 1, none⟩)) rfl rfl (by kernel_rfl) (fun _ _ _ h => h) (Or.inl ⟨by rfl, by (intro wz hSw; (try dsimp only at hSw); go_simp)⟩) (by assumption) ?_
 try simp only [Act.put, nrmA, nrmZ, nrmS]
 refine takeL 4 13 (.slice B kids.length d) rfl rfl (by kernel_rfl) (fun _ _ _ h => h) (Or.inl ⟨by rfl, by (intro wz hSw; (try dsimp only at hSw); go_simp)⟩) (by assumption) ?_
 try simp only [Act.put, nrmA, nrmZ, nrmS]
 refine takeL 5 14 (.int .i64 kids.length) rfl rfl (by kernel_rfl) (fun _ _ _ h => h) (Or.inl ⟨by rfl, by (intro wz hSw; (try dsimp only at hSw); go_simp)⟩) (by assumption) ?_
 try simp only [Act.put, nrmA, nrmZ, nrmS]
 refine rdL 2 rfl (by kernel_rfl) fun K hK => ?_
 go_simp
 refine (rkids_c _).mono ?_
 rintro x9 wz ⟨rfl, rfl⟩
 refine hK.out _ _ (KK.out _ bW).1 (fun hHeld => ?_)
 clear hK K
 try simp only [Act.put, nrmA, nrmZ, nrmS]
 refine takeL 6 15 (.bool false) rfl rfl (by kernel_rfl) (fun _ _ _ h => h) (Or.inl ⟨by rfl, by (intro wz hSw; (try dsimp only at hSw); go_simp)⟩) (by assumption) ?_
 try simp only [Act.put, nrmA, nrmZ, nrmS]
 refine takeL 7 16 (.bool false) rfl rfl (by kernel_rfl) (fun _ _ _ h => h) (Or.inl ⟨by rfl, by (intro wz hSw; (try dsimp only at hSw); go_simp)⟩) (by assumption) ?_
 try simp only [Act.put, nrmA, nrmZ, nrmS]
 refine takeL 8 17 (.pointer (some ⟨w.heap.size, 0, none⟩)) rfl rfl (by kernel_rfl) (fun _ _ _ h => h) (Or.inl ⟨by rfl, by (intro wz hSw; (try dsimp only at hSw); go_simp)⟩) (by assumption) ?_
 try simp only [Act.put, nrmA, nrmZ, nrmS]
 refine takeL 9 18 (.int .i64 op) rfl rfl (by kernel_rfl) (fun _ _ _ h => h) (Or.inl ⟨by rfl, by (intro wz hSw; (try dsimp only at hSw); go_simp)⟩) (by assumption) ?_
 try simp only [Act.put, nrmA, nrmZ, nrmS]
 refine takeL 10 19 (.bool false) rfl rfl (by kernel_rfl) (fun _ _ _ h => h) (Or.inl ⟨by rfl, by (intro wz hSw; (try dsimp only at hSw); go_simp)⟩) (by assumption) ?_
 try simp only [Act.put, nrmA, nrmZ, nrmS]
 refine takeL 11 20 (.bool false) rfl rfl (by kernel_rfl) (fun _ _ _ h => h) (Or.inl ⟨by rfl, by (intro wz hSw; (try dsimp only at hSw); go_simp)⟩) (by assumption) ?_
 try simp only [Act.put, nrmA, nrmZ, nrmS]
 refine skipL 12 rfl (by kernel_rfl) (fun _ _ _ h => h) (Or.inr ⟨by rfl, rfl⟩) (by assumption) ?_
 try simp only [Act.put, nrmA, nrmZ, nrmS]
 refine skipL 13 rfl (by kernel_rfl) (fun _ _ _ h => h) (Or.inr ⟨by rfl, rfl⟩) (by assumption) ?_
 try simp only [Act.put, nrmA, nrmZ, nrmS]
 refine skipL 14 rfl (by kernel_rfl) (fun _ _ _ h => h) (Or.inr ⟨by rfl, rfl⟩) (by assumption) ?_
 try simp only [Act.put, nrmA, nrmZ, nrmS]
 refine takeL 15 24 (.bool false) rfl rfl (by kernel_rfl) (fun _ _ _ h => h) (Or.inl ⟨by rfl, by (intro wz hSw; (try dsimp only at hSw); go_simp)⟩) (by assumption) ?_
 try simp only [Act.put, nrmA, nrmZ, nrmS]
 refine takeL 16 25 (.bool false) rfl rfl (by kernel_rfl) (fun _ _ _ h => h) (Or.inl ⟨by rfl, by (intro wz hSw; (try dsimp only at hSw); go_simp)⟩) (by assumption) ?_
 try simp only [Act.put, nrmA, nrmZ, nrmS]
 refine takeL 17 26 (.bool false) rfl rfl (by kernel_rfl) (fun _ _ _ h => h) (Or.inl ⟨by rfl, by (intro wz hSw; (try dsimp only at hSw); go_simp)⟩) (by assumption) ?_
 try simp only [Act.put, nrmA, nrmZ, nrmS]
 refine takeL 18 27 (.pointer (some ⟨w.heap.size, 0, none⟩)) rfl rfl (by kernel_rfl) (fun _ _ _ h => h) (Or.inl ⟨by rfl, by (intro wz hSw; (try dsimp only at hSw); go_simp)⟩) (by assumption) ?_
 try simp only [Act.put, nrmA, nrmZ, nrmS]
 refine takeL 19 28 (.int .i64 op) rfl rfl (by kernel_rfl) (fun _ _ _ h => h) (Or.inl ⟨by rfl, by (intro wz hSw; (try dsimp only at hSw); go_simp)⟩) (by assumption) ?_
 try simp only [Act.put, nrmA, nrmZ, nrmS]
 refine takeL 20 29 (.bool true) rfl rfl (by kernel_rfl) (fun _ _ _ h => h) (Or.inl ⟨by rfl, by (intro wz hSw; (try dsimp only at hSw); go_simp)⟩) (by assumption) ?_
 try simp only [Act.put, nrmA, nrmZ, nrmS]
 refine takeL 21 30 (.bool true) rfl rfl (by kernel_rfl) (fun _ _ _ h => h) (Or.inl ⟨by rfl, by (intro wz hSw; (try dsimp only at hSw); go_simp)⟩) (by assumption) ?_
 try simp only [Act.put, nrmA, nrmZ, nrmS]
 refine takeL 22 31 (.pointer (some ⟨w.heap.size, 3, none⟩)) rfl rfl (by kernel_rfl) (fun _ _ _ h => h) (Or.inl ⟨by rfl, by (intro wz hSw; (try dsimp only at hSw); go_simp)⟩) (by assumption) ?_
 try simp only [Act.put, nrmA, nrmZ, nrmS]
 refine takeL 23 32 (.agg #[.int .i64 val.kind, .int .i64 val.int, .bool val.bool, .string ⟨val.text.toArray⟩, .float .f64 val.num]) rfl rfl (by kernel_rfl) (fun _ _ _ h => h) (Or.inl ⟨by rfl, by (intro wz hSw; (try dsimp only at hSw); go_simp)⟩) (by assumption) ?_
 try simp only [Act.put, nrmA, nrmZ, nrmS]
 refine takeL 24 33 (.agg #[.int .i64 0, .int .i64 0, .bool false, .string ⟨#[]⟩, .float .f64 0]) rfl rfl (by kernel_rfl) (fun _ _ _ h => h) (Or.inl ⟨by rfl, by (intro wz hSw; (try dsimp only at hSw); go_simp)⟩) (by assumption) ?_
 try simp only [Act.put, nrmA, nrmZ, nrmS]
 refine rdL 25 rfl (by kernel_rfl) fun K hK => ?_
 go_simp
 refine (sameZ_c val).mono ?_
 rintro x9 wz ⟨rfl, hb⟩
 refine hK.out _ _ (KK.out _ bW).1 (fun hHeld => ?_)
 clear hK K
 try simp only [Act.put, nrmA, nrmZ, nrmS]
 refine takeL 26 35 (.bool false) rfl rfl (by kernel_rfl) (fun _ _ _ h => h) (Or.inl ⟨by rfl, by (intro wz hSw; (try dsimp only at hSw); go_simp)⟩) (by assumption) ?_
 try simp only [Act.put, nrmA, nrmZ, nrmS]
 refine takeL 27 36 (.bool false) rfl rfl (by kernel_rfl) (fun _ _ _ h => h) (Or.inl ⟨by rfl, by (intro wz hSw; (try dsimp only at hSw); go_simp)⟩) (by assumption) ?_
 try simp only [Act.put, nrmA, nrmZ, nrmS]
 refine takeL 28 37 (.bool false) rfl rfl (by kernel_rfl) (fun _ _ _ h => h) (Or.inl ⟨by rfl, by (intro wz hSw; (try dsimp only at hSw); go_simp)⟩) (by assumption) ?_
 try simp only [Act.put, nrmA, nrmZ, nrmS]
 refine wpAnyH_done (by kernel_rfl) ?_ _
 obtain ⟨⟨c0, c1, c2, c3, c4, c5, c6, c7⟩, hz⟩ := KK.out wz bW
 go_wp2_with fail
 refine (rfield05_c name (HF.out _ bW)).mono ?_
 rw [HG.out]
 rintro x9 w2 ⟨rfl, hb2⟩
 by_cases hg0 : 0 ≤ g
 ·obtain ⟨i, f, rfl, hfi, -⟩ := HI.out hg0
  clear hg0
  have hi : i < N := by have := (List.getElem?_eq_some_iff.1 hfi).1; have := (HF.out w2 bW).len.1; omega
  obtain ⟨adF, f', B', d', rfl, hf', -, -, ck, -⟩ := fld_at (HF.out w2 bW) hi
  obtain rfl : f' = f := by rw [hfi] at hf'; injection hf' with e; exact e.symm
  have ET2 := Lib.hid (show r = .ok f'.kind by rw [ET.out, Int.toNat_natCast, hfi]; simp)
  clear hfi hf'
  go_wp2_with fail
  go_ret2
  rw [ET2.out]
  exact ⟨rfl, bW⟩
 ·have ET2 := Lib.hid (show r = .error 50 by rw [ET.out]; cases fl[g.toNat]? <;> simp [hg0])
  go_wp2_with fail
  go_ret2
  rw [ET2.out]
  exact ⟨rfl, bW⟩
set_option maxRecDepth 100000 in
set_option maxHeartbeats 4000000 in
theorem rkind3 {A K : Option Addr} {N c kc : Nat} {fl : List Fld} {ks : List Int} {B : Option Addr} {d : Nat} (op : Int) (kids : List Exp) (name : List UInt8) (val : Val) (hk : ks.length = kids.length) (ho : op = 3)
 (hA : ariF op = (kids.length : Int)) (hB : op = 2 ∨ name = []) (hC : op = 1 ∨ sameV val zV = true) (hks : Sl kI (fun _ => True) w (.slice K ks.length kc) ks) (hf : Sl kFld (fun _ => True) w (.slice A N c) fl) :
 Calls Tryz.prog 171 #[.agg #[.int .i64 op, .slice B kids.length d, .string ⟨name.toArray⟩, .int .i64 val.kind, .int .i64 val.int, .bool val.bool, .string ⟨val.text.toArray⟩, .float .f64 val.num], .slice K ks.length kc, .slice A N c] w (Ret w (.tuple #[.int .i64 (pairK (kindOf fl (.mk op kids name val) ks)).1, .int .i64 (pairK (kindOf fl (.mk op kids name val) ks)).2])) := by
 have SF := store_f64
 have HF := hidS hf
 have E := Lib.hid (show kindOf fl (.mk op kids name val) ks = tailK fl op name val (ks.getD 0 0) (ks.getD 1 0) (ks.getD 2 0) from kind3_D (e := .mk op kids name val) hA hB hC)
 have hlen0 : (ks.length : Int) = ariF op := by rw [hA, hk]
 rw [ho, show ariF 3 = 1 from by decide] at hlen0
 have hlen : ks.length = 1 := by omega
 clear hlen0
 obtain ⟨a, rfl⟩ := len1 hlen
 obtain ⟨ad, rfl⟩ := iaddr hks (by simp)
 have HK := Lib.hid (show ∀ W : World, Below w.heap.size w W → W.cell? ad = some (.int .i64 a) from fun W hW => (by have h := icell (hks.below hW) (i := 0) (x := a) rfl; rwa [addz0] at h))
 have hL := Loc1.new w 44 #[.int .i64 op, .slice B kids.length d, .string ⟨name.toArray⟩, .int .i64 val.kind, .int .i64 val.int, .bool val.bool, .string ⟨val.text.toArray⟩, .float .f64 val.num]
 have B0 : Below w.heap.size w (w.alloc (.cells #[.int .i64 op, .slice B kids.length d, .string ⟨name.toArray⟩, .int .i64 val.kind, .int .i64 val.int, .bool val.bool, .string ⟨val.text.toArray⟩, .float .f64 val.num] 44)) := bW
 have KK := kk8 hL
 have hm3 := hf.len.2.2.1
 have hm4 := hf.len.2.1
 generalize hr : kindOf fl (.mk op kids name val) [a] = r at *
 have ET := Lib.hid (show r = (if isN (a) = true then .ok (a) else .error 40) by rw [E.out]; unfold tailK; rw [ho]; first | rfl | simp)
 have f1 : (op == 1) = false := by rw [ho]; rfl
 have f2 : (op == 2) = false := by rw [ho]; rfl
 have f3 : (op == 3) = true := by rw [ho]; rfl
 have f16 : (op == 16) = false := by rw [ho]; rfl
 have f12 : (op == 12) = false := by rw [ho]; rfl
 have f10 : (op == 10) = false := by rw [ho]; rfl
 have f11 : (op == 11) = false := by rw [ho]; rfl
 have f8 : (op == 8) = false := by rw [ho]; rfl
 have f9 : (op == 9) = false := by rw [ho]; rfl
 have f13 : (op == 13) = false := by rw [ho]; rfl
 have hb1 : (ariF op != (kids.length : Int)) = false := by simpa using hA
 have hb2 : (op != 2) = true := by rw [ho]; rfl
 have hb3 : (op != 1) = true := by rw [ho]; rfl
 have hnm : name.isEmpty = true := by rcases hB with h | h; (exact absurd (ho.symm.trans h) (by decide)); rw [h]; rfl
 have hsv : sameV val zV = true := by rcases hC with h | h; (exact absurd (ho.symm.trans h) (by decide)); exact h
 clear hr E hf hks hL hA hB hC ho hlen
 go_enter Tryz.func171, Tryz.ntmps171
 go_wp2_with fail
 go_region_held3 (fun W => (W.cell? ⟨w.heap.size, 0, none⟩ = some (.int .i64 op) ∧ W.cell? ⟨w.heap.size, 1, none⟩ = some (.slice B kids.length d) ∧ W.cell? ⟨w.heap.size, 2, none⟩ = some (.string ⟨name.toArray⟩) ∧ W.cell? ⟨w.heap.size, 3, none⟩ = some (.int .i64 val.kind) ∧ W.cell? ⟨w.heap.size, 4, none⟩ = some (.int .i64 val.int) ∧ W.cell? ⟨w.heap.size, 5, none⟩ = some (.bool val.bool) ∧ W.cell? ⟨w.heap.size, 6, none⟩ = some (.string ⟨val.text.toArray⟩) ∧ W.cell? ⟨w.heap.size, 7, none⟩ = some (.float .f64 val.num))) (exact (KK.out _ bW).1)
  (first
  | (go_at_call 184; refine (rkids_c _).mono ?_; rintro x9 wz ⟨rfl, rfl⟩)
  | (go_at_call 185; refine (sameZ_c val).mono ?_; rintro x9 wz ⟨rfl, hb⟩))
 have hKz := HK.out wz bW
 obtain ⟨⟨c0, c1, c2, c3, c4, c5, c6, c7⟩, hz⟩ := KK.out wz bW
 go_wp2_with fail
 all_goals
  go_ret2
  rw [ET.out]
  refine ⟨?_, bW⟩
 all_goals first
  | (simp [pairK, isN, *]; done)
  | (clear KK HF; simp_all [pairK, isN]; done)
  | (clear KK HF; simp_all [pairK, isN]; omega)
  | (clear KK HF; simp [pairK, isN, *]; (repeat' split) <;> simp_all)
set_option maxRecDepth 100000 in
set_option maxHeartbeats 4000000 in
theorem rkind12 {A K : Option Addr} {N c kc : Nat} {fl : List Fld} {ks : List Int} {B : Option Addr} {d : Nat} (op : Int) (kids : List Exp) (name : List UInt8) (val : Val) (hk : ks.length = kids.length) (ho : op = 12)
 (hA : ariF op = (kids.length : Int)) (hB : op = 2 ∨ name = []) (hC : op = 1 ∨ sameV val zV = true) (hks : Sl kI (fun _ => True) w (.slice K ks.length kc) ks) (hf : Sl kFld (fun _ => True) w (.slice A N c) fl) :
 Calls Tryz.prog 171 #[.agg #[.int .i64 op, .slice B kids.length d, .string ⟨name.toArray⟩, .int .i64 val.kind, .int .i64 val.int, .bool val.bool, .string ⟨val.text.toArray⟩, .float .f64 val.num], .slice K ks.length kc, .slice A N c] w (Ret w (.tuple #[.int .i64 (pairK (kindOf fl (.mk op kids name val) ks)).1, .int .i64 (pairK (kindOf fl (.mk op kids name val) ks)).2])) := by
 have SF := store_f64
 have HF := hidS hf
 have E := Lib.hid (show kindOf fl (.mk op kids name val) ks = tailK fl op name val (ks.getD 0 0) (ks.getD 1 0) (ks.getD 2 0) from kind3_D (e := .mk op kids name val) hA hB hC)
 have hlen0 : (ks.length : Int) = ariF op := by rw [hA, hk]
 rw [ho, show ariF 12 = 1 from by decide] at hlen0
 have hlen : ks.length = 1 := by omega
 clear hlen0
 obtain ⟨a, rfl⟩ := len1 hlen
 obtain ⟨ad, rfl⟩ := iaddr hks (by simp)
 have HK := Lib.hid (show ∀ W : World, Below w.heap.size w W → W.cell? ad = some (.int .i64 a) from fun W hW => (by have h := icell (hks.below hW) (i := 0) (x := a) rfl; rwa [addz0] at h))
 have hL := Loc1.new w 44 #[.int .i64 op, .slice B kids.length d, .string ⟨name.toArray⟩, .int .i64 val.kind, .int .i64 val.int, .bool val.bool, .string ⟨val.text.toArray⟩, .float .f64 val.num]
 have B0 : Below w.heap.size w (w.alloc (.cells #[.int .i64 op, .slice B kids.length d, .string ⟨name.toArray⟩, .int .i64 val.kind, .int .i64 val.int, .bool val.bool, .string ⟨val.text.toArray⟩, .float .f64 val.num] 44)) := bW
 have KK := kk8 hL
 have hm3 := hf.len.2.2.1
 have hm4 := hf.len.2.1
 generalize hr : kindOf fl (.mk op kids name val) [a] = r at *
 have ET := Lib.hid (show r = (if a = 2 then .ok (a) else .error 40) by rw [E.out]; unfold tailK; rw [ho]; first | rfl | simp)
 have f1 : (op == 1) = false := by rw [ho]; rfl
 have f2 : (op == 2) = false := by rw [ho]; rfl
 have f3 : (op == 3) = false := by rw [ho]; rfl
 have f16 : (op == 16) = false := by rw [ho]; rfl
 have f12 : (op == 12) = true := by rw [ho]; rfl
 have f10 : (op == 10) = false := by rw [ho]; rfl
 have f11 : (op == 11) = false := by rw [ho]; rfl
 have f8 : (op == 8) = false := by rw [ho]; rfl
 have f9 : (op == 9) = false := by rw [ho]; rfl
 have f13 : (op == 13) = false := by rw [ho]; rfl
 have hb1 : (ariF op != (kids.length : Int)) = false := by simpa using hA
 have hb2 : (op != 2) = true := by rw [ho]; rfl
 have hb3 : (op != 1) = true := by rw [ho]; rfl
 have hnm : name.isEmpty = true := by rcases hB with h | h; (exact absurd (ho.symm.trans h) (by decide)); rw [h]; rfl
 have hsv : sameV val zV = true := by rcases hC with h | h; (exact absurd (ho.symm.trans h) (by decide)); exact h
 clear hr E hf hks hL hA hB hC ho hlen
 go_enter Tryz.func171, Tryz.ntmps171
 go_wp2_with fail
 go_region_held3 (fun W => (W.cell? ⟨w.heap.size, 0, none⟩ = some (.int .i64 op) ∧ W.cell? ⟨w.heap.size, 1, none⟩ = some (.slice B kids.length d) ∧ W.cell? ⟨w.heap.size, 2, none⟩ = some (.string ⟨name.toArray⟩) ∧ W.cell? ⟨w.heap.size, 3, none⟩ = some (.int .i64 val.kind) ∧ W.cell? ⟨w.heap.size, 4, none⟩ = some (.int .i64 val.int) ∧ W.cell? ⟨w.heap.size, 5, none⟩ = some (.bool val.bool) ∧ W.cell? ⟨w.heap.size, 6, none⟩ = some (.string ⟨val.text.toArray⟩) ∧ W.cell? ⟨w.heap.size, 7, none⟩ = some (.float .f64 val.num))) (exact (KK.out _ bW).1)
  (first
  | (go_at_call 184; refine (rkids_c _).mono ?_; rintro x9 wz ⟨rfl, rfl⟩)
  | (go_at_call 185; refine (sameZ_c val).mono ?_; rintro x9 wz ⟨rfl, hb⟩))
 have hKz := HK.out wz bW
 obtain ⟨⟨c0, c1, c2, c3, c4, c5, c6, c7⟩, hz⟩ := KK.out wz bW
 go_wp2_with fail
 all_goals
  go_ret2
  rw [ET.out]
  refine ⟨?_, bW⟩
 all_goals first
  | (simp [pairK, isN, *]; done)
  | (clear KK HF; simp_all [pairK, isN]; done)
  | (clear KK HF; simp_all [pairK, isN]; omega)
  | (clear KK HF; simp [pairK, isN, *]; (repeat' split) <;> simp_all)
set_option maxRecDepth 100000 in
set_option maxHeartbeats 4000000 in
theorem rkind16 {A K : Option Addr} {N c kc : Nat} {fl : List Fld} {ks : List Int} {B : Option Addr} {d : Nat} (op : Int) (kids : List Exp) (name : List UInt8) (val : Val) (hk : ks.length = kids.length) (ho : op = 16)
 (hA : ariF op = (kids.length : Int)) (hB : op = 2 ∨ name = []) (hC : op = 1 ∨ sameV val zV = true) (hks : Sl kI (fun _ => True) w (.slice K ks.length kc) ks) (hf : Sl kFld (fun _ => True) w (.slice A N c) fl) :
 Calls Tryz.prog 171 #[.agg #[.int .i64 op, .slice B kids.length d, .string ⟨name.toArray⟩, .int .i64 val.kind, .int .i64 val.int, .bool val.bool, .string ⟨val.text.toArray⟩, .float .f64 val.num], .slice K ks.length kc, .slice A N c] w (Ret w (.tuple #[.int .i64 (pairK (kindOf fl (.mk op kids name val) ks)).1, .int .i64 (pairK (kindOf fl (.mk op kids name val) ks)).2])) := by
 have SF := store_f64
 have HF := hidS hf
 have E := Lib.hid (show kindOf fl (.mk op kids name val) ks = tailK fl op name val (ks.getD 0 0) (ks.getD 1 0) (ks.getD 2 0) from kind3_D (e := .mk op kids name val) hA hB hC)
 have hlen0 : (ks.length : Int) = ariF op := by rw [hA, hk]
 rw [ho, show ariF 16 = 1 from by decide] at hlen0
 have hlen : ks.length = 1 := by omega
 clear hlen0
 obtain ⟨a, rfl⟩ := len1 hlen
 obtain ⟨ad, rfl⟩ := iaddr hks (by simp)
 have HK := Lib.hid (show ∀ W : World, Below w.heap.size w W → W.cell? ad = some (.int .i64 a) from fun W hW => (by have h := icell (hks.below hW) (i := 0) (x := a) rfl; rwa [addz0] at h))
 have hL := Loc1.new w 44 #[.int .i64 op, .slice B kids.length d, .string ⟨name.toArray⟩, .int .i64 val.kind, .int .i64 val.int, .bool val.bool, .string ⟨val.text.toArray⟩, .float .f64 val.num]
 have B0 : Below w.heap.size w (w.alloc (.cells #[.int .i64 op, .slice B kids.length d, .string ⟨name.toArray⟩, .int .i64 val.kind, .int .i64 val.int, .bool val.bool, .string ⟨val.text.toArray⟩, .float .f64 val.num] 44)) := bW
 have KK := kk8 hL
 have hm3 := hf.len.2.2.1
 have hm4 := hf.len.2.1
 generalize hr : kindOf fl (.mk op kids name val) [a] = r at *
 have ET := Lib.hid (show r = (if a = 1 then .ok 4 else .error 40) by rw [E.out]; unfold tailK; rw [ho]; first | rfl | simp)
 have f1 : (op == 1) = false := by rw [ho]; rfl
 have f2 : (op == 2) = false := by rw [ho]; rfl
 have f3 : (op == 3) = false := by rw [ho]; rfl
 have f16 : (op == 16) = true := by rw [ho]; rfl
 have f12 : (op == 12) = false := by rw [ho]; rfl
 have f10 : (op == 10) = false := by rw [ho]; rfl
 have f11 : (op == 11) = false := by rw [ho]; rfl
 have f8 : (op == 8) = false := by rw [ho]; rfl
 have f9 : (op == 9) = false := by rw [ho]; rfl
 have f13 : (op == 13) = false := by rw [ho]; rfl
 have hb1 : (ariF op != (kids.length : Int)) = false := by simpa using hA
 have hb2 : (op != 2) = true := by rw [ho]; rfl
 have hb3 : (op != 1) = true := by rw [ho]; rfl
 have hnm : name.isEmpty = true := by rcases hB with h | h; (exact absurd (ho.symm.trans h) (by decide)); rw [h]; rfl
 have hsv : sameV val zV = true := by rcases hC with h | h; (exact absurd (ho.symm.trans h) (by decide)); exact h
 clear hr E hf hks hL hA hB hC ho hlen
 go_enter Tryz.func171, Tryz.ntmps171
 go_wp2_with fail
 go_region_held3 (fun W => (W.cell? ⟨w.heap.size, 0, none⟩ = some (.int .i64 op) ∧ W.cell? ⟨w.heap.size, 1, none⟩ = some (.slice B kids.length d) ∧ W.cell? ⟨w.heap.size, 2, none⟩ = some (.string ⟨name.toArray⟩) ∧ W.cell? ⟨w.heap.size, 3, none⟩ = some (.int .i64 val.kind) ∧ W.cell? ⟨w.heap.size, 4, none⟩ = some (.int .i64 val.int) ∧ W.cell? ⟨w.heap.size, 5, none⟩ = some (.bool val.bool) ∧ W.cell? ⟨w.heap.size, 6, none⟩ = some (.string ⟨val.text.toArray⟩) ∧ W.cell? ⟨w.heap.size, 7, none⟩ = some (.float .f64 val.num))) (exact (KK.out _ bW).1)
  (first
  | (go_at_call 184; refine (rkids_c _).mono ?_; rintro x9 wz ⟨rfl, rfl⟩)
  | (go_at_call 185; refine (sameZ_c val).mono ?_; rintro x9 wz ⟨rfl, hb⟩))
 have hKz := HK.out wz bW
 obtain ⟨⟨c0, c1, c2, c3, c4, c5, c6, c7⟩, hz⟩ := KK.out wz bW
 go_wp2_with fail
 all_goals
  go_ret2
  rw [ET.out]
  refine ⟨?_, bW⟩
 all_goals first
  | (simp [pairK, isN, *]; done)
  | (clear KK HF; simp_all [pairK, isN]; done)
  | (clear KK HF; simp_all [pairK, isN]; omega)
  | (clear KK HF; simp [pairK, isN, *]; (repeat' split) <;> simp_all)
set_option maxRecDepth 100000 in
set_option maxHeartbeats 4000000 in
theorem rkind10 {A K : Option Addr} {N c kc : Nat} {fl : List Fld} {ks : List Int} {B : Option Addr} {d : Nat} (op : Int) (kids : List Exp) (name : List UInt8) (val : Val) (hk : ks.length = kids.length) (ho : op = 10)
 (hA : ariF op = (kids.length : Int)) (hB : op = 2 ∨ name = []) (hC : op = 1 ∨ sameV val zV = true) (hks : Sl kI (fun _ => True) w (.slice K ks.length kc) ks) (hf : Sl kFld (fun _ => True) w (.slice A N c) fl) :
 Calls Tryz.prog 171 #[.agg #[.int .i64 op, .slice B kids.length d, .string ⟨name.toArray⟩, .int .i64 val.kind, .int .i64 val.int, .bool val.bool, .string ⟨val.text.toArray⟩, .float .f64 val.num], .slice K ks.length kc, .slice A N c] w (Ret w (.tuple #[.int .i64 (pairK (kindOf fl (.mk op kids name val) ks)).1, .int .i64 (pairK (kindOf fl (.mk op kids name val) ks)).2])) := by
 have SF := store_f64
 have HF := hidS hf
 have E := Lib.hid (show kindOf fl (.mk op kids name val) ks = tailK fl op name val (ks.getD 0 0) (ks.getD 1 0) (ks.getD 2 0) from kind3_D (e := .mk op kids name val) hA hB hC)
 have hlen0 : (ks.length : Int) = ariF op := by rw [hA, hk]
 rw [ho, show ariF 10 = 2 from by decide] at hlen0
 have hlen : ks.length = 2 := by omega
 clear hlen0
 obtain ⟨a, b, rfl⟩ := len2 hlen
 obtain ⟨ad, rfl⟩ := iaddr hks (by simp)
 have HK := Lib.hid (show ∀ W : World, Below w.heap.size w W → W.cell? ad = some (.int .i64 a) ∧ W.cell? ⟨ad.block, ad.off + 1, none⟩ = some (.int .i64 b) from fun W hW => ⟨(by have h := icell (hks.below hW) (i := 0) (x := a) rfl; rwa [addz0] at h), (by have h := icell (hks.below hW) (i := 1) (x := b) rfl; rwa [addn0 ad 1 (by decide)] at h)⟩)
 have hL := Loc1.new w 44 #[.int .i64 op, .slice B kids.length d, .string ⟨name.toArray⟩, .int .i64 val.kind, .int .i64 val.int, .bool val.bool, .string ⟨val.text.toArray⟩, .float .f64 val.num]
 have B0 : Below w.heap.size w (w.alloc (.cells #[.int .i64 op, .slice B kids.length d, .string ⟨name.toArray⟩, .int .i64 val.kind, .int .i64 val.int, .bool val.bool, .string ⟨val.text.toArray⟩, .float .f64 val.num] 44)) := bW
 have KK := kk8 hL
 have hm3 := hf.len.2.2.1
 have hm4 := hf.len.2.1
 generalize hr : kindOf fl (.mk op kids name val) [a, b] = r at *
 have ET := Lib.hid (show r = (if a = 2 ∧ b = 2 then .ok (a) else .error 40) by rw [E.out]; unfold tailK; rw [ho]; first | rfl | simp)
 have f1 : (op == 1) = false := by rw [ho]; rfl
 have f2 : (op == 2) = false := by rw [ho]; rfl
 have f3 : (op == 3) = false := by rw [ho]; rfl
 have f16 : (op == 16) = false := by rw [ho]; rfl
 have f12 : (op == 12) = false := by rw [ho]; rfl
 have f10 : (op == 10) = true := by rw [ho]; rfl
 have f11 : (op == 11) = false := by rw [ho]; rfl
 have f8 : (op == 8) = false := by rw [ho]; rfl
 have f9 : (op == 9) = false := by rw [ho]; rfl
 have f13 : (op == 13) = false := by rw [ho]; rfl
 have hb1 : (ariF op != (kids.length : Int)) = false := by simpa using hA
 have hb2 : (op != 2) = true := by rw [ho]; rfl
 have hb3 : (op != 1) = true := by rw [ho]; rfl
 have hnm : name.isEmpty = true := by rcases hB with h | h; (exact absurd (ho.symm.trans h) (by decide)); rw [h]; rfl
 have hsv : sameV val zV = true := by rcases hC with h | h; (exact absurd (ho.symm.trans h) (by decide)); exact h
 clear hr E hf hks hL hA hB hC ho hlen
 go_enter Tryz.func171, Tryz.ntmps171
 go_wp2_with fail
 go_region_held3 (fun W => (W.cell? ⟨w.heap.size, 0, none⟩ = some (.int .i64 op) ∧ W.cell? ⟨w.heap.size, 1, none⟩ = some (.slice B kids.length d) ∧ W.cell? ⟨w.heap.size, 2, none⟩ = some (.string ⟨name.toArray⟩) ∧ W.cell? ⟨w.heap.size, 3, none⟩ = some (.int .i64 val.kind) ∧ W.cell? ⟨w.heap.size, 4, none⟩ = some (.int .i64 val.int) ∧ W.cell? ⟨w.heap.size, 5, none⟩ = some (.bool val.bool) ∧ W.cell? ⟨w.heap.size, 6, none⟩ = some (.string ⟨val.text.toArray⟩) ∧ W.cell? ⟨w.heap.size, 7, none⟩ = some (.float .f64 val.num))) (exact (KK.out _ bW).1)
  (first
  | (go_at_call 184; refine (rkids_c _).mono ?_; rintro x9 wz ⟨rfl, rfl⟩)
  | (go_at_call 185; refine (sameZ_c val).mono ?_; rintro x9 wz ⟨rfl, hb⟩))
 have hKz := HK.out wz bW
 obtain ⟨⟨c0, c1, c2, c3, c4, c5, c6, c7⟩, hz⟩ := KK.out wz bW
 obtain ⟨k0, k1⟩ := hKz
 go_wp2_with fail
 all_goals
  go_ret2
  rw [ET.out]
  refine ⟨?_, bW⟩
 all_goals first
  | (simp [pairK, isN, *]; done)
  | (clear KK HF; simp_all [pairK, isN]; done)
  | (clear KK HF; simp_all [pairK, isN]; omega)
  | (clear KK HF; simp [pairK, isN, *]; (repeat' split) <;> simp_all)
end
end Go.Proofs.YtjnhgfmjehaalaaGreat
