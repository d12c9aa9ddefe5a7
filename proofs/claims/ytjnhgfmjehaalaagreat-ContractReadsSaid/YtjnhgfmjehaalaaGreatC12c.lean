/- Chapter 6: the reference's Check of expressions: each operation. -/
import Derived.Test.YtjnhgfmjehaalaaGreatMH
namespace Go.Proofs.YtjnhgfmjehaalaaGreat
open Go.RowKit
set_option linter.unusedVariables false
set_option linter.unusedSimpArgs false
section
variable {w : World}
set_option maxRecDepth 100000 in
set_option maxHeartbeats 4000000 in
theorem rkind4 {A K : Option Addr} {N c kc : Nat} {fl : List Fld} {ks : List Int} {B : Option Addr} {d : Nat} (op : Int) (kids : List Exp) (name : List UInt8) (val : Val) (hk : ks.length = kids.length) (ho : op = 4)
 (hA : ariF op = (kids.length : Int)) (hB : op = 2 ∨ name = []) (hC : op = 1 ∨ sameV val zV = true) (hks : Sl kI (fun _ => True) w (.slice K ks.length kc) ks) (hf : Sl kFld (fun _ => True) w (.slice A N c) fl) :
 Calls Tryz.prog 171 #[.agg #[.int .i64 op, .slice B kids.length d, .string ⟨name.toArray⟩, .int .i64 val.kind, .int .i64 val.int, .bool val.bool, .string ⟨val.text.toArray⟩, .float .f64 val.num], .slice K ks.length kc, .slice A N c] w (Ret w (.tuple #[.int .i64 (pairK (kindOf fl (.mk op kids name val) ks)).1, .int .i64 (pairK (kindOf fl (.mk op kids name val) ks)).2])) := by
 have SF := store_f64
 have HF := hidS hf
 have E := Lib.hid (show kindOf fl (.mk op kids name val) ks = tailK fl op name val (ks.getD 0 0) (ks.getD 1 0) (ks.getD 2 0) from kind3_D (e := .mk op kids name val) hA hB hC)
 have hlen0 : (ks.length : Int) = ariF op := by rw [hA, hk]
 rw [ho, show ariF 4 = 2 from by decide] at hlen0
 have hlen : ks.length = 2 := by omega
 clear hlen0
 obtain ⟨a, b, rfl⟩ := len2 hlen
 obtain ⟨ad, rfl⟩ := iaddr hks (by simp)
 have HK := Lib.hid (show ∀ W : World, Below w.heap.size w W → W.cell? ad = some (.int .i64 a) ∧ W.cell? ⟨ad.block, ad.off + 1, none⟩ = some (.int .i64 b) from fun W hW => ⟨(by have h := icell (hks.below hW) (i := 0) (x := a) rfl; rwa [addz0] at h), (by have h := icell (hks.below hW) (i := 1) (x := b) rfl; rwa [addn0 ad 1 (by decide)] at h)⟩)
 have hL := Loc1.new w 44 #[.int .i64 op, .slice B kids.length d, .string ⟨name.toArray⟩, .int .i64 val.kind, .int .i64 val.int, .bool val.bool, .string ⟨val.text.toArray⟩, .float .f64 val.num]
 have B0 : Below w.heap.size w (w.alloc (.cells #[.int .i64 op, .slice B kids.length d, .string ⟨name.toArray⟩, .int .i64 val.kind, .int .i64 val.int, .bool val.bool, .string ⟨val.text.toArray⟩, .float .f64 val.num] 44)) := bW
 have KK := kk8 hL
 have hm3 := hf.len.2.2.1
 have hm4 := hf.len.2.1
 generalize hr : kindOf fl (.mk op kids name val) [a, b] = r at *
 have ET := Lib.hid (show r = (if a = b ∧ isN (a) = true then .ok (a) else .error 40) by rw [E.out]; unfold tailK; rw [ho]; first | rfl | simp)
 have f1 : (op == 1) = false := by rw [ho]; rfl
 have f2 : (op == 2) = false := by rw [ho]; rfl
 have f3 : (op == 3) = false := by rw [ho]; rfl
 have f16 : (op == 16) = false := by rw [ho]; rfl
 have f12 : (op == 12) = false := by rw [ho]; rfl
 have f10 : (op == 10) = false := by rw [ho]; rfl
 have f11 : (op == 11) = false := by rw [ho]; rfl
 have f8 : (op == 8) = false := by rw [ho]; rfl
 have f9 : (op == 9) = false := by rw [ho]; rfl
 have f13 : (op == 13) = false := by rw [ho]; rfl
 have hb1 : (ariF op != (kids.length : Int)) = false := by simpa using hA
 have hb2 : (op != 2) = true := by rw [ho]; rfl
 have hb3 : (op != 1) = true := by rw [ho]; rfl
 have hnm : name.isEmpty = true := by rcases hB with h | h; (exact absurd (ho.symm.trans h) (by decide)); rw [h]; rfl
 have hsv : sameV val zV = true := by rcases hC with h | h; (exact absurd (ho.symm.trans h) (by decide)); exact h
 clear hr E hf hks hL hA hB hC ho hlen
 go_enter Tryz.func171, Tryz.ntmps171
 go_wp2_with fail
 go_region_held3 (fun W => (W.cell? ⟨w.heap.size, 0, none⟩ = some (.int .i64 op) ∧ W.cell? ⟨w.heap.size, 1, none⟩ = some (.slice B kids.length d) ∧ W.cell? ⟨w.heap.size, 2, none⟩ = some (.string ⟨name.toArray⟩) ∧ W.cell? ⟨w.heap.size, 3, none⟩ = some (.int .i64 val.kind) ∧ W.cell? ⟨w.heap.size, 4, none⟩ = some (.int .i64 val.int) ∧ W.cell? ⟨w.heap.size, 5, none⟩ = some (.bool val.bool) ∧ W.cell? ⟨w.heap.size, 6, none⟩ = some (.string ⟨val.text.toArray⟩) ∧ W.cell? ⟨w.heap.size, 7, none⟩ = some (.float .f64 val.num))) (exact (KK.out _ bW).1)
  (first
  | (go_at_call 184; refine (rkids_c _).mono ?_; rintro x9 wz ⟨rfl, rfl⟩)
  | (go_at_call 185; refine (sameZ_c val).mono ?_; rintro x9 wz ⟨rfl, hb⟩))
 have hKz := HK.out wz bW
 obtain ⟨⟨c0, c1, c2, c3, c4, c5, c6, c7⟩, hz⟩ := KK.out wz bW
 obtain ⟨k0, k1⟩ := hKz
 go_wp2_with fail
 cases hd0 : (a == b) <;> cases hd1 : (a == 1) <;> cases hd2 : (a == 4)
 all_goals go_quiet ((fail))
 all_goals go_wp2_with fail
 all_goals
  go_ret2
  rw [ET.out]
  refine ⟨?_, bW⟩
 all_goals first
  | (simp [pairK, isN, *]; done)
  | (clear KK HF; simp_all [pairK, isN]; done)
  | (clear KK HF; simp_all [pairK, isN]; omega)
  | (clear KK HF; simp [pairK, isN, *]; (repeat' split) <;> simp_all)
set_option maxRecDepth 100000 in
set_option maxHeartbeats 4000000 in
theorem rkind5 {A K : Option Addr} {N c kc : Nat} {fl : List Fld} {ks : List Int} {B : Option Addr} {d : Nat} (op : Int) (kids : List Exp) (name : List UInt8) (val : Val) (hk : ks.length = kids.length) (ho : op = 5)
 (hA : ariF op = (kids.length : Int)) (hB : op = 2 ∨ name = []) (hC : op = 1 ∨ sameV val zV = true) (hks : Sl kI (fun _ => True) w (.slice K ks.length kc) ks) (hf : Sl kFld (fun _ => True) w (.slice A N c) fl) :
 Calls Tryz.prog 171 #[.agg #[.int .i64 op, .slice B kids.length d, .string ⟨name.toArray⟩, .int .i64 val.kind, .int .i64 val.int, .bool val.bool, .string ⟨val.text.toArray⟩, .float .f64 val.num], .slice K ks.length kc, .slice A N c] w (Ret w (.tuple #[.int .i64 (pairK (kindOf fl (.mk op kids name val) ks)).1, .int .i64 (pairK (kindOf fl (.mk op kids name val) ks)).2])) := by
 have SF := store_f64
 have HF := hidS hf
 have E := Lib.hid (show kindOf fl (.mk op kids name val) ks = tailK fl op name val (ks.getD 0 0) (ks.getD 1 0) (ks.getD 2 0) from kind3_D (e := .mk op kids name val) hA hB hC)
 have hlen0 : (ks.length : Int) = ariF op := by rw [hA, hk]
 rw [ho, show ariF 5 = 2 from by decide] at hlen0
 have hlen : ks.length = 2 := by omega
 clear hlen0
 obtain ⟨a, b, rfl⟩ := len2 hlen
 obtain ⟨ad, rfl⟩ := iaddr hks (by simp)
 have HK := Lib.hid (show ∀ W : World, Below w.heap.size w W → W.cell? ad = some (.int .i64 a) ∧ W.cell? ⟨ad.block, ad.off + 1, none⟩ = some (.int .i64 b) from fun W hW => ⟨(by have h := icell (hks.below hW) (i := 0) (x := a) rfl; rwa [addz0] at h), (by have h := icell (hks.below hW) (i := 1) (x := b) rfl; rwa [addn0 ad 1 (by decide)] at h)⟩)
 have hL := Loc1.new w 44 #[.int .i64 op, .slice B kids.length d, .string ⟨name.toArray⟩, .int .i64 val.kind, .int .i64 val.int, .bool val.bool, .string ⟨val.text.toArray⟩, .float .f64 val.num]
 have B0 : Below w.heap.size w (w.alloc (.cells #[.int .i64 op, .slice B kids.length d, .string ⟨name.toArray⟩, .int .i64 val.kind, .int .i64 val.int, .bool val.bool, .string ⟨val.text.toArray⟩, .float .f64 val.num] 44)) := bW
 have KK := kk8 hL
 have hm3 := hf.len.2.2.1
 have hm4 := hf.len.2.1
 generalize hr : kindOf fl (.mk op kids name val) [a, b] = r at *
 have ET := Lib.hid (show r = (if a = b ∧ isN (a) = true then .ok (a) else .error 40) by rw [E.out]; unfold tailK; rw [ho]; first | rfl | simp)
 have f1 : (op == 1) = false := by rw [ho]; rfl
 have f2 : (op == 2) = false := by rw [ho]; rfl
 have f3 : (op == 3) = false := by rw [ho]; rfl
 have f16 : (op == 16) = false := by rw [ho]; rfl
 have f12 : (op == 12) = false := by rw [ho]; rfl
 have f10 : (op == 10) = false := by rw [ho]; rfl
 have f11 : (op == 11) = false := by rw [ho]; rfl
 have f8 : (op == 8) = false := by rw [ho]; rfl
 have f9 : (op == 9) = false := by rw [ho]; rfl
 have f13 : (op == 13) = false := by rw [ho]; rfl
 have hb1 : (ariF op != (kids.length : Int)) = false := by simpa using hA
 have hb2 : (op != 2) = true := by rw [ho]; rfl
 have hb3 : (op != 1) = true := by rw [ho]; rfl
 have hnm : name.isEmpty = true := by rcases hB with h | h; (exact absurd (ho.symm.trans h) (by decide)); rw [h]; rfl
 have hsv : sameV val zV = true := by rcases hC with h | h; (exact absurd (ho.symm.trans h) (by decide)); exact h
 clear hr E hf hks hL hA hB hC ho hlen
 go_enter Tryz.func171, Tryz.ntmps171
 go_wp2_with fail
 go_region_held3 (fun W => (W.cell? ⟨w.heap.size, 0, none⟩ = some (.int .i64 op) ∧ W.cell? ⟨w.heap.size, 1, none⟩ = some (.slice B kids.length d) ∧ W.cell? ⟨w.heap.size, 2, none⟩ = some (.string ⟨name.toArray⟩) ∧ W.cell? ⟨w.heap.size, 3, none⟩ = some (.int .i64 val.kind) ∧ W.cell? ⟨w.heap.size, 4, none⟩ = some (.int .i64 val.int) ∧ W.cell? ⟨w.heap.size, 5, none⟩ = some (.bool val.bool) ∧ W.cell? ⟨w.heap.size, 6, none⟩ = some (.string ⟨val.text.toArray⟩) ∧ W.cell? ⟨w.heap.size, 7, none⟩ = some (.float .f64 val.num))) (exact (KK.out _ bW).1)
  (first
  | (go_at_call 184; refine (rkids_c _).mono ?_; rintro x9 wz ⟨rfl, rfl⟩)
  | (go_at_call 185; refine (sameZ_c val).mono ?_; rintro x9 wz ⟨rfl, hb⟩))
 have hKz := HK.out wz bW
 obtain ⟨⟨c0, c1, c2, c3, c4, c5, c6, c7⟩, hz⟩ := KK.out wz bW
 obtain ⟨k0, k1⟩ := hKz
 go_wp2_with fail
 cases hd0 : (a == b) <;> cases hd1 : (a == 1) <;> cases hd2 : (a == 4)
 all_goals go_quiet ((fail))
 all_goals go_wp2_with fail
 all_goals
  go_ret2
  rw [ET.out]
  refine ⟨?_, bW⟩
 all_goals first
  | (simp [pairK, isN, *]; done)
  | (clear KK HF; simp_all [pairK, isN]; done)
  | (clear KK HF; simp_all [pairK, isN]; omega)
  | (clear KK HF; simp [pairK, isN, *]; (repeat' split) <;> simp_all)
set_option maxRecDepth 100000 in
set_option maxHeartbeats 4000000 in
theorem rkind6 {A K : Option Addr} {N c kc : Nat} {fl : List Fld} {ks : List Int} {B : Option Addr} {d : Nat} (op : Int) (kids : List Exp) (name : List UInt8) (val : Val) (hk : ks.length = kids.length) (ho : op = 6)
 (hA : ariF op = (kids.length : Int)) (hB : op = 2 ∨ name = []) (hC : op = 1 ∨ sameV val zV = true) (hks : Sl kI (fun _ => True) w (.slice K ks.length kc) ks) (hf : Sl kFld (fun _ => True) w (.slice A N c) fl) :
 Calls Tryz.prog 171 #[.agg #[.int .i64 op, .slice B kids.length d, .string ⟨name.toArray⟩, .int .i64 val.kind, .int .i64 val.int, .bool val.bool, .string ⟨val.text.toArray⟩, .float .f64 val.num], .slice K ks.length kc, .slice A N c] w (Ret w (.tuple #[.int .i64 (pairK (kindOf fl (.mk op kids name val) ks)).1, .int .i64 (pairK (kindOf fl (.mk op kids name val) ks)).2])) := by
 have SF := store_f64
 have HF := hidS hf
 have E := Lib.hid (show kindOf fl (.mk op kids name val) ks = tailK fl op name val (ks.getD 0 0) (ks.getD 1 0) (ks.getD 2 0) from kind3_D (e := .mk op kids name val) hA hB hC)
 have hlen0 : (ks.length : Int) = ariF op := by rw [hA, hk]
 rw [ho, show ariF 6 = 2 from by decide] at hlen0
 have hlen : ks.length = 2 := by omega
 clear hlen0
 obtain ⟨a, b, rfl⟩ := len2 hlen
 obtain ⟨ad, rfl⟩ := iaddr hks (by simp)
 have HK := Lib.hid (show ∀ W : World, Below w.heap.size w W → W.cell? ad = some (.int .i64 a) ∧ W.cell? ⟨ad.block, ad.off + 1, none⟩ = some (.int .i64 b) from fun W hW => ⟨(by have h := icell (hks.below hW) (i := 0) (x := a) rfl; rwa [addz0] at h), (by have h := icell (hks.below hW) (i := 1) (x := b) rfl; rwa [addn0 ad 1 (by decide)] at h)⟩)
 have hL := Loc1.new w 44 #[.int .i64 op, .slice B kids.length d, .string ⟨name.toArray⟩, .int .i64 val.kind, .int .i64 val.int, .bool val.bool, .string ⟨val.text.toArray⟩, .float .f64 val.num]
 have B0 : Below w.heap.size w (w.alloc (.cells #[.int .i64 op, .slice B kids.length d, .string ⟨name.toArray⟩, .int .i64 val.kind, .int .i64 val.int, .bool val.bool, .string ⟨val.text.toArray⟩, .float .f64 val.num] 44)) := bW
 have KK := kk8 hL
 have hm3 := hf.len.2.2.1
 have hm4 := hf.len.2.1
 generalize hr : kindOf fl (.mk op kids name val) [a, b] = r at *
 have ET := Lib.hid (show r = (if a = b ∧ isN (a) = true then .ok (a) else .error 40) by rw [E.out]; unfold tailK; rw [ho]; first | rfl | simp)
 have f1 : (op == 1) = false := by rw [ho]; rfl
 have f2 : (op == 2) = false := by rw [ho]; rfl
 have f3 : (op == 3) = false := by rw [ho]; rfl
 have f16 : (op == 16) = false := by rw [ho]; rfl
 have f12 : (op == 12) = false := by rw [ho]; rfl
 have f10 : (op == 10) = false := by rw [ho]; rfl
 have f11 : (op == 11) = false := by rw [ho]; rfl
 have f8 : (op == 8) = false := by rw [ho]; rfl
 have f9 : (op == 9) = false := by rw [ho]; rfl
 have f13 : (op == 13) = false := by rw [ho]; rfl
 have hb1 : (ariF op != (kids.length : Int)) = false := by simpa using hA
 have hb2 : (op != 2) = true := by rw [ho]; rfl
 have hb3 : (op != 1) = true := by rw [ho]; rfl
 have hnm : name.isEmpty = true := by rcases hB with h | h; (exact absurd (ho.symm.trans h) (by decide)); rw [h]; rfl
 have hsv : sameV val zV = true := by rcases hC with h | h; (exact absurd (ho.symm.trans h) (by decide)); exact h
 clear hr E hf hks hL hA hB hC ho hlen
 go_enter Tryz.func171, Tryz.ntmps171
 go_wp2_with fail
 go_region_held3 (fun W => (W.cell? ⟨w.heap.size, 0, none⟩ = some (.int .i64 op) ∧ W.cell? ⟨w.heap.size, 1, none⟩ = some (.slice B kids.length d) ∧ W.cell? ⟨w.heap.size, 2, none⟩ = some (.string ⟨name.toArray⟩) ∧ W.cell? ⟨w.heap.size, 3, none⟩ = some (.int .i64 val.kind) ∧ W.cell? ⟨w.heap.size, 4, none⟩ = some (.int .i64 val.int) ∧ W.cell? ⟨w.heap.size, 5, none⟩ = some (.bool val.bool) ∧ W.cell? ⟨w.heap.size, 6, none⟩ = some (.string ⟨val.text.toArray⟩) ∧ W.cell? ⟨w.heap.size, 7, none⟩ = some (.float .f64 val.num))) (exact (KK.out _ bW).1)
  (first
  | (go_at_call 184; refine (rkids_c _).mono ?_; rintro x9 wz ⟨rfl, rfl⟩)
  | (go_at_call 185; refine (sameZ_c val).mono ?_; rintro x9 wz ⟨rfl, hb⟩))
 have hKz := HK.out wz bW
 obtain ⟨⟨c0, c1, c2, c3, c4, c5, c6, c7⟩, hz⟩ := KK.out wz bW
 obtain ⟨k0, k1⟩ := hKz
 go_wp2_with fail
 cases hd0 : (a == b) <;> cases hd1 : (a == 1) <;> cases hd2 : (a == 4)
 all_goals go_quiet ((fail))
 all_goals go_wp2_with fail
 all_goals
  go_ret2
  rw [ET.out]
  refine ⟨?_, bW⟩
 all_goals first
  | (simp [pairK, isN, *]; done)
  | (clear KK HF; simp_all [pairK, isN]; done)
  | (clear KK HF; simp_all [pairK, isN]; omega)
  | (clear KK HF; simp [pairK, isN, *]; (repeat' split) <;> simp_all)
set_option maxRecDepth 100000 in
set_option maxHeartbeats 4000000 in
theorem rkind7 {A K : Option Addr} {N c kc : Nat} {fl : List Fld} {ks : List Int} {B : Option Addr} {d : Nat} (op : Int) (kids : List Exp) (name : List UInt8) (val : Val) (hk : ks.length = kids.length) (ho : op = 7)
 (hA : ariF op = (kids.length : Int)) (hB : op = 2 ∨ name = []) (hC : op = 1 ∨ sameV val zV = true) (hks : Sl kI (fun _ => True) w (.slice K ks.length kc) ks) (hf : Sl kFld (fun _ => True) w (.slice A N c) fl) :
 Calls Tryz.prog 171 #[.agg #[.int .i64 op, .slice B kids.length d, .string ⟨name.toArray⟩, .int .i64 val.kind, .int .i64 val.int, .bool val.bool, .string ⟨val.text.toArray⟩, .float .f64 val.num], .slice K ks.length kc, .slice A N c] w (Ret w (.tuple #[.int .i64 (pairK (kindOf fl (.mk op kids name val) ks)).1, .int .i64 (pairK (kindOf fl (.mk op kids name val) ks)).2])) := by
 have SF := store_f64
 have HF := hidS hf
 have E := Lib.hid (show kindOf fl (.mk op kids name val) ks = tailK fl op name val (ks.getD 0 0) (ks.getD 1 0) (ks.getD 2 0) from kind3_D (e := .mk op kids name val) hA hB hC)
 have hlen0 : (ks.length : Int) = ariF op := by rw [hA, hk]
 rw [ho, show ariF 7 = 2 from by decide] at hlen0
 have hlen : ks.length = 2 := by omega
 clear hlen0
 obtain ⟨a, b, rfl⟩ := len2 hlen
 obtain ⟨ad, rfl⟩ := iaddr hks (by simp)
 have HK := Lib.hid (show ∀ W : World, Below w.heap.size w W → W.cell? ad = some (.int .i64 a) ∧ W.cell? ⟨ad.block, ad.off + 1, none⟩ = some (.int .i64 b) from fun W hW => ⟨(by have h := icell (hks.below hW) (i := 0) (x := a) rfl; rwa [addz0] at h), (by have h := icell (hks.below hW) (i := 1) (x := b) rfl; rwa [addn0 ad 1 (by decide)] at h)⟩)
 have hL := Loc1.new w 44 #[.int .i64 op, .slice B kids.length d, .string ⟨name.toArray⟩, .int .i64 val.kind, .int .i64 val.int, .bool val.bool, .string ⟨val.text.toArray⟩, .float .f64 val.num]
 have B0 : Below w.heap.size w (w.alloc (.cells #[.int .i64 op, .slice B kids.length d, .string ⟨name.toArray⟩, .int .i64 val.kind, .int .i64 val.int, .bool val.bool, .string ⟨val.text.toArray⟩, .float .f64 val.num] 44)) := bW
 have KK := kk8 hL
 have hm3 := hf.len.2.2.1
 have hm4 := hf.len.2.1
 generalize hr : kindOf fl (.mk op kids name val) [a, b] = r at *
 have ET := Lib.hid (show r = (if a = b ∧ isN (a) = true then .ok (a) else .error 40) by rw [E.out]; unfold tailK; rw [ho]; first | rfl | simp)
 have f1 : (op == 1) = false := by rw [ho]; rfl
 have f2 : (op == 2) = false := by rw [ho]; rfl
 have f3 : (op == 3) = false := by rw [ho]; rfl
 have f16 : (op == 16) = false := by rw [ho]; rfl
 have f12 : (op == 12) = false := by rw [ho]; rfl
 have f10 : (op == 10) = false := by rw [ho]; rfl
 have f11 : (op == 11) = false := by rw [ho]; rfl
 have f8 : (op == 8) = false := by rw [ho]; rfl
 have f9 : (op == 9) = false := by rw [ho]; rfl
 have f13 : (op == 13) = false := by rw [ho]; rfl
 have hb1 : (ariF op != (kids.length : Int)) = false := by simpa using hA
 have hb2 : (op != 2) = true := by rw [ho]; rfl
 have hb3 : (op != 1) = true := by rw [ho]; rfl
 have hnm : name.isEmpty = true := by rcases hB with h | h; (exact absurd (ho.symm.trans h) (by decide)); rw [h]; rfl
 have hsv : sameV val zV = true := by rcases hC with h | h; (exact absurd (ho.symm.trans h) (by decide)); exact h
 clear hr E hf hks hL hA hB hC ho hlen
 go_enter Tryz.func171, Tryz.ntmps171
 go_wp2_with fail
 go_region_held3 (fun W => (W.cell? ⟨w.heap.size, 0, none⟩ = some (.int .i64 op) ∧ W.cell? ⟨w.heap.size, 1, none⟩ = some (.slice B kids.length d) ∧ W.cell? ⟨w.heap.size, 2, none⟩ = some (.string ⟨name.toArray⟩) ∧ W.cell? ⟨w.heap.size, 3, none⟩ = some (.int .i64 val.kind) ∧ W.cell? ⟨w.heap.size, 4, none⟩ = some (.int .i64 val.int) ∧ W.cell? ⟨w.heap.size, 5, none⟩ = some (.bool val.bool) ∧ W.cell? ⟨w.heap.size, 6, none⟩ = some (.string ⟨val.text.toArray⟩) ∧ W.cell? ⟨w.heap.size, 7, none⟩ = some (.float .f64 val.num))) (exact (KK.out _ bW).1)
  (first
  | (go_at_call 184; refine (rkids_c _).mono ?_; rintro x9 wz ⟨rfl, rfl⟩)
  | (go_at_call 185; refine (sameZ_c val).mono ?_; rintro x9 wz ⟨rfl, hb⟩))
 have hKz := HK.out wz bW
 obtain ⟨⟨c0, c1, c2, c3, c4, c5, c6, c7⟩, hz⟩ := KK.out wz bW
 obtain ⟨k0, k1⟩ := hKz
 go_wp2_with fail
 cases hd0 : (a == b) <;> cases hd1 : (a == 1) <;> cases hd2 : (a == 4)
 all_goals go_quiet ((fail))
 all_goals go_wp2_with fail
 all_goals
  go_ret2
  rw [ET.out]
  refine ⟨?_, bW⟩
 all_goals first
  | (simp [pairK, isN, *]; done)
  | (clear KK HF; simp_all [pairK, isN]; done)
  | (clear KK HF; simp_all [pairK, isN]; omega)
  | (clear KK HF; simp [pairK, isN, *]; (repeat' split) <;> simp_all)
set_option maxRecDepth 100000 in
set_option maxHeartbeats 4000000 in
theorem rkind14 {A K : Option Addr} {N c kc : Nat} {fl : List Fld} {ks : List Int} {B : Option Addr} {d : Nat} (op : Int) (kids : List Exp) (name : List UInt8) (val : Val) (hk : ks.length = kids.length) (ho : op = 14)
 (hA : ariF op = (kids.length : Int)) (hB : op = 2 ∨ name = []) (hC : op = 1 ∨ sameV val zV = true) (hks : Sl kI (fun _ => True) w (.slice K ks.length kc) ks) (hf : Sl kFld (fun _ => True) w (.slice A N c) fl) :
 Calls Tryz.prog 171 #[.agg #[.int .i64 op, .slice B kids.length d, .string ⟨name.toArray⟩, .int .i64 val.kind, .int .i64 val.int, .bool val.bool, .string ⟨val.text.toArray⟩, .float .f64 val.num], .slice K ks.length kc, .slice A N c] w (Ret w (.tuple #[.int .i64 (pairK (kindOf fl (.mk op kids name val) ks)).1, .int .i64 (pairK (kindOf fl (.mk op kids name val) ks)).2])) := by
 have SF := store_f64
 have HF := hidS hf
 have E := Lib.hid (show kindOf fl (.mk op kids name val) ks = tailK fl op name val (ks.getD 0 0) (ks.getD 1 0) (ks.getD 2 0) from kind3_D (e := .mk op kids name val) hA hB hC)
 have hlen0 : (ks.length : Int) = ariF op := by rw [hA, hk]
 rw [ho, show ariF 14 = 2 from by decide] at hlen0
 have hlen : ks.length = 2 := by omega
 clear hlen0
 obtain ⟨a, b, rfl⟩ := len2 hlen
 obtain ⟨ad, rfl⟩ := iaddr hks (by simp)
 have HK := Lib.hid (show ∀ W : World, Below w.heap.size w W → W.cell? ad = some (.int .i64 a) ∧ W.cell? ⟨ad.block, ad.off + 1, none⟩ = some (.int .i64 b) from fun W hW => ⟨(by have h := icell (hks.below hW) (i := 0) (x := a) rfl; rwa [addz0] at h), (by have h := icell (hks.below hW) (i := 1) (x := b) rfl; rwa [addn0 ad 1 (by decide)] at h)⟩)
 have hL := Loc1.new w 44 #[.int .i64 op, .slice B kids.length d, .string ⟨name.toArray⟩, .int .i64 val.kind, .int .i64 val.int, .bool val.bool, .string ⟨val.text.toArray⟩, .float .f64 val.num]
 have B0 : Below w.heap.size w (w.alloc (.cells #[.int .i64 op, .slice B kids.length d, .string ⟨name.toArray⟩, .int .i64 val.kind, .int .i64 val.int, .bool val.bool, .string ⟨val.text.toArray⟩, .float .f64 val.num] 44)) := bW
 have KK := kk8 hL
 have hm3 := hf.len.2.2.1
 have hm4 := hf.len.2.1
 generalize hr : kindOf fl (.mk op kids name val) [a, b] = r at *
 have ET := Lib.hid (show r = (if a = b ∧ isN (a) = true then .ok (a) else .error 40) by rw [E.out]; unfold tailK; rw [ho]; first | rfl | simp)
 have f1 : (op == 1) = false := by rw [ho]; rfl
 have f2 : (op == 2) = false := by rw [ho]; rfl
 have f3 : (op == 3) = false := by rw [ho]; rfl
 have f16 : (op == 16) = false := by rw [ho]; rfl
 have f12 : (op == 12) = false := by rw [ho]; rfl
 have f10 : (op == 10) = false := by rw [ho]; rfl
 have f11 : (op == 11) = false := by rw [ho]; rfl
 have f8 : (op == 8) = false := by rw [ho]; rfl
 have f9 : (op == 9) = false := by rw [ho]; rfl
 have f13 : (op == 13) = false := by rw [ho]; rfl
 have hb1 : (ariF op != (kids.length : Int)) = false := by simpa using hA
 have hb2 : (op != 2) = true := by rw [ho]; rfl
 have hb3 : (op != 1) = true := by rw [ho]; rfl
 have hnm : name.isEmpty = true := by rcases hB with h | h; (exact absurd (ho.symm.trans h) (by decide)); rw [h]; rfl
 have hsv : sameV val zV = true := by rcases hC with h | h; (exact absurd (ho.symm.trans h) (by decide)); exact h
 clear hr E hf hks hL hA hB hC ho hlen
 go_enter Tryz.func171, Tryz.ntmps171
 go_wp2_with fail
 go_region_held3 (fun W => (W.cell? ⟨w.heap.size, 0, none⟩ = some (.int .i64 op) ∧ W.cell? ⟨w.heap.size, 1, none⟩ = some (.slice B kids.length d) ∧ W.cell? ⟨w.heap.size, 2, none⟩ = some (.string ⟨name.toArray⟩) ∧ W.cell? ⟨w.heap.size, 3, none⟩ = some (.int .i64 val.kind) ∧ W.cell? ⟨w.heap.size, 4, none⟩ = some (.int .i64 val.int) ∧ W.cell? ⟨w.heap.size, 5, none⟩ = some (.bool val.bool) ∧ W.cell? ⟨w.heap.size, 6, none⟩ = some (.string ⟨val.text.toArray⟩) ∧ W.cell? ⟨w.heap.size, 7, none⟩ = some (.float .f64 val.num))) (exact (KK.out _ bW).1)
  (first
  | (go_at_call 184; refine (rkids_c _).mono ?_; rintro x9 wz ⟨rfl, rfl⟩)
  | (go_at_call 185; refine (sameZ_c val).mono ?_; rintro x9 wz ⟨rfl, hb⟩))
 have hKz := HK.out wz bW
 obtain ⟨⟨c0, c1, c2, c3, c4, c5, c6, c7⟩, hz⟩ := KK.out wz bW
 obtain ⟨k0, k1⟩ := hKz
 go_wp2_with fail
 cases hd0 : (a == b) <;> cases hd1 : (a == 1) <;> cases hd2 : (a == 4)
 all_goals go_quiet ((fail))
 all_goals go_wp2_with fail
 all_goals
  go_ret2
  rw [ET.out]
  refine ⟨?_, bW⟩
 all_goals first
  | (simp [pairK, isN, *]; done)
  | (clear KK HF; simp_all [pairK, isN]; done)
  | (clear KK HF; simp_all [pairK, isN]; omega)
  | (clear KK HF; simp [pairK, isN, *]; (repeat' split) <;> simp_all)
set_option maxRecDepth 100000 in
set_option maxHeartbeats 4000000 in
theorem rkind15 {A K : Option Addr} {N c kc : Nat} {fl : List Fld} {ks : List Int} {B : Option Addr} {d : Nat} (op : Int) (kids : List Exp) (name : List UInt8) (val : Val) (hk : ks.length = kids.length) (ho : op = 15)
 (hA : ariF op = (kids.length : Int)) (hB : op = 2 ∨ name = []) (hC : op = 1 ∨ sameV val zV = true) (hks : Sl kI (fun _ => True) w (.slice K ks.length kc) ks) (hf : Sl kFld (fun _ => True) w (.slice A N c) fl) :
 Calls Tryz.prog 171 #[.agg #[.int .i64 op, .slice B kids.length d, .string ⟨name.toArray⟩, .int .i64 val.kind, .int .i64 val.int, .bool val.bool, .string ⟨val.text.toArray⟩, .float .f64 val.num], .slice K ks.length kc, .slice A N c] w (Ret w (.tuple #[.int .i64 (pairK (kindOf fl (.mk op kids name val) ks)).1, .int .i64 (pairK (kindOf fl (.mk op kids name val) ks)).2])) := by
 have SF := store_f64
 have HF := hidS hf
 have E := Lib.hid (show kindOf fl (.mk op kids name val) ks = tailK fl op name val (ks.getD 0 0) (ks.getD 1 0) (ks.getD 2 0) from kind3_D (e := .mk op kids name val) hA hB hC)
 have hlen0 : (ks.length : Int) = ariF op := by rw [hA, hk]
 rw [ho, show ariF 15 = 2 from by decide] at hlen0
 have hlen : ks.length = 2 := by omega
 clear hlen0
 obtain ⟨a, b, rfl⟩ := len2 hlen
 obtain ⟨ad, rfl⟩ := iaddr hks (by simp)
 have HK := Lib.hid (show ∀ W : World, Below w.heap.size w W → W.cell? ad = some (.int .i64 a) ∧ W.cell? ⟨ad.block, ad.off + 1, none⟩ = some (.int .i64 b) from fun W hW => ⟨(by have h := icell (hks.below hW) (i := 0) (x := a) rfl; rwa [addz0] at h), (by have h := icell (hks.below hW) (i := 1) (x := b) rfl; rwa [addn0 ad 1 (by decide)] at h)⟩)
 have hL := Loc1.new w 44 #[.int .i64 op, .slice B kids.length d, .string ⟨name.toArray⟩, .int .i64 val.kind, .int .i64 val.int, .bool val.bool, .string ⟨val.text.toArray⟩, .float .f64 val.num]
 have B0 : Below w.heap.size w (w.alloc (.cells #[.int .i64 op, .slice B kids.length d, .string ⟨name.toArray⟩, .int .i64 val.kind, .int .i64 val.int, .bool val.bool, .string ⟨val.text.toArray⟩, .float .f64 val.num] 44)) := bW
 have KK := kk8 hL
 have hm3 := hf.len.2.2.1
 have hm4 := hf.len.2.1
 generalize hr : kindOf fl (.mk op kids name val) [a, b] = r at *
 have ET := Lib.hid (show r = (if a = b ∧ isN (a) = true then .ok (a) else .error 40) by rw [E.out]; unfold tailK; rw [ho]; first | rfl | simp)
 have f1 : (op == 1) = false := by rw [ho]; rfl
 have f2 : (op == 2) = false := by rw [ho]; rfl
 have f3 : (op == 3) = false := by rw [ho]; rfl
 have f16 : (op == 16) = false := by rw [ho]; rfl
 have f12 : (op == 12) = false := by rw [ho]; rfl
 have f10 : (op == 10) = false := by rw [ho]; rfl
 have f11 : (op == 11) = false := by rw [ho]; rfl
 have f8 : (op == 8) = false := by rw [ho]; rfl
 have f9 : (op == 9) = false := by rw [ho]; rfl
 have f13 : (op == 13) = false := by rw [ho]; rfl
 have hb1 : (ariF op != (kids.length : Int)) = false := by simpa using hA
 have hb2 : (op != 2) = true := by rw [ho]; rfl
 have hb3 : (op != 1) = true := by rw [ho]; rfl
 have hnm : name.isEmpty = true := by rcases hB with h | h; (exact absurd (ho.symm.trans h) (by decide)); rw [h]; rfl
 have hsv : sameV val zV = true := by rcases hC with h | h; (exact absurd (ho.symm.trans h) (by decide)); exact h
 clear hr E hf hks hL hA hB hC ho hlen
 go_enter Tryz.func171, Tryz.ntmps171
 go_wp2_with fail
 go_region_held3 (fun W => (W.cell? ⟨w.heap.size, 0, none⟩ = some (.int .i64 op) ∧ W.cell? ⟨w.heap.size, 1, none⟩ = some (.slice B kids.length d) ∧ W.cell? ⟨w.heap.size, 2, none⟩ = some (.string ⟨name.toArray⟩) ∧ W.cell? ⟨w.heap.size, 3, none⟩ = some (.int .i64 val.kind) ∧ W.cell? ⟨w.heap.size, 4, none⟩ = some (.int .i64 val.int) ∧ W.cell? ⟨w.heap.size, 5, none⟩ = some (.bool val.bool) ∧ W.cell? ⟨w.heap.size, 6, none⟩ = some (.string ⟨val.text.toArray⟩) ∧ W.cell? ⟨w.heap.size, 7, none⟩ = some (.float .f64 val.num))) (exact (KK.out _ bW).1)
  (first
  | (go_at_call 184; refine (rkids_c _).mono ?_; rintro x9 wz ⟨rfl, rfl⟩)
  | (go_at_call 185; refine (sameZ_c val).mono ?_; rintro x9 wz ⟨rfl, hb⟩))
 have hKz := HK.out wz bW
 obtain ⟨⟨c0, c1, c2, c3, c4, c5, c6, c7⟩, hz⟩ := KK.out wz bW
 obtain ⟨k0, k1⟩ := hKz
 go_wp2_with fail
 cases hd0 : (a == b) <;> cases hd1 : (a == 1) <;> cases hd2 : (a == 4)
 all_goals go_quiet ((fail))
 all_goals go_wp2_with fail
 all_goals
  go_ret2
  rw [ET.out]
  refine ⟨?_, bW⟩
 all_goals first
  | (simp [pairK, isN, *]; done)
  | (clear KK HF; simp_all [pairK, isN]; done)
  | (clear KK HF; simp_all [pairK, isN]; omega)
  | (clear KK HF; simp [pairK, isN, *]; (repeat' split) <;> simp_all)
end
end Go.Proofs.YtjnhgfmjehaalaaGreat
