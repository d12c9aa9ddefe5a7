/- Package expr, walked: the value of an expression that was checked: equal. -/
import Derived.Test.YtijlamajcdekkaaE15
namespace Go.Proofs.Ytijlamajcdekkaa
open Go.RowKit
set_option linter.unusedVariables false
set_option maxRecDepth 20000 in
set_option maxHeartbeats 4000000 in
theorem eval_eq {A A2 : Option Addr} {N c c2 : Nat} {fl : List Fld} {vs : List Val} {n : Nat} (ih : EvalOk A A2 N c c2 fl vs n) {w : World} {cs : List Value} {e : Exp} {k : Int} (h : (kExp (n + 1)).R (fun _ => True) w cs e) (hf : Sl kFld (fun _ => True) w (.slice A N c) fl) (hv : Sl kVal (fun _ => True) w (.slice A2 N c2) vs) (hk : kE fl (n + 1) e = .ok k) (hop : e.op = 8) :
    Calls Try.prog 37 #[.agg #[.slice A N c, .slice A2 N c2], .agg cs.toArray] w (RetV w (evE fl vs (n + 1) e)) := by
  obtain ⟨m, B, d, hm, rfl, hs⟩ := exp_open h
  obtain rfl : n = m := by omega
  have IH := Lib.hid ih
  clear ih h
  have SF := store_f64
  have HK := Lib.hid hk
  have HA := Lib.hid (kE_ari hk)
  have B0 := Lib.hid (show Below w.heap.size w (((w.alloc (.cells #[.slice A N c, .slice A2 N c2] 74)).alloc (.cells #[.int .i64 e.op, .slice B e.kids.length d, .string ⟨e.name.toArray⟩, .int .i64 e.val.kind, .int .i64 e.val.int, .bool e.val.bool, .string ⟨e.val.text.toArray⟩, .float .f64 e.val.num] 27)).alloc (.cells #[.int .i64 0, .int .i64 0, .bool false, .string ⟨#[]⟩, .float .f64 0] 25)) from Below.three _ _ _ _)
  have L0 := Lib.hid (LocE.new w #[.slice A N c, .slice A2 N c2] #[.int .i64 e.op, .slice B e.kids.length d, .string ⟨e.name.toArray⟩, .int .i64 e.val.kind, .int .i64 e.val.int, .bool e.val.bool, .string ⟨e.val.text.toArray⟩, .float .f64 e.val.num] #[.int .i64 0, .int .i64 0, .bool false, .string ⟨#[]⟩, .float .f64 0])
  have HS := Lib.hid hs
  have HF := Lib.hid hf
  have HV := Lib.hid hv
  have hmax := hs.len.2.2.1
  have hnc := hs.len.2.1
  have HV1 := hv.len
  have E := Lib.hid (show evE fl vs (n + 1) e = if e.op = 1 then .ok e.val
    else if e.op = 2 then .ok (vs.getD (findF e.name fl).toNat zeroV)
    else match evE fl vs n (e.kids.getD 0 noE) with
      | .error x => .error x
      | .ok a => step1 e.op a (evE fl vs n (e.kids.getD 1 noE)) (evE fl vs n (e.kids.getD 2 noE)) from rfl)
  generalize evE fl vs (n + 1) e = r at *
  clear hs hf hv hk
  have HOP := Lib.hid hop
  have h1 : ¬ e.op = 1 := by omega
  have h2 : ¬ e.op = 2 := by omega
  clear hop
  have o1 : (e.op == 1) = false := by simpa using h1
  have o2 : (e.op == 2) = false := by simpa using h2
  have hk1 : 0 < e.kids.length := by
    have := HA.out
    unfold ariF at this
    omega
  have hk1' : (0 : Int) < (e.kids.length : Int) := by omega
  obtain ⟨ad, rfl⟩ : ∃ ad, B = some ad := by
    obtain ⟨ad, _, _, _, _, rfl, _⟩ := exp_at HS.out hk1
    exact ⟨ad, rfl⟩
  obtain ⟨ad', x, kx, B', d', ead, hx, hk', hs', c0, c1, c2_, c3, c4, c5, c6, c7⟩ := exp_at HS.out (show 0 < e.kids.length by omega)
  injection ead with ead
  subst ead
  simp only [Nat.zero_mul, addz] at c0 c1 c2_ c3 c4 c5 c6 c7
  obtain ⟨kx, hkx⟩ := kE_kid HK.out hx
  have HC := Lib.hid (show ∀ W : World, Below w.heap.size w W → Calls Try.prog 37 #[.agg #[.slice A N c, .slice A2 N c2], .agg #[.int .i64 x.op, .slice B' x.kids.length d', .string ⟨x.name.toArray⟩, .int .i64 x.val.kind, .int .i64 x.val.int, .bool x.val.bool, .string ⟨x.val.text.toArray⟩, .float .f64 x.val.num]] W (RetV W (evE fl vs n x)) from
    fun W hW => IH.out W _ x kx (hk' ▸ exp_mk (hs'.below hW)) (HF.out.below hW) (HV.out.below hW) hkx)
  have KK := Lib.hid (show ∀ W : World, JE w #[.slice A N c, .slice A2 N c2] #[.int .i64 e.op, .slice (some ad) e.kids.length d, .string ⟨e.name.toArray⟩, .int .i64 e.val.kind, .int .i64 e.val.int, .bool e.val.bool, .string ⟨e.val.text.toArray⟩, .float .f64 e.val.num] W → W.cell? ⟨w.heap.size, 0, none⟩ = some (.slice A N c) ∧ W.cell? ⟨w.heap.size, 1, none⟩ = some (.slice A2 N c2) ∧ W.cell? ⟨w.heap.size + 1, 1, none⟩ = some (.slice (some ad) e.kids.length d) ∧ W.cell? ad = some (.int .i64 x.op) ∧ W.cell? ⟨ad.block, ad.off + 1, none⟩ = some (.slice B' x.kids.length d') ∧ W.cell? ⟨ad.block, ad.off + 2, none⟩ = some (.string ⟨x.name.toArray⟩) ∧ W.cell? ⟨ad.block, ad.off + 3, none⟩ = some (.int .i64 x.val.kind) ∧ W.cell? ⟨ad.block, ad.off + 4, none⟩ = some (.int .i64 x.val.int) ∧ W.cell? ⟨ad.block, ad.off + 5, none⟩ = some (.bool x.val.bool) ∧ W.cell? ⟨ad.block, ad.off + 6, none⟩ = some (.string ⟨x.val.text.toArray⟩) ∧ W.cell? ⟨ad.block, ad.off + 7, none⟩ = some (.float .f64 x.val.num) from
    fun W hW => ⟨cell_of hW.2.1 0, cell_of hW.2.1 1, cell_of hW.2.2 1, keepC c0 hW.1, keepC c1 hW.1, keepC c2_ hW.1, keepC c3 hW.1, keepC c4 hW.1, keepC c5 hW.1, keepC c6 hW.1, keepC c7 hW.1⟩)
  have E0 := Lib.hid (getD_at hx)
  clear c0 c1 c2_ c3 c4 c5 c6 c7 hs' hx hkx
  replace E := Lib.hid (show r = match evE fl vs n x with
    | .error y => .error y
    | .ok a => step1 e.op a (evE fl vs n (e.kids.getD 1 noE)) (evE fl vs n (e.kids.getD 2 noE)) by rw [E.out, if_neg h1, if_neg h2, E0.out])
  clear E0
  go_enter Try.func37, Try.ntmps37
  go_wp2_with fail
  generalize (((w.alloc (.cells #[.slice A N c, .slice A2 N c2] 74)).alloc (.cells #[.int .i64 e.op, .slice (some ad) e.kids.length d, .string ⟨e.name.toArray⟩, .int .i64 e.val.kind, .int .i64 e.val.int, .bool e.val.bool, .string ⟨e.val.text.toArray⟩, .float .f64 e.val.num] 27)).alloc (.cells #[.int .i64 0, .int .i64 0, .bool false, .string ⟨#[]⟩, .float .f64 0] 25)) = w0 at *
  generalize evE fl vs n x = rx at *
  have J0 := Lib.hid (show JE w #[.slice A N c, .slice A2 N c2] #[.int .i64 e.op, .slice (some ad) e.kids.length d, .string ⟨e.name.toArray⟩, .int .i64 e.val.kind, .int .i64 e.val.int, .bool e.val.bool, .string ⟨e.val.text.toArray⟩, .float .f64 e.val.num] w0 from ⟨B0.out, L0.out.1, L0.out.2.1⟩)
  have T0 := Lib.hid (show Loc1 (w.heap.size + 1 + 1) 25 #[.int .i64 0, .int .i64 0, .bool false, .string ⟨#[]⟩, .float .f64 0] w0 from L0.out.2.2)
  clear B0 L0
  refine wp_region_held_drew (S := fun W => W.cell? ⟨w.heap.size, 0, none⟩ = some (.slice A N c) ∧ W.cell? ⟨w.heap.size, 1, none⟩ = some (.slice A2 N c2) ∧ W.cell? ⟨w.heap.size + 1, 1, none⟩ = some (.slice (some ad) e.kids.length d) ∧ W.cell? ad = some (.int .i64 x.op) ∧ W.cell? ⟨ad.block, ad.off + 1, none⟩ = some (.slice B' x.kids.length d') ∧ W.cell? ⟨ad.block, ad.off + 2, none⟩ = some (.string ⟨x.name.toArray⟩) ∧ W.cell? ⟨ad.block, ad.off + 3, none⟩ = some (.int .i64 x.val.kind) ∧ W.cell? ⟨ad.block, ad.off + 4, none⟩ = some (.int .i64 x.val.int) ∧ W.cell? ⟨ad.block, ad.off + 5, none⟩ = some (.bool x.val.bool) ∧ W.cell? ⟨ad.block, ad.off + 6, none⟩ = some (.string ⟨x.val.text.toArray⟩) ∧ W.cell? ⟨ad.block, ad.off + 7, none⟩ = some (.float .f64 x.val.num)) (by kernel_rfl) (KK.out _ (J0.out.below (Below.refl _ _).drew)) (fun hHeld => ?_)
  refine wpAnyH_take (i := 0) (oi := { dst := some 28, op := Op.load 74 (Operand.tmp 2), type := 74, pos := "expr.go:148", after := #[], guard := none }) (v := .agg #[.slice A N c, .slice A2 N c2]) rfl (by kernel_rfl) (by kernel_rfl) (by kernel_rfl) (fun _ _ _ h => h) (Or.inl ⟨by rfl, by (intro wz hSw; (try dsimp only at hSw); go_simp)⟩) (by assumption) ?_
  try simp only [Act.put, List.setIfInBounds_toArray, List.set_cons_zero, List.set_cons_succ]
  refine wpAnyH_take (i := 1) (oi := { dst := some 29, op := Op.fieldAddr 27 (Operand.tmp 3) 1, type := 0, pos := "expr.go:148", after := #[], guard := none }) (v := .pointer (some ⟨w.heap.size + 1, 1, none⟩)) rfl (by kernel_rfl) (by kernel_rfl) (by kernel_rfl) (fun _ _ _ h => h) (Or.inl ⟨by rfl, by (intro wz hSw; (try dsimp only at hSw); go_simp)⟩) (by assumption) ?_
  try simp only [Act.put, List.setIfInBounds_toArray, List.set_cons_zero, List.set_cons_succ]
  refine wpAnyH_take (i := 2) (oi := { dst := some 30, op := Op.load 22 (Operand.tmp 29), type := 22, pos := "expr.go:148", after := #[{ on := 1, ground := Ground.data }], guard := none }) (v := .slice (some ad) e.kids.length d) rfl (by kernel_rfl) (by kernel_rfl) (by kernel_rfl) (fun _ _ _ h => h) (Or.inl ⟨by rfl, by (intro wz hSw; (try dsimp only at hSw); go_simp)⟩) (by assumption) ?_
  try simp only [Act.put, List.setIfInBounds_toArray, List.set_cons_zero, List.set_cons_succ]
  refine wpAnyH_take (i := 3) (oi := { dst := some 31, op := Op.indexAddr 22 (Operand.tmp 30) (Operand.const (Value.int IntKind.i64 0)), type := 0, pos := "expr.go:148", after := #[{ on := 2, ground := Ground.data }], guard := none }) (v := .pointer (some ad)) rfl (by kernel_rfl) (by kernel_rfl) (by kernel_rfl) (fun _ _ _ h => h) (Or.inl ⟨by rfl, by (intro wz hSw; (try dsimp only at hSw); go_simp)⟩) (by assumption) ?_
  try simp only [Act.put, List.setIfInBounds_toArray, List.set_cons_zero, List.set_cons_succ]
  refine wpAnyH_take (i := 4) (oi := { dst := some 32, op := Op.load 27 (Operand.tmp 31), type := 27, pos := "expr.go:148", after := #[{ on := 3, ground := Ground.data }], guard := none }) (v := .agg #[.int .i64 x.op, .slice B' x.kids.length d', .string ⟨x.name.toArray⟩, .int .i64 x.val.kind, .int .i64 x.val.int, .bool x.val.bool, .string ⟨x.val.text.toArray⟩, .float .f64 x.val.num]) rfl (by kernel_rfl) (by kernel_rfl) (by kernel_rfl) (fun _ _ _ h => h) (Or.inl ⟨by rfl, by (intro wz hSw; (try dsimp only at hSw); go_simp)⟩) (by assumption) ?_
  try simp only [Act.put, List.setIfInBounds_toArray, List.set_cons_zero, List.set_cons_succ]
  refine wpAnyH_ready (rs := [5, 6]) (by kernel_rfl) (by simp) ?_
  refine AllReadyH.cons (o := { dst := some 33, op := Op.call { callee := Callee.value (Operand.func 37), args := #[Operand.tmp 28, Operand.tmp 32], argTypes := #[74, 27] }, type := 25, pos := "expr.go:148", after := #[{ on := 0, ground := Ground.data }, { on := 4, ground := Ground.data }], guard := none }) rfl (fun K hK => ?_) (AllReadyH.cons (o := { dst := some 5, op := Op.alloc 25, type := 0, pos := "expr.go:148", after := #[], guard := none }) rfl (fun K hK => ?_) AllReadyH.nil)
  go_simp
  refine (HC.out _ (J0.out.below ((Below.refl _ _).drew)).1).mono ?_
  rintro x9 v5 ⟨hret, hb⟩
  have HB := Lib.hid (show Below w0.heap.size w0 v5 from below_self ((Below.refl _ _).drew) hb)
  have HJ := Lib.hid (J0.out.below HB.out)
  rcases rx with y | a
  · have hret : x9 = .panicked [{ v := .iface 89 (.int .i64 y), recovered := false }] := hret
    subst hret
    refine ⟨rfl, ?_⟩
    rw [E.out]
    exact ⟨rfl, HJ.out.1⟩
  have hret : x9 = .returned (.agg #[.int .i64 a.kind, .int .i64 a.int, .bool a.bool, .string ⟨a.text.toArray⟩, .float .f64 a.num]) := hret
  subst hret
  refine hK.out _ _ (KK.out _ HJ.out) (fun hHeld => ?_)
  clear hK K
  try simp only [Act.put, List.setIfInBounds_toArray, List.set_cons_zero, List.set_cons_succ]
  refine wpAnyH_ready (rs := [6]) (by kernel_rfl) (by simp) ?_
  refine AllReadyH.cons (o := { dst := some 5, op := Op.alloc 25, type := 0, pos := "expr.go:148", after := #[], guard := none }) rfl (fun K hK => ?_) AllReadyH.nil
  go_simp
  refine hK.out _ _ (KK.out _ (HJ.out.below ((Below.refl _ _).alloc (Nat.le_refl _) _))) (fun hHeld => ?_)
  clear hK K
  try simp only [Act.put, List.setIfInBounds_toArray, List.set_cons_zero, List.set_cons_succ]
  refine wpAnyH_ready (rs := [7]) (by kernel_rfl) (by simp) ?_
  refine AllReadyH.cons (o := { dst := none, op := Op.store 25 (Operand.tmp 5) (Operand.tmp 33), type := 0, pos := "expr.go:148", after := #[{ on := 6, ground := Ground.data }, { on := 5, ground := Ground.data }, { on := 5, ground := Ground.chain }, { on := 0, ground := Ground.phase }, { on := 1, ground := Ground.phase }, { on := 2, ground := Ground.phase }, { on := 3, ground := Ground.phase }, { on := 4, ground := Ground.phase }, { on := 5, ground := Ground.phase }, { on := 6, ground := Ground.phase }], guard := none }) rfl (fun K hK => ?_) AllReadyH.nil
  go_simp
  refine hK.out _ _ (KK.out _ (HJ.out.below ((Below.refl _ _).alloc (Nat.le_refl _) _))) (fun hHeld => ?_)
  clear hK K
  try simp only [Act.put, List.setIfInBounds_toArray, List.set_cons_zero, List.set_cons_succ]
  refine wpAnyH_done (by kernel_rfl) ?_ _
  have J5 := Lib.hid (show JE w #[.slice A N c, .slice A2 N c2] #[.int .i64 e.op, .slice (some ad) e.kids.length d, .string ⟨e.name.toArray⟩, .int .i64 e.val.kind, .int .i64 e.val.int, .bool e.val.bool, .string ⟨e.val.text.toArray⟩, .float .f64 e.val.num] (v5.alloc (.cells #[.int .i64 a.kind, .int .i64 a.int, .bool a.bool, .string ⟨a.text.toArray⟩, .float .f64 a.num] 25)) from HJ.out.below ((Below.refl _ _).alloc (Nat.le_refl _) _))
  have L5 := Lib.hid (show Loc1 v5.heap.size 25 #[.int .i64 a.kind, .int .i64 a.int, .bool a.bool, .string ⟨a.text.toArray⟩, .float .f64 a.num] (v5.alloc (.cells #[.int .i64 a.kind, .int .i64 a.int, .bool a.bool, .string ⟨a.text.toArray⟩, .float .f64 a.num] 25)) from heap_new _ _)
  have T5 := Lib.hid (show Loc1 (w.heap.size + 1 + 1) 25 #[.int .i64 0, .int .i64 0, .bool false, .string ⟨#[]⟩, .float .f64 0] (v5.alloc (.cells #[.int .i64 a.kind, .int .i64 a.int, .bool a.bool, .string ⟨a.text.toArray⟩, .float .f64 a.num] 25)) from (T0.out.below HB.out).below ((Below.refl _ _).alloc (Nat.le_refl _) _))
  have hg5 := HB.out.size
  clear HJ HB hHeld
  generalize (v5.alloc (.cells #[.int .i64 a.kind, .int .i64 a.int, .bool a.bool, .string ⟨a.text.toArray⟩, .float .f64 a.num] 25)) = w5 at *
  generalize v5.heap.size = g5 at *
  rotate_left
  go_simp
  refine hK.out _ _ (KK.out _ (J0.out.below (below_alloc (Below.refl _ _).drew (Nat.le_refl _) _))) (fun hHeld => ?_)
  clear hK K
  try simp only [Act.put, List.setIfInBounds_toArray, List.set_cons_zero, List.set_cons_succ]
  refine wpAnyH_ready (rs := [5]) (by kernel_rfl) (by simp) ?_
  refine AllReadyH.cons (o := { dst := some 33, op := Op.call { callee := Callee.value (Operand.func 37), args := #[Operand.tmp 28, Operand.tmp 32], argTypes := #[74, 27] }, type := 25, pos := "expr.go:148", after := #[{ on := 0, ground := Ground.data }, { on := 4, ground := Ground.data }], guard := none }) rfl (fun K hK => ?_) AllReadyH.nil
  go_simp
  refine (HC.out _ (J0.out.below (below_alloc (Below.refl _ _).drew (Nat.le_refl _) _)).1).mono ?_
  rintro x9 v5 ⟨hret, hb⟩
  have HB := Lib.hid (show Below w0.heap.size w0 v5 from below_self (below_alloc (Below.refl _ _).drew (Nat.le_refl _) _) hb)
  have HJ := Lib.hid (J0.out.below HB.out)
  rcases rx with y | a
  · have hret : x9 = .panicked [{ v := .iface 89 (.int .i64 y), recovered := false }] := hret
    subst hret
    refine ⟨rfl, ?_⟩
    rw [E.out]
    exact ⟨rfl, HJ.out.1⟩
  have hret : x9 = .returned (.agg #[.int .i64 a.kind, .int .i64 a.int, .bool a.bool, .string ⟨a.text.toArray⟩, .float .f64 a.num]) := hret
  subst hret
  refine hK.out _ _ (KK.out _ HJ.out) (fun hHeld => ?_)
  clear hK K
  try simp only [Act.put, List.setIfInBounds_toArray, List.set_cons_zero, List.set_cons_succ]
  have LN := Lib.hid (show Loc1 w0.heap.size 25 #[.int .i64 0, .int .i64 0, .bool false, .string ⟨#[]⟩, .float .f64 0] v5 from Loc1.below (heap_new w0.drew (.cells #[.int .i64 0, .int .i64 0, .bool false, .string ⟨#[]⟩, .float .f64 0] 25)) hb)
  obtain ⟨m0, m1, m2, m3, m4⟩ := cells5 LN.out
  obtain ⟨u0, u1, u2, u3, u4⟩ := frees5 LN.out
  have hzn := lt_of_heap LN.out
  have HLt := Lib.hid (J0.out.lt)
  refine wpAnyH_ready (rs := [7]) (by kernel_rfl) (by simp) ?_
  refine AllReadyH.cons (o := { dst := none, op := Op.store 25 (Operand.tmp 5) (Operand.tmp 33), type := 0, pos := "expr.go:148", after := #[{ on := 6, ground := Ground.data }, { on := 5, ground := Ground.data }, { on := 5, ground := Ground.chain }, { on := 0, ground := Ground.phase }, { on := 1, ground := Ground.phase }, { on := 2, ground := Ground.phase }, { on := 3, ground := Ground.phase }, { on := 4, ground := Ground.phase }, { on := 5, ground := Ground.phase }, { on := 6, ground := Ground.phase }], guard := none }) rfl (fun K hK => ?_) AllReadyH.nil
  go_simp
  refine hK.out _ _ (KK.out _ (HJ.out.set5 HLt.out _ _ _ _ _)) (fun hHeld => ?_)
  clear hK K
  try simp only [Act.put, List.setIfInBounds_toArray, List.set_cons_zero, List.set_cons_succ]
  refine wpAnyH_done (by kernel_rfl) ?_ _
  have J5 := Lib.hid (show JE w #[.slice A N c, .slice A2 N c2] #[.int .i64 e.op, .slice (some ad) e.kids.length d, .string ⟨e.name.toArray⟩, .int .i64 e.val.kind, .int .i64 e.val.int, .bool e.val.bool, .string ⟨e.val.text.toArray⟩, .float .f64 e.val.num] (set5 v5 w0.heap.size (.int .i64 a.kind) (.int .i64 a.int) (.bool a.bool) (.string ⟨a.text.toArray⟩) (.float .f64 a.num)) from HJ.out.set5 HLt.out _ _ _ _ _)
  have L5 := Lib.hid (show Loc1 w0.heap.size 25 #[.int .i64 a.kind, .int .i64 a.int, .bool a.bool, .string ⟨a.text.toArray⟩, .float .f64 a.num] (set5 v5 w0.heap.size (.int .i64 a.kind) (.int .i64 a.int) (.bool a.bool) (.string ⟨a.text.toArray⟩) (.float .f64 a.num)) from set5_heap (.int .i64 a.kind) (.int .i64 a.int) (.bool a.bool) (.string ⟨a.text.toArray⟩) (.float .f64 a.num) LN.out)
  have T5 := Lib.hid (show Loc1 (w.heap.size + 1 + 1) 25 #[.int .i64 0, .int .i64 0, .bool false, .string ⟨#[]⟩, .float .f64 0] (set5 v5 w0.heap.size (.int .i64 a.kind) (.int .i64 a.int) (.bool a.bool) (.string ⟨a.text.toArray⟩) (.float .f64 a.num)) from (T0.out.below HB.out).ext (set5_ext _ _ _ _ _ _ _) (Nat.ne_of_lt (lt_of_heap T0.out)))
  have hg5 : w0.heap.size ≤ w0.heap.size := Nat.le_refl _
  clear m0 m1 m2 m3 m4 u0 u1 u2 u3 u4 hzn HLt LN
  clear HJ HB hHeld
  change Exit.then _ _ _ _ (set5 v5 w0.heap.size (.int .i64 a.kind) (.int .i64 a.int) (.bool a.bool) (.string ⟨a.text.toArray⟩) (.float .f64 a.num))
  generalize (set5 v5 w0.heap.size (.int .i64 a.kind) (.int .i64 a.int) (.bool a.bool) (.string ⟨a.text.toArray⟩) (.float .f64 a.num)) = w5 at *
  obtain ⟨g5, hgg⟩ : ∃ g, g = w0.heap.size := ⟨_, rfl⟩
  rw [← hgg] at L5 ⊢
  replace hg5 : w0.heap.size ≤ g5 := by omega
  clear hgg
  
  all_goals
    replace E := Lib.hid (show r = step1 e.op a (evE fl vs n (e.kids.getD 1 noE)) (evE fl vs n (e.kids.getD 2 noE)) from E.out)
    have e0 := cell_of J5.out.2.2 0
    have e1 := cell_of J5.out.2.2 1
    simp only [List.getElem?_toArray, List.getElem?_cons_zero, List.getElem?_cons_succ] at e0 e1
    obtain ⟨a0, a1, a2, a3, a4⟩ := cells5 L5.out
    have hza := lt_of_heap L5.out
    obtain ⟨m0, m1, m2, m3, m4⟩ := cells5 T5.out
    obtain ⟨u0, u1, u2, u3, u4⟩ := frees5 T5.out
    have hzt := lt_of_heap T5.out
    have h12 : ¬ e.op = 12 := by have h := HOP.out; omega
    have o12 : (e.op == 12) = false := by simpa using h12
    have h3 : ¬ e.op = 3 := by have h := HOP.out; omega
    have o3 : (e.op == 3) = false := by simpa using h3
    have h16 : ¬ e.op = 16 := by have h := HOP.out; omega
    have o16 : (e.op == 16) = false := by simpa using h16
    have h10 : ¬ e.op = 10 := by have h := HOP.out; omega
    have o10 : (e.op == 10) = false := by simpa using h10
    have h11 : ¬ e.op = 11 := by have h := HOP.out; omega
    have o11 : (e.op == 11) = false := by simpa using h11
    have h13 : ¬ e.op = 13 := by have h := HOP.out; omega
    have o13 : (e.op == 13) = false := by simpa using h13
    have h8 : e.op = 8 := HOP.out
    have hA : ¬ (e.op = 10 ∧ a.bool = false) := fun h => h10 h.1
    have hB : ¬ (e.op = 11 ∧ a.bool = true) := fun h => h11 h.1
    have hki : (1 : Int) < (e.kids.length : Int) := by
      have h := HA.out
      unfold ariF at h
      omega
    obtain ⟨ad', y, ky, B2, d2, ead, hx, hk', hs', c0, c1, c2_, c3, c4, c5, c6, c7⟩ := exp_at HS.out (show 1 < e.kids.length by omega)
    injection ead with ead
    subst ead
    rw [show 1 * 8 = 8 from rfl, addn ad 8 (by decide)] at c0 c1 c2_ c3 c4 c5 c6 c7
    dsimp only at c1 c2_ c3 c4 c5 c6 c7
    obtain ⟨kx, hkx⟩ := kE_kid HK.out hx
    have HC := Lib.hid (show ∀ W : World, Below w.heap.size w W → Calls Try.prog 37 #[.agg #[.slice A N c, .slice A2 N c2], .agg #[.int .i64 y.op, .slice B2 y.kids.length d2, .string ⟨y.name.toArray⟩, .int .i64 y.val.kind, .int .i64 y.val.int, .bool y.val.bool, .string ⟨y.val.text.toArray⟩, .float .f64 y.val.num]] W (RetV W (evE fl vs n y)) from
      fun W hW => IH.out W _ y kx (hk' ▸ exp_mk (hs'.below hW)) (HF.out.below hW) (HV.out.below hW) hkx)
    have KK := Lib.hid (show ∀ W : World, JE w #[.slice A N c, .slice A2 N c2] #[.int .i64 e.op, .slice (some ad) e.kids.length d, .string ⟨e.name.toArray⟩, .int .i64 e.val.kind, .int .i64 e.val.int, .bool e.val.bool, .string ⟨e.val.text.toArray⟩, .float .f64 e.val.num] W → W.cell? ⟨w.heap.size, 0, none⟩ = some (.slice A N c) ∧ W.cell? ⟨w.heap.size, 1, none⟩ = some (.slice A2 N c2) ∧ W.cell? ⟨w.heap.size + 1, 1, none⟩ = some (.slice (some ad) e.kids.length d) ∧ W.cell? ⟨ad.block, ad.off + 8, none⟩ = some (.int .i64 y.op) ∧ W.cell? ⟨ad.block, ad.off + 8 + 1, none⟩ = some (.slice B2 y.kids.length d2) ∧ W.cell? ⟨ad.block, ad.off + 8 + 2, none⟩ = some (.string ⟨y.name.toArray⟩) ∧ W.cell? ⟨ad.block, ad.off + 8 + 3, none⟩ = some (.int .i64 y.val.kind) ∧ W.cell? ⟨ad.block, ad.off + 8 + 4, none⟩ = some (.int .i64 y.val.int) ∧ W.cell? ⟨ad.block, ad.off + 8 + 5, none⟩ = some (.bool y.val.bool) ∧ W.cell? ⟨ad.block, ad.off + 8 + 6, none⟩ = some (.string ⟨y.val.text.toArray⟩) ∧ W.cell? ⟨ad.block, ad.off + 8 + 7, none⟩ = some (.float .f64 y.val.num) from
      fun W hW => ⟨cell_of hW.2.1 0, cell_of hW.2.1 1, cell_of hW.2.2 1, keepC c0 hW.1, keepC c1 hW.1, keepC c2_ hW.1, keepC c3 hW.1, keepC c4 hW.1, keepC c5 hW.1, keepC c6 hW.1, keepC c7 hW.1⟩)
    have E1 := Lib.hid (getD_at hx)
    clear c0 c1 c2_ c3 c4 c5 c6 c7 hs' hx hkx
    replace E := Lib.hid (show r = match evE fl vs n y with
      | .error x => .error x
      | .ok b => step2 e.op a b by rw [E.out]; unfold step1; rw [if_neg h12, if_neg h3, if_neg h16, if_neg hA, if_neg hB, if_neg h13, E1.out]; cases evE fl vs n y <;> rfl)
    clear E1
    clear m0 m1 m2 m3 m4 u0 u1 u2 u3 u4 hzt
    go_wp2_with fail
    generalize evE fl vs n y = ry at *
    refine wp_region_held_drew (S := fun W => W.cell? ⟨w.heap.size, 0, none⟩ = some (.slice A N c) ∧ W.cell? ⟨w.heap.size, 1, none⟩ = some (.slice A2 N c2) ∧ W.cell? ⟨w.heap.size + 1, 1, none⟩ = some (.slice (some ad) e.kids.length d) ∧ W.cell? ⟨ad.block, ad.off + 8, none⟩ = some (.int .i64 y.op) ∧ W.cell? ⟨ad.block, ad.off + 8 + 1, none⟩ = some (.slice B2 y.kids.length d2) ∧ W.cell? ⟨ad.block, ad.off + 8 + 2, none⟩ = some (.string ⟨y.name.toArray⟩) ∧ W.cell? ⟨ad.block, ad.off + 8 + 3, none⟩ = some (.int .i64 y.val.kind) ∧ W.cell? ⟨ad.block, ad.off + 8 + 4, none⟩ = some (.int .i64 y.val.int) ∧ W.cell? ⟨ad.block, ad.off + 8 + 5, none⟩ = some (.bool y.val.bool) ∧ W.cell? ⟨ad.block, ad.off + 8 + 6, none⟩ = some (.string ⟨y.val.text.toArray⟩) ∧ W.cell? ⟨ad.block, ad.off + 8 + 7, none⟩ = some (.float .f64 y.val.num)) (by kernel_rfl) (KK.out _ (J5.out.below (Below.refl _ _).drew)) (fun hHeld => ?_)
    refine wpAnyH_take (i := 0) (oi := { dst := some 83, op := Op.load 74 (Operand.tmp 2), type := 74, pos := "expr.go:170", after := #[], guard := none }) (v := .agg #[.slice A N c, .slice A2 N c2]) rfl (by kernel_rfl) (by kernel_rfl) (by kernel_rfl) (fun _ _ _ h => h) (Or.inl ⟨by rfl, by (intro wz hSw; (try dsimp only at hSw); go_simp)⟩) (by assumption) ?_
    try simp only [Act.put, List.setIfInBounds_toArray, List.set_cons_zero, List.set_cons_succ]
    refine wpAnyH_take (i := 1) (oi := { dst := some 84, op := Op.fieldAddr 27 (Operand.tmp 3) 1, type := 0, pos := "expr.go:170", after := #[], guard := none }) (v := .pointer (some ⟨w.heap.size + 1, 1, none⟩)) rfl (by kernel_rfl) (by kernel_rfl) (by kernel_rfl) (fun _ _ _ h => h) (Or.inl ⟨by rfl, by (intro wz hSw; (try dsimp only at hSw); go_simp)⟩) (by assumption) ?_
    try simp only [Act.put, List.setIfInBounds_toArray, List.set_cons_zero, List.set_cons_succ]
    refine wpAnyH_take (i := 2) (oi := { dst := some 85, op := Op.load 22 (Operand.tmp 84), type := 22, pos := "expr.go:170", after := #[{ on := 1, ground := Ground.data }], guard := none }) (v := .slice (some ad) e.kids.length d) rfl (by kernel_rfl) (by kernel_rfl) (by kernel_rfl) (fun _ _ _ h => h) (Or.inl ⟨by rfl, by (intro wz hSw; (try dsimp only at hSw); go_simp)⟩) (by assumption) ?_
    try simp only [Act.put, List.setIfInBounds_toArray, List.set_cons_zero, List.set_cons_succ]
    refine wpAnyH_take (i := 3) (oi := { dst := some 86, op := Op.indexAddr 22 (Operand.tmp 85) (Operand.const (Value.int IntKind.i64 1)), type := 0, pos := "expr.go:170", after := #[{ on := 2, ground := Ground.data }], guard := none }) (v := .pointer (some ⟨ad.block, ad.off + 8, none⟩)) rfl (by kernel_rfl) (by kernel_rfl) (by kernel_rfl) (fun _ _ _ h => h) (Or.inl ⟨by rfl, by (intro wz hSw; (try dsimp only at hSw); go_simp)⟩) (by assumption) ?_
    try simp only [Act.put, List.setIfInBounds_toArray, List.set_cons_zero, List.set_cons_succ]
    refine wpAnyH_take (i := 4) (oi := { dst := some 87, op := Op.load 27 (Operand.tmp 86), type := 27, pos := "expr.go:170", after := #[{ on := 3, ground := Ground.data }], guard := none }) (v := .agg #[.int .i64 y.op, .slice B2 y.kids.length d2, .string ⟨y.name.toArray⟩, .int .i64 y.val.kind, .int .i64 y.val.int, .bool y.val.bool, .string ⟨y.val.text.toArray⟩, .float .f64 y.val.num]) rfl (by kernel_rfl) (by kernel_rfl) (by kernel_rfl) (fun _ _ _ h => h) (Or.inl ⟨by rfl, by (intro wz hSw; (try dsimp only at hSw); go_simp)⟩) (by assumption) ?_
    try simp only [Act.put, List.setIfInBounds_toArray, List.set_cons_zero, List.set_cons_succ]
    refine wpAnyH_ready (rs := [5, 6]) (by kernel_rfl) (by simp) ?_
    refine AllReadyH.cons (o := { dst := some 88, op := Op.call { callee := Callee.value (Operand.func 37), args := #[Operand.tmp 83, Operand.tmp 87], argTypes := #[74, 27] }, type := 25, pos := "expr.go:170", after := #[{ on := 0, ground := Ground.data }, { on := 4, ground := Ground.data }], guard := none }) rfl (fun K hK => ?_) (AllReadyH.cons (o := { dst := some 6, op := Op.alloc 25, type := 0, pos := "expr.go:170", after := #[], guard := none }) rfl (fun K hK => ?_) AllReadyH.nil)
    go_simp
    refine (HC.out _ (J5.out.below ((Below.refl _ _).drew)).1).mono ?_
    rintro x9 v6 ⟨hret, hb⟩
    have HB := Lib.hid (show Below w5.heap.size w5 v6 from below_self ((Below.refl _ _).drew) hb)
    have HJ := Lib.hid (J5.out.below HB.out)
    rcases ry with y | b
    · have hret : x9 = .panicked [{ v := .iface 89 (.int .i64 y), recovered := false }] := hret
      subst hret
      refine ⟨rfl, ?_⟩
      rw [E.out]
      exact ⟨rfl, HJ.out.1⟩
    have hret : x9 = .returned (.agg #[.int .i64 b.kind, .int .i64 b.int, .bool b.bool, .string ⟨b.text.toArray⟩, .float .f64 b.num]) := hret
    subst hret
    refine hK.out _ _ (KK.out _ HJ.out) (fun hHeld => ?_)
    clear hK K
    try simp only [Act.put, List.setIfInBounds_toArray, List.set_cons_zero, List.set_cons_succ]
    refine wpAnyH_ready (rs := [6]) (by kernel_rfl) (by simp) ?_
    refine AllReadyH.cons (o := { dst := some 6, op := Op.alloc 25, type := 0, pos := "expr.go:170", after := #[], guard := none }) rfl (fun K hK => ?_) AllReadyH.nil
    go_simp
    refine hK.out _ _ (KK.out _ (HJ.out.below ((Below.refl _ _).alloc (Nat.le_refl _) _))) (fun hHeld => ?_)
    clear hK K
    try simp only [Act.put, List.setIfInBounds_toArray, List.set_cons_zero, List.set_cons_succ]
    refine wpAnyH_ready (rs := [7]) (by kernel_rfl) (by simp) ?_
    refine AllReadyH.cons (o := { dst := none, op := Op.store 25 (Operand.tmp 6) (Operand.tmp 88), type := 0, pos := "expr.go:170", after := #[{ on := 6, ground := Ground.data }, { on := 5, ground := Ground.data }, { on := 5, ground := Ground.chain }, { on := 0, ground := Ground.phase }, { on := 1, ground := Ground.phase }, { on := 2, ground := Ground.phase }, { on := 3, ground := Ground.phase }, { on := 4, ground := Ground.phase }, { on := 5, ground := Ground.phase }, { on := 6, ground := Ground.phase }], guard := none }) rfl (fun K hK => ?_) AllReadyH.nil
    go_simp
    refine hK.out _ _ (KK.out _ (HJ.out.below ((Below.refl _ _).alloc (Nat.le_refl _) _))) (fun hHeld => ?_)
    clear hK K
    try simp only [Act.put, List.setIfInBounds_toArray, List.set_cons_zero, List.set_cons_succ]
    refine wpAnyH_done (by kernel_rfl) ?_ _
    have J6 := Lib.hid (show JE w #[.slice A N c, .slice A2 N c2] #[.int .i64 e.op, .slice (some ad) e.kids.length d, .string ⟨e.name.toArray⟩, .int .i64 e.val.kind, .int .i64 e.val.int, .bool e.val.bool, .string ⟨e.val.text.toArray⟩, .float .f64 e.val.num] (v6.alloc (.cells #[.int .i64 b.kind, .int .i64 b.int, .bool b.bool, .string ⟨b.text.toArray⟩, .float .f64 b.num] 25)) from HJ.out.below ((Below.refl _ _).alloc (Nat.le_refl _) _))
    have L6 := Lib.hid (show Loc1 v6.heap.size 25 #[.int .i64 b.kind, .int .i64 b.int, .bool b.bool, .string ⟨b.text.toArray⟩, .float .f64 b.num] (v6.alloc (.cells #[.int .i64 b.kind, .int .i64 b.int, .bool b.bool, .string ⟨b.text.toArray⟩, .float .f64 b.num] 25)) from heap_new _ _)
    have T6 := Lib.hid (show Loc1 (w.heap.size + 1 + 1) 25 #[.int .i64 0, .int .i64 0, .bool false, .string ⟨#[]⟩, .float .f64 0] (v6.alloc (.cells #[.int .i64 b.kind, .int .i64 b.int, .bool b.bool, .string ⟨b.text.toArray⟩, .float .f64 b.num] 25)) from (T5.out.below HB.out).below ((Below.refl _ _).alloc (Nat.le_refl _) _))
    have LA := Lib.hid (show Loc1 g5 25 #[.int .i64 a.kind, .int .i64 a.int, .bool a.bool, .string ⟨a.text.toArray⟩, .float .f64 a.num] (v6.alloc (.cells #[.int .i64 b.kind, .int .i64 b.int, .bool b.bool, .string ⟨b.text.toArray⟩, .float .f64 b.num] 25)) from (L5.out.below HB.out).below ((Below.refl _ _).alloc (Nat.le_refl _) _))
    have hg6 := HB.out.size
    clear HJ HB hHeld
    generalize (v6.alloc (.cells #[.int .i64 b.kind, .int .i64 b.int, .bool b.bool, .string ⟨b.text.toArray⟩, .float .f64 b.num] 25)) = w6 at *
    generalize v6.heap.size = g6 at *
    rotate_left
    go_simp
    refine hK.out _ _ (KK.out _ (J5.out.below (below_alloc (Below.refl _ _).drew (Nat.le_refl _) _))) (fun hHeld => ?_)
    clear hK K
    try simp only [Act.put, List.setIfInBounds_toArray, List.set_cons_zero, List.set_cons_succ]
    refine wpAnyH_ready (rs := [5]) (by kernel_rfl) (by simp) ?_
    refine AllReadyH.cons (o := { dst := some 88, op := Op.call { callee := Callee.value (Operand.func 37), args := #[Operand.tmp 83, Operand.tmp 87], argTypes := #[74, 27] }, type := 25, pos := "expr.go:170", after := #[{ on := 0, ground := Ground.data }, { on := 4, ground := Ground.data }], guard := none }) rfl (fun K hK => ?_) AllReadyH.nil
    go_simp
    refine (HC.out _ (J5.out.below (below_alloc (Below.refl _ _).drew (Nat.le_refl _) _)).1).mono ?_
    rintro x9 v6 ⟨hret, hb⟩
    have HB := Lib.hid (show Below w5.heap.size w5 v6 from below_self (below_alloc (Below.refl _ _).drew (Nat.le_refl _) _) hb)
    have HJ := Lib.hid (J5.out.below HB.out)
    rcases ry with y | b
    · have hret : x9 = .panicked [{ v := .iface 89 (.int .i64 y), recovered := false }] := hret
      subst hret
      refine ⟨rfl, ?_⟩
      rw [E.out]
      exact ⟨rfl, HJ.out.1⟩
    have hret : x9 = .returned (.agg #[.int .i64 b.kind, .int .i64 b.int, .bool b.bool, .string ⟨b.text.toArray⟩, .float .f64 b.num]) := hret
    subst hret
    refine hK.out _ _ (KK.out _ HJ.out) (fun hHeld => ?_)
    clear hK K
    try simp only [Act.put, List.setIfInBounds_toArray, List.set_cons_zero, List.set_cons_succ]
    have LN := Lib.hid (show Loc1 w5.heap.size 25 #[.int .i64 0, .int .i64 0, .bool false, .string ⟨#[]⟩, .float .f64 0] v6 from Loc1.below (heap_new w5.drew (.cells #[.int .i64 0, .int .i64 0, .bool false, .string ⟨#[]⟩, .float .f64 0] 25)) hb)
    obtain ⟨m0, m1, m2, m3, m4⟩ := cells5 LN.out
    obtain ⟨u0, u1, u2, u3, u4⟩ := frees5 LN.out
    have hzn := lt_of_heap LN.out
    have HLt := Lib.hid (J5.out.lt)
    refine wpAnyH_ready (rs := [7]) (by kernel_rfl) (by simp) ?_
    refine AllReadyH.cons (o := { dst := none, op := Op.store 25 (Operand.tmp 6) (Operand.tmp 88), type := 0, pos := "expr.go:170", after := #[{ on := 6, ground := Ground.data }, { on := 5, ground := Ground.data }, { on := 5, ground := Ground.chain }, { on := 0, ground := Ground.phase }, { on := 1, ground := Ground.phase }, { on := 2, ground := Ground.phase }, { on := 3, ground := Ground.phase }, { on := 4, ground := Ground.phase }, { on := 5, ground := Ground.phase }, { on := 6, ground := Ground.phase }], guard := none }) rfl (fun K hK => ?_) AllReadyH.nil
    go_simp
    refine hK.out _ _ (KK.out _ (HJ.out.set5 HLt.out _ _ _ _ _)) (fun hHeld => ?_)
    clear hK K
    try simp only [Act.put, List.setIfInBounds_toArray, List.set_cons_zero, List.set_cons_succ]
    refine wpAnyH_done (by kernel_rfl) ?_ _
    have J6 := Lib.hid (show JE w #[.slice A N c, .slice A2 N c2] #[.int .i64 e.op, .slice (some ad) e.kids.length d, .string ⟨e.name.toArray⟩, .int .i64 e.val.kind, .int .i64 e.val.int, .bool e.val.bool, .string ⟨e.val.text.toArray⟩, .float .f64 e.val.num] (set5 v6 w5.heap.size (.int .i64 b.kind) (.int .i64 b.int) (.bool b.bool) (.string ⟨b.text.toArray⟩) (.float .f64 b.num)) from HJ.out.set5 HLt.out _ _ _ _ _)
    have L6 := Lib.hid (show Loc1 w5.heap.size 25 #[.int .i64 b.kind, .int .i64 b.int, .bool b.bool, .string ⟨b.text.toArray⟩, .float .f64 b.num] (set5 v6 w5.heap.size (.int .i64 b.kind) (.int .i64 b.int) (.bool b.bool) (.string ⟨b.text.toArray⟩) (.float .f64 b.num)) from set5_heap (.int .i64 b.kind) (.int .i64 b.int) (.bool b.bool) (.string ⟨b.text.toArray⟩) (.float .f64 b.num) LN.out)
    have T6 := Lib.hid (show Loc1 (w.heap.size + 1 + 1) 25 #[.int .i64 0, .int .i64 0, .bool false, .string ⟨#[]⟩, .float .f64 0] (set5 v6 w5.heap.size (.int .i64 b.kind) (.int .i64 b.int) (.bool b.bool) (.string ⟨b.text.toArray⟩) (.float .f64 b.num)) from (T5.out.below HB.out).ext (set5_ext _ _ _ _ _ _ _) (Nat.ne_of_lt (lt_of_heap T5.out)))
    have LA := Lib.hid (show Loc1 g5 25 #[.int .i64 a.kind, .int .i64 a.int, .bool a.bool, .string ⟨a.text.toArray⟩, .float .f64 a.num] (set5 v6 w5.heap.size (.int .i64 b.kind) (.int .i64 b.int) (.bool b.bool) (.string ⟨b.text.toArray⟩) (.float .f64 b.num)) from (L5.out.below HB.out).ext (set5_ext _ _ _ _ _ _ _) (Nat.ne_of_lt (lt_of_heap L5.out)))
    have hg6 : w5.heap.size ≤ w5.heap.size := Nat.le_refl _
    clear m0 m1 m2 m3 m4 u0 u1 u2 u3 u4 hzn HLt LN
    clear HJ HB hHeld
    change Exit.then _ _ _ _ (set5 v6 w5.heap.size (.int .i64 b.kind) (.int .i64 b.int) (.bool b.bool) (.string ⟨b.text.toArray⟩) (.float .f64 b.num))
    generalize (set5 v6 w5.heap.size (.int .i64 b.kind) (.int .i64 b.int) (.bool b.bool) (.string ⟨b.text.toArray⟩) (.float .f64 b.num)) = w6 at *
    obtain ⟨g6, hgg⟩ : ∃ g, g = w5.heap.size := ⟨_, rfl⟩
    rw [← hgg] at L6 ⊢
    replace hg6 : w5.heap.size ≤ g6 := by omega
    clear hgg
    all_goals
      replace E := Lib.hid (show r = step2 e.op a b from E.out)
      clear e0 e1 a0 a1 a2 a3 a4 hza
      have e0 := cell_of J6.out.2.2 0
      have e1 := cell_of J6.out.2.2 1
      simp only [List.getElem?_toArray, List.getElem?_cons_zero, List.getElem?_cons_succ] at e0 e1
      obtain ⟨a0, a1, a2, a3, a4⟩ := cells5 LA.out
      have hza := lt_of_heap LA.out
      obtain ⟨b0, b1, b2, b3, b4⟩ := cells5 L6.out
      have hzb := lt_of_heap L6.out
      obtain ⟨m0, m1, m2, m3, m4⟩ := cells5 T6.out
      obtain ⟨u0, u1, u2, u3, u4⟩ := frees5 T6.out
      have hzt := lt_of_heap T6.out
      have o8 : (e.op == 8) = true := by simpa using h8
      replace E := Lib.hid (show r = .ok (truthV (equalV a b).1) by rw [E.out]; unfold step2; rw [if_neg (fun h => h.elim h10 h11), if_pos h8])
      go_wp2_with fail
      refine (equal_c a b).mono ?_
      rintro x9 w7 ⟨rfl, hb⟩
      have J7 := Lib.hid (J6.out.below hb)
      have T7 := Lib.hid (T6.out.below hb)
      clear hb
      clear m0 m1 m2 m3 m4 u0 u1 u2 u3 u4 hzt
      obtain ⟨m0, m1, m2, m3, m4⟩ := cells5 T7.out
      obtain ⟨u0, u1, u2, u3, u4⟩ := frees5 T7.out
      have hzt := lt_of_heap T7.out
      generalize equalV a b = rv at *
      obtain ⟨p, pe⟩ := rv
      go_wp2_with fail
      refine (truth_c p).mono ?_
      rintro x9 w8 ⟨rfl, hb⟩
      have J8 := Lib.hid (J7.out.below hb)
      have T8 := Lib.hid (T7.out.below hb)
      clear hb
      clear m0 m1 m2 m3 m4 u0 u1 u2 u3 u4 hzt
      obtain ⟨m0, m1, m2, m3, m4⟩ := cells5 T8.out
      obtain ⟨u0, u1, u2, u3, u4⟩ := frees5 T8.out
      have hzt := lt_of_heap T8.out
      go_wp21
      have KH := set5_heap (.int .i64 2) (.int .i64 0) (.bool p) (.string ⟨#[]⟩) (.float .f64 0) T8.out
      have BH := (J8.out.set5 (b := w.heap.size + 1 + 1) (by omega) (.int .i64 2) (.int .i64 0) (.bool p) (.string ⟨#[]⟩) (.float .f64 0)).1
      obtain ⟨q0, q1, q2, q3, q4⟩ := cells5 KH
      unfold set5 at q0 q1 q2 q3 q4 BH
      rw [E.out]
      exact bodyPost_ret (v := .agg #[.int .i64 2, .int .i64 0, .bool p, .string ⟨#[]⟩, .float .f64 0]) (by simp [results, Try.results37, go_sem, q0, q1, q2, q3, q4]) rfl ⟨rfl, BH⟩
end Go.Proofs.Ytijlamajcdekkaa
