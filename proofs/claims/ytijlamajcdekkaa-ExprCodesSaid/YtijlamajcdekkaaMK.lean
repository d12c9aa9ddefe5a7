/- Texts that go together. -/
import Derived.Test.YtijlamajcdekkaaMJ
/- Bytes put: lists. -/
namespace Go.Proofs.Ytijlamajcdekkaa
open Go.RowKit
set_option linter.unusedVariables false
set_option linter.unusedSimpArgs false
section
variable {w : World}
end
end Go.Proofs.Ytijlamajcdekkaa

/- Bytes put: an expression. -/
namespace Go.Proofs.Ytijlamajcdekkaa
open Go.RowKit
set_option linter.unusedVariables false
set_option linter.unusedSimpArgs false
def bX : Nat → Exp → List UInt8
  | 0, _ => []
  | n + 1, e => bInt e.op ++ (bCount e.kids.length ++ (bBytes e.name ++ (bVal e.val ++ (e.kids.map (bX n)).flatten)))
def ExpW : Nat → Exp → Prop
  | 0, _ => True
  | n + 1, e => i64 e.op ∧ ValW e.val ∧ e.name.length ≤ 4294967295 ∧ e.kids.length ≤ 4294967295 ∧ ∀ k ∈ e.kids, ExpW n k
abbrev PutX (k : Nat) : Prop := ∀ (w : World) (A : Option Addr) (n c : Nat) (xs : List UInt8) (B : Option Addr) (d : Nat) (e : Exp), Sl kU8 (fun _ => True) w (.slice A n c) xs → Sl (kExp k) (fun _ => True) w (.slice B e.kids.length d) e.kids → ExpW (k + 1) e →
  xs.length + (bX (k + 1) e).length ≤ 137438953472 → Calls Try.prog 44 #[.slice A n c, .agg #[.int .i64 e.op, .slice B e.kids.length d, .string ⟨e.name.toArray⟩, .int .i64 e.val.kind, .int .i64 e.val.int, .bool e.val.bool, .string ⟨e.val.text.toArray⟩, .float .f64 e.val.num]] w (RetOwn kU8 5 (fun _ => True) w (xs ++ bX (k + 1) e))
set_option maxRecDepth 20000 in
set_option maxHeartbeats 4000000 in
theorem putX_s {k : Nat} (ih : ∀ k', k = k' + 1 → PutX k') : PutX k := by
  intro w A n c xs B d e h hk he hsz
  have SF := store_f64
  have IH := Lib.hid ih
  have HE := Lib.hid he
  have HSZ := Lib.hid hsz
  have HX := Lib.hid h
  have HKS := Lib.hid hk
  have HN := Lib.hid h.len.1
  have hmax := hk.len.2.2.1
  have hnc := hk.len.2.1
  have hL : Loc1 w.heap.size 27 #[.int .i64 e.op, .slice B e.kids.length d, .string ⟨e.name.toArray⟩, .int .i64 e.val.kind, .int .i64 e.val.int, .bool e.val.bool, .string ⟨e.val.text.toArray⟩, .float .f64 e.val.num] (w.alloc (.cells #[.int .i64 e.op, .slice B e.kids.length d, .string ⟨e.name.toArray⟩, .int .i64 e.val.kind, .int .i64 e.val.int, .bool e.val.bool, .string ⟨e.val.text.toArray⟩, .float .f64 e.val.num] 27)) := Loc1.new _ _ _
  have hb0 : Below w.heap.size w (w.alloc (.cells #[.int .i64 e.op, .slice B e.kids.length d, .string ⟨e.name.toArray⟩, .int .i64 e.val.kind, .int .i64 e.val.int, .bool e.val.bool, .string ⟨e.val.text.toArray⟩, .float .f64 e.val.num] 27)) := bW
  have hnn : n ≤ 137438953472 := by have := h.len.1; omega
  clear h hk he hsz ih
  go_enter Try.func44, Try.ntmps44
  go_upto_region 1 with (fail)
  generalize (w.alloc (.cells #[.int .i64 e.op, .slice B e.kids.length d, .string ⟨e.name.toArray⟩, .int .i64 e.val.kind, .int .i64 e.val.int, .bool e.val.bool, .string ⟨e.val.text.toArray⟩, .float .f64 e.val.num] 27)) = w0 at *
  have HL := Lib.hid hL
  have KS := Lib.hid (show ∀ W : World, Below w0.heap.size w0 W → W.cell? ⟨w.heap.size, 0, none⟩ = some (.int .i64 e.op) ∧ W.cell? ⟨w.heap.size, 1, none⟩ = some (.slice B e.kids.length d) ∧ W.cell? ⟨w.heap.size, 2, none⟩ = some (.string ⟨e.name.toArray⟩) ∧ W.cell? ⟨w.heap.size, 3, none⟩ = some (.int .i64 e.val.kind) ∧ W.cell? ⟨w.heap.size, 4, none⟩ = some (.int .i64 e.val.int) ∧ W.cell? ⟨w.heap.size, 5, none⟩ = some (.bool e.val.bool) ∧ W.cell? ⟨w.heap.size, 6, none⟩ = some (.string ⟨e.val.text.toArray⟩) ∧ W.cell? ⟨w.heap.size, 7, none⟩ = some (.float .f64 e.val.num) from fun W hb => by
    have LX := HL.out.bel hb
    obtain ⟨c0, c1, c2, c3, c4, c5, c6, c7⟩ := cells8 LX
    exact ⟨c0, c1, c2, c3, c4, c5, c6, c7⟩)
  clear hL
  go_cut [0] from 7 to 18 (fun s W => Own kU8 5 (fun _ => True) W w.heap.size s (xs ++ (bInt e.op ++ (bCount e.kids.length ++ bBytes e.name))) ∧ Below w0.heap.size w0 W)
  case first =>
    refine wp_region_held_drew (S := fun W => W.cell? ⟨w.heap.size, 0, none⟩ = some (.int .i64 e.op) ∧ W.cell? ⟨w.heap.size, 1, none⟩ = some (.slice B e.kids.length d) ∧ W.cell? ⟨w.heap.size, 2, none⟩ = some (.string ⟨e.name.toArray⟩) ∧ W.cell? ⟨w.heap.size, 3, none⟩ = some (.int .i64 e.val.kind) ∧ W.cell? ⟨w.heap.size, 4, none⟩ = some (.int .i64 e.val.int) ∧ W.cell? ⟨w.heap.size, 5, none⟩ = some (.bool e.val.bool) ∧ W.cell? ⟨w.heap.size, 6, none⟩ = some (.string ⟨e.val.text.toArray⟩) ∧ W.cell? ⟨w.heap.size, 7, none⟩ = some (.float .f64 e.val.num)) (by kernel_rfl) (KS.out _ bW) (fun hHeld => ?_)
    refine wpAnyH_take (i := 0) (oi := { dst := some 7, op := Op.move (Operand.tmp 0), type := 52, pos := "expr.go:206", after := #[], guard := none }) (v := .slice A n c) rfl (by kernel_rfl) (by kernel_rfl) (by kernel_rfl) (fun _ _ _ h => h) (Or.inl ⟨by rfl, by (intro wz hSw; (try dsimp only at hSw); go_simp)⟩) (by assumption) ?_
    try simp only [Act.put, List.setIfInBounds_toArray, List.set_cons_zero, List.set_cons_succ]
    refine wpAnyH_take (i := 1) (oi := { dst := some 8, op := Op.fieldAddr 27 (Operand.tmp 3) 0, type := 0, pos := "expr.go:206", after := #[], guard := none }) (v := .pointer (some ⟨w.heap.size, 0, none⟩)) rfl (by kernel_rfl) (by kernel_rfl) (by kernel_rfl) (fun _ _ _ h => h) (Or.inl ⟨by rfl, by (intro wz hSw; (try dsimp only at hSw); go_simp)⟩) (by assumption) ?_
    try simp only [Act.put, List.setIfInBounds_toArray, List.set_cons_zero, List.set_cons_succ]
    refine wpAnyH_take (i := 2) (oi := { dst := some 9, op := Op.load 3 (Operand.tmp 8), type := 3, pos := "expr.go:206", after := #[{ on := 1, ground := Ground.data }], guard := none }) (v := .int .i64 e.op) rfl (by kernel_rfl) (by kernel_rfl) (by kernel_rfl) (fun _ _ _ h => h) (Or.inl ⟨by rfl, by (intro wz hSw; (try dsimp only at hSw); go_simp)⟩) (by assumption) ?_
    try simp only [Act.put, List.setIfInBounds_toArray, List.set_cons_zero, List.set_cons_succ]
    refine wpAnyH_take (i := 4) (oi := { dst := some 11, op := Op.fieldAddr 27 (Operand.tmp 3) 1, type := 0, pos := "expr.go:206", after := #[], guard := none }) (v := .pointer (some ⟨w.heap.size, 1, none⟩)) rfl (by kernel_rfl) (by kernel_rfl) (by kernel_rfl) (fun _ _ _ h => h) (Or.inl ⟨by rfl, by (intro wz hSw; (try dsimp only at hSw); go_simp)⟩) (by assumption) ?_
    try simp only [Act.put, List.setIfInBounds_toArray, List.set_cons_zero, List.set_cons_succ]
    refine wpAnyH_take (i := 5) (oi := { dst := some 12, op := Op.load 22 (Operand.tmp 11), type := 22, pos := "expr.go:206", after := #[{ on := 4, ground := Ground.data }], guard := none }) (v := .slice B e.kids.length d) rfl (by kernel_rfl) (by kernel_rfl) (by kernel_rfl) (fun _ _ _ h => h) (Or.inl ⟨by rfl, by (intro wz hSw; (try dsimp only at hSw); go_simp)⟩) (by assumption) ?_
    try simp only [Act.put, List.setIfInBounds_toArray, List.set_cons_zero, List.set_cons_succ]
    refine wpAnyH_take (i := 6) (oi := { dst := some 13, op := Op.call { callee := Callee.builtin Builtin.len, args := #[Operand.tmp 12], argTypes := #[22] }, type := 3, pos := "expr.go:206", after := #[{ on := 5, ground := Ground.data }], guard := none }) (v := .int .i64 e.kids.length) rfl (by kernel_rfl) (by kernel_rfl) (by kernel_rfl) (fun _ _ _ h => h) (Or.inl ⟨by rfl, by (intro wz hSw; (try dsimp only at hSw); go_simp)⟩) (by assumption) ?_
    try simp only [Act.put, List.setIfInBounds_toArray, List.set_cons_zero, List.set_cons_succ]
    refine wpAnyH_take (i := 8) (oi := { dst := some 15, op := Op.fieldAddr 27 (Operand.tmp 3) 2, type := 0, pos := "expr.go:206", after := #[], guard := none }) (v := .pointer (some ⟨w.heap.size, 2, none⟩)) rfl (by kernel_rfl) (by kernel_rfl) (by kernel_rfl) (fun _ _ _ h => h) (Or.inl ⟨by rfl, by (intro wz hSw; (try dsimp only at hSw); go_simp)⟩) (by assumption) ?_
    try simp only [Act.put, List.setIfInBounds_toArray, List.set_cons_zero, List.set_cons_succ]
    refine wpAnyH_take (i := 9) (oi := { dst := some 16, op := Op.load 9 (Operand.tmp 15), type := 9, pos := "expr.go:206", after := #[{ on := 8, ground := Ground.data }], guard := none }) (v := .string ⟨e.name.toArray⟩) rfl (by kernel_rfl) (by kernel_rfl) (by kernel_rfl) (fun _ _ _ h => h) (Or.inl ⟨by rfl, by (intro wz hSw; (try dsimp only at hSw); go_simp)⟩) (by assumption) ?_
    try simp only [Act.put, List.setIfInBounds_toArray, List.set_cons_zero, List.set_cons_succ]
    refine wpAnyH_ready (rs := [3, 10]) (by kernel_rfl) (by simp) ?_
    refine (AllReadyH.cons (o := { dst := some 10, op := Op.call { callee := Callee.value (Operand.func 71), args := #[Operand.tmp 7, Operand.tmp 9], argTypes := #[52, 2] }, type := 52, pos := "expr.go:206", after := #[{ on := 0, ground := Ground.data }, { on := 2, ground := Ground.data }], guard := none }) rfl (fun K hK => ?_) (AllReadyH.cons (o := { dst := some 17, op := Op.convert 9 52 (Operand.tmp 16), type := 52, pos := "expr.go:206", after := #[{ on := 9, ground := Ground.data }], guard := none }) rfl (fun K hK => ?_) AllReadyH.nil))
    · go_simp
      refine (putInt_c (HX.out.below bW) e.op HE.out.1.1 HE.out.1.2 (by omega)).mono ?_
      rintro x9 w6 ⟨v6, rfl, ho6, hb6⟩
      obtain ⟨A6, n6, cc6, rfl, hn6⟩ := ho6.form'
      replace hn6 : n6 ≤ 137438953480 := by rw [hn6, List.length_append, bInt_len, HN.out]; omega
      refine hK.out _ _ (KS.out _ bW) (fun hHeld => ?_)
      clear hK K
      try simp only [Act.put, List.setIfInBounds_toArray, List.set_cons_zero, List.set_cons_succ]
      refine wpAnyH_ready (rs := [7, 10]) (by kernel_rfl) (by simp) ?_
      refine (AllReadyH.cons (o := { dst := some 14, op := Op.call { callee := Callee.value (Operand.func 70), args := #[Operand.tmp 10, Operand.tmp 13], argTypes := #[52, 3] }, type := 52, pos := "expr.go:206", after := #[{ on := 3, ground := Ground.data }, { on := 6, ground := Ground.data }, { on := 3, ground := Ground.chain }], guard := none }) rfl (fun K hK => ?_) (AllReadyH.cons (o := { dst := some 17, op := Op.convert 9 52 (Operand.tmp 16), type := 52, pos := "expr.go:206", after := #[{ on := 9, ground := Ground.data }], guard := none }) rfl (fun K hK => ?_) AllReadyH.nil))
      · go_simp
        refine (putCount_c (ho6.read.below bW) e.kids.length HE.out.2.2.2.1 (by omega)).mono ?_
        rintro x9 w7 ⟨v7, rfl, ho7, hb7⟩
        obtain ⟨A7, n7, cc7, rfl, hn7⟩ := ho7.form'
        replace hn7 : n7 ≤ 137438953484 := by rw [hn7, List.length_append, List.length_append, bInt_len, bCount_len, HN.out]; omega
        refine hK.out _ _ (KS.out _ bW) (fun hHeld => ?_)
        clear hK K
        try simp only [Act.put, List.setIfInBounds_toArray, List.set_cons_zero, List.set_cons_succ]
        refine wpAnyH_ready (rs := [10]) (by kernel_rfl) (by simp) ?_
        refine (AllReadyH.cons (o := { dst := some 17, op := Op.convert 9 52 (Operand.tmp 16), type := 52, pos := "expr.go:206", after := #[{ on := 9, ground := Ground.data }], guard := none }) rfl (fun K hK => ?_) AllReadyH.nil)
        obtain ⟨A5, c5, w5, hcv, hs5, hb5⟩ := conv_sb (P := Try.prog) (ok := fun _ => True) w7 9 52 5 e.name Try.underlying9 Try.underlying52 Try.underlying5 (fun _ _ => trivial) (by have := HE.out.2.2.1; omega)
        go_simp
        refine hK.out _ _ (KS.out _ bW) (fun hHeld => ?_)
        clear hK K
        try simp only [Act.put, List.setIfInBounds_toArray, List.set_cons_zero, List.set_cons_succ]
        refine wpAnyH_ready (rs := [11]) (by kernel_rfl) (by simp) ?_
        refine (AllReadyH.cons (o := { dst := some 18, op := Op.call { callee := Callee.value (Operand.func 69), args := #[Operand.tmp 14, Operand.tmp 17], argTypes := #[52, 52] }, type := 52, pos := "expr.go:206", after := #[{ on := 7, ground := Ground.data }, { on := 10, ground := Ground.data }, { on := 7, ground := Ground.chain }], guard := none }) rfl (fun K hK => ?_) AllReadyH.nil)
        go_simp
        refine (putBytes_c (ho7.read.below bW) (hs5.below bW) (by omega) HE.out.2.2.1).mono ?_
        rintro x9 w8 ⟨v8, rfl, ho8, hb8⟩
        refine hK.out _ _ (KS.out _ bW) (fun hHeld => ?_)
        clear hK K
        try simp only [Act.put, List.setIfInBounds_toArray, List.set_cons_zero, List.set_cons_succ]
        refine wpAnyH_take (i := 12) (oi := { dst := some 0, op := Op.assign (Operand.tmp 18), type := 52, pos := "expr.go:206", after := #[{ on := 11, ground := Ground.data }, { on := 11, ground := Ground.chain }, { on := 0, ground := Ground.phase }, { on := 1, ground := Ground.phase }, { on := 2, ground := Ground.phase }, { on := 3, ground := Ground.phase }, { on := 4, ground := Ground.phase }, { on := 5, ground := Ground.phase }, { on := 6, ground := Ground.phase }, { on := 7, ground := Ground.phase }, { on := 8, ground := Ground.phase }, { on := 9, ground := Ground.phase }, { on := 10, ground := Ground.phase }, { on := 11, ground := Ground.phase }], guard := none }) (v := v8) rfl (by kernel_rfl) (by kernel_rfl) (by kernel_rfl) (fun _ _ _ h => h) (Or.inl ⟨by rfl, by (intro wz hSw; (try dsimp only at hSw); go_simp)⟩) (by assumption) ?_
        try simp only [Act.put, List.setIfInBounds_toArray, List.set_cons_zero, List.set_cons_succ]
        refine wpAnyH_done (by kernel_rfl) ?_ _
        simp only [Exit.then]
        apply_assumption
        go_meet
        case rel => exact ⟨by rw [List.append_assoc, List.append_assoc] at ho8; exact ho8.lower (by first | exact (show Below w.heap.size w w7 from bW).size | exact (show Below w.heap.size w w5 from bW).size), bW⟩
      · obtain ⟨A5, c5, w5, hcv, hs5, hb5⟩ := conv_sb (P := Try.prog) (ok := fun _ => True) w6 9 52 5 e.name Try.underlying9 Try.underlying52 Try.underlying5 (fun _ _ => trivial) (by have := HE.out.2.2.1; omega)
        go_simp
        refine hK.out _ _ (KS.out _ bW) (fun hHeld => ?_)
        clear hK K
        try simp only [Act.put, List.setIfInBounds_toArray, List.set_cons_zero, List.set_cons_succ]
        refine wpAnyH_ready (rs := [7]) (by kernel_rfl) (by simp) ?_
        refine (AllReadyH.cons (o := { dst := some 14, op := Op.call { callee := Callee.value (Operand.func 70), args := #[Operand.tmp 10, Operand.tmp 13], argTypes := #[52, 3] }, type := 52, pos := "expr.go:206", after := #[{ on := 3, ground := Ground.data }, { on := 6, ground := Ground.data }, { on := 3, ground := Ground.chain }], guard := none }) rfl (fun K hK => ?_) AllReadyH.nil)
        go_simp
        refine (putCount_c (ho6.read.below bW) e.kids.length HE.out.2.2.2.1 (by omega)).mono ?_
        rintro x9 w7 ⟨v7, rfl, ho7, hb7⟩
        obtain ⟨A7, n7, cc7, rfl, hn7⟩ := ho7.form'
        replace hn7 : n7 ≤ 137438953484 := by rw [hn7, List.length_append, List.length_append, bInt_len, bCount_len, HN.out]; omega
        refine hK.out _ _ (KS.out _ bW) (fun hHeld => ?_)
        clear hK K
        try simp only [Act.put, List.setIfInBounds_toArray, List.set_cons_zero, List.set_cons_succ]
        refine wpAnyH_ready (rs := [11]) (by kernel_rfl) (by simp) ?_
        refine (AllReadyH.cons (o := { dst := some 18, op := Op.call { callee := Callee.value (Operand.func 69), args := #[Operand.tmp 14, Operand.tmp 17], argTypes := #[52, 52] }, type := 52, pos := "expr.go:206", after := #[{ on := 7, ground := Ground.data }, { on := 10, ground := Ground.data }, { on := 7, ground := Ground.chain }], guard := none }) rfl (fun K hK => ?_) AllReadyH.nil)
        go_simp
        refine (putBytes_c (ho7.read.below bW) (hs5.below bW) (by omega) HE.out.2.2.1).mono ?_
        rintro x9 w8 ⟨v8, rfl, ho8, hb8⟩
        refine hK.out _ _ (KS.out _ bW) (fun hHeld => ?_)
        clear hK K
        try simp only [Act.put, List.setIfInBounds_toArray, List.set_cons_zero, List.set_cons_succ]
        refine wpAnyH_take (i := 12) (oi := { dst := some 0, op := Op.assign (Operand.tmp 18), type := 52, pos := "expr.go:206", after := #[{ on := 11, ground := Ground.data }, { on := 11, ground := Ground.chain }, { on := 0, ground := Ground.phase }, { on := 1, ground := Ground.phase }, { on := 2, ground := Ground.phase }, { on := 3, ground := Ground.phase }, { on := 4, ground := Ground.phase }, { on := 5, ground := Ground.phase }, { on := 6, ground := Ground.phase }, { on := 7, ground := Ground.phase }, { on := 8, ground := Ground.phase }, { on := 9, ground := Ground.phase }, { on := 10, ground := Ground.phase }, { on := 11, ground := Ground.phase }], guard := none }) (v := v8) rfl (by kernel_rfl) (by kernel_rfl) (by kernel_rfl) (fun _ _ _ h => h) (Or.inl ⟨by rfl, by (intro wz hSw; (try dsimp only at hSw); go_simp)⟩) (by assumption) ?_
        try simp only [Act.put, List.setIfInBounds_toArray, List.set_cons_zero, List.set_cons_succ]
        refine wpAnyH_done (by kernel_rfl) ?_ _
        simp only [Exit.then]
        apply_assumption
        go_meet
        case rel => exact ⟨by rw [List.append_assoc, List.append_assoc] at ho8; exact ho8.lower (by first | exact (show Below w.heap.size w w7 from bW).size | exact (show Below w.heap.size w w5 from bW).size), bW⟩
    · obtain ⟨A5, c5, w5, hcv, hs5, hb5⟩ := conv_sb (P := Try.prog) (ok := fun _ => True) w0.drew 9 52 5 e.name Try.underlying9 Try.underlying52 Try.underlying5 (fun _ _ => trivial) (by have := HE.out.2.2.1; omega)
      go_simp
      refine hK.out _ _ (KS.out _ bW) (fun hHeld => ?_)
      clear hK K
      try simp only [Act.put, List.setIfInBounds_toArray, List.set_cons_zero, List.set_cons_succ]
      refine wpAnyH_ready (rs := [3]) (by kernel_rfl) (by simp) ?_
      refine (AllReadyH.cons (o := { dst := some 10, op := Op.call { callee := Callee.value (Operand.func 71), args := #[Operand.tmp 7, Operand.tmp 9], argTypes := #[52, 2] }, type := 52, pos := "expr.go:206", after := #[{ on := 0, ground := Ground.data }, { on := 2, ground := Ground.data }], guard := none }) rfl (fun K hK => ?_) AllReadyH.nil)
      go_simp
      refine (putInt_c (HX.out.below bW) e.op HE.out.1.1 HE.out.1.2 (by omega)).mono ?_
      rintro x9 w6 ⟨v6, rfl, ho6, hb6⟩
      obtain ⟨A6, n6, cc6, rfl, hn6⟩ := ho6.form'
      replace hn6 : n6 ≤ 137438953480 := by rw [hn6, List.length_append, bInt_len, HN.out]; omega
      refine hK.out _ _ (KS.out _ bW) (fun hHeld => ?_)
      clear hK K
      try simp only [Act.put, List.setIfInBounds_toArray, List.set_cons_zero, List.set_cons_succ]
      refine wpAnyH_ready (rs := [7]) (by kernel_rfl) (by simp) ?_
      refine (AllReadyH.cons (o := { dst := some 14, op := Op.call { callee := Callee.value (Operand.func 70), args := #[Operand.tmp 10, Operand.tmp 13], argTypes := #[52, 3] }, type := 52, pos := "expr.go:206", after := #[{ on := 3, ground := Ground.data }, { on := 6, ground := Ground.data }, { on := 3, ground := Ground.chain }], guard := none }) rfl (fun K hK => ?_) AllReadyH.nil)
      go_simp
      refine (putCount_c (ho6.read.below bW) e.kids.length HE.out.2.2.2.1 (by omega)).mono ?_
      rintro x9 w7 ⟨v7, rfl, ho7, hb7⟩
      obtain ⟨A7, n7, cc7, rfl, hn7⟩ := ho7.form'
      replace hn7 : n7 ≤ 137438953484 := by rw [hn7, List.length_append, List.length_append, bInt_len, bCount_len, HN.out]; omega
      refine hK.out _ _ (KS.out _ bW) (fun hHeld => ?_)
      clear hK K
      try simp only [Act.put, List.setIfInBounds_toArray, List.set_cons_zero, List.set_cons_succ]
      refine wpAnyH_ready (rs := [11]) (by kernel_rfl) (by simp) ?_
      refine (AllReadyH.cons (o := { dst := some 18, op := Op.call { callee := Callee.value (Operand.func 69), args := #[Operand.tmp 14, Operand.tmp 17], argTypes := #[52, 52] }, type := 52, pos := "expr.go:206", after := #[{ on := 7, ground := Ground.data }, { on := 10, ground := Ground.data }, { on := 7, ground := Ground.chain }], guard := none }) rfl (fun K hK => ?_) AllReadyH.nil)
      go_simp
      refine (putBytes_c (ho7.read.below bW) (hs5.below bW) (by omega) HE.out.2.2.1).mono ?_
      rintro x9 w8 ⟨v8, rfl, ho8, hb8⟩
      refine hK.out _ _ (KS.out _ bW) (fun hHeld => ?_)
      clear hK K
      try simp only [Act.put, List.setIfInBounds_toArray, List.set_cons_zero, List.set_cons_succ]
      refine wpAnyH_take (i := 12) (oi := { dst := some 0, op := Op.assign (Operand.tmp 18), type := 52, pos := "expr.go:206", after := #[{ on := 11, ground := Ground.data }, { on := 11, ground := Ground.chain }, { on := 0, ground := Ground.phase }, { on := 1, ground := Ground.phase }, { on := 2, ground := Ground.phase }, { on := 3, ground := Ground.phase }, { on := 4, ground := Ground.phase }, { on := 5, ground := Ground.phase }, { on := 6, ground := Ground.phase }, { on := 7, ground := Ground.phase }, { on := 8, ground := Ground.phase }, { on := 9, ground := Ground.phase }, { on := 10, ground := Ground.phase }, { on := 11, ground := Ground.phase }], guard := none }) (v := v8) rfl (by kernel_rfl) (by kernel_rfl) (by kernel_rfl) (fun _ _ _ h => h) (Or.inl ⟨by rfl, by (intro wz hSw; (try dsimp only at hSw); go_simp)⟩) (by assumption) ?_
      try simp only [Act.put, List.setIfInBounds_toArray, List.set_cons_zero, List.set_cons_succ]
      refine wpAnyH_done (by kernel_rfl) ?_ _
      simp only [Exit.then]
      apply_assumption
      go_meet
      case rel => exact ⟨by rw [List.append_assoc, List.append_assoc] at ho8; exact ho8.lower (by first | exact (show Below w.heap.size w w7 from bW).size | exact (show Below w.heap.size w w5 from bW).size), bW⟩
  case rest =>
  obtain ⟨ho1, hb1⟩ := hcut
  generalize hw1 : wc = w1 at *
  clear hw1
  obtain ⟨A1, n1, cc1, rfl, hn1⟩ := ho1.form'
  have EX := Lib.hid (show bX (k + 1) e = bInt e.op ++ (bCount e.kids.length ++ (bBytes e.name ++ (bVal e.val ++ (e.kids.map (bX k)).flatten))) from rfl)
  have hn2 : n1 ≤ 137438953472 := by
    have h1 := HSZ.out
    rw [EX.out] at h1
    rw [hn1]
    simp only [List.length_append] at h1 ⊢
    omega
  have HO1 := Lib.hid ho1
  clear ho1 hn1
  have LX := HL.out.bel hb1
  obtain ⟨c0, c1, c2, c3, c4, c5, c6, c7⟩ := cells8 LX
  have hz := lt_of_heap LX
  go_wp2_with fail
  refine (putV_c HO1.out.read e.val HE.out.2.1 (by omega)).mono ?_
  rintro x9 w2 ⟨v2, rfl, ho2, hb2⟩
  have HO2 := Lib.hid (show Own kU8 5 (fun _ => True) w2 w.heap.size v2 (xs ++ (bInt e.op ++ (bCount e.kids.length ++ (bBytes e.name ++ bVal e.val)))) by
    have h1 := ho2.lower (show w.heap.size ≤ w1.heap.size from (show Below w.heap.size w w1 from bW).size)
    rwa [List.append_assoc, List.append_assoc, List.append_assoc] at h1)
  clear ho2 HO1 c0 c1 c2 c3 c4 c5 c6 c7 hz LX
  have LX := HL.out.bel (show Below w0.heap.size w0 w2 from bW)
  obtain ⟨c0, c1, c2, c3, c4, c5, c6, c7⟩ := cells8 LX
  have hz := lt_of_heap LX
  go_wp2_with fail
  go_loopw [26, 0] (fun v26 v0 wr => ∃ i : Nat, i ≤ e.kids.length ∧ v26 = .int .i64 i ∧ Own kU8 5 (fun _ => True) wr w.heap.size v0 (xs ++ (bInt e.op ++ (bCount e.kids.length ++ (bBytes e.name ++ (bVal e.val ++ ((e.kids.take i).map (bX k)).flatten))))) ∧ Below w0.heap.size w0 wr) (fun v26 _ _ => e.kids.length - (intOf v26).toNat)
  case atStart => exact ⟨0, Nat.zero_le _, rfl, by rw [show ((e.kids.take 0).map (bX k)).flatten = [] from rfl, List.append_nil]; exact HO2.out, bW⟩
  case round =>
    clear c0 c1 c2 c3 c4 c5 c6 c7 hz LX
    obtain ⟨i, hi, rfl, ho, hb⟩ := hrel
    obtain ⟨A6, n6, cc, rfl, hn6⟩ := ho.form'
    have HO := Lib.hid ho
    clear ho hn6
    by_cases hlt : i < e.kids.length
    · obtain ⟨ad, x, k', D, u, rfl, hx, hk', hs, c0, c1, c2, c3, c4, c5, c6, c7⟩ := exp_at (HKS.out.below (show Below w.heap.size w wr from bW)) hlt
      have HXE := Lib.hid hx
      have HTK := Lib.hid (show e.kids.take (i + 1) = e.kids.take i ++ [x] by rw [List.take_add_one, hx]; rfl)
      have HLE := Lib.hid (show (xs ++ (bInt e.op ++ (bCount e.kids.length ++ (bBytes e.name ++ (bVal e.val ++ ((e.kids.take i).map (bX k)).flatten))))).length + (bX k x).length ≤ 137438953472 by
        have h1 : ((e.kids.take (i + 1)).map (bX k)).flatten.length ≤ ((e.kids.map (bX k)).flatten).length := by
          conv => rhs; rw [← List.take_append_drop (i + 1) e.kids]
          rw [List.map_append, List.flatten_append, List.length_append]; omega
        rw [HTK.out, List.map_append, List.flatten_append, List.length_append] at h1
        have h2 : ([x].map (bX k)).flatten = bX k x := by simp
        rw [h2] at h1
        have h3 := HSZ.out
        rw [EX.out] at h3
        simp only [List.length_append] at h3 ⊢
        omega)
      subst hk'
      clear hx
      go_upto_region 6 with (fail)
      have LK : Loc1 wr.heap.size 27 #[.int .i64 x.op, .slice D x.kids.length u, .string ⟨x.name.toArray⟩, .int .i64 x.val.kind, .int .i64 x.val.int, .bool x.val.bool, .string ⟨x.val.text.toArray⟩, .float .f64 x.val.num] (wr.alloc (.cells #[.int .i64 x.op, .slice D x.kids.length u, .string ⟨x.name.toArray⟩, .int .i64 x.val.kind, .int .i64 x.val.int, .bool x.val.bool, .string ⟨x.val.text.toArray⟩, .float .f64 x.val.num] 27)) := Loc1.new _ _ _
      have hbk : Below wr.heap.size wr (wr.alloc (.cells #[.int .i64 x.op, .slice D x.kids.length u, .string ⟨x.name.toArray⟩, .int .i64 x.val.kind, .int .i64 x.val.int, .bool x.val.bool, .string ⟨x.val.text.toArray⟩, .float .f64 x.val.num] 27)) := bW
      have HO5 := Lib.hid (HO.out.below hbk)
      have HS5 := Lib.hid (hs.below hbk)
      generalize (wr.alloc (.cells #[.int .i64 x.op, .slice D x.kids.length u, .string ⟨x.name.toArray⟩, .int .i64 x.val.kind, .int .i64 x.val.int, .bool x.val.bool, .string ⟨x.val.text.toArray⟩, .float .f64 x.val.num] 27)) = w5 at *
      clear c0 c1 c2 c3 c4 c5 c6 c7 HO hs
      obtain ⟨c0, c1, c2, c3, c4, c5, c6, c7⟩ := cells8 LK
      have hz := lt_of_heap LK
      go_wp2_with fail
      refine (IH.out k' rfl w5 A6 n6 cc _ D u x HO5.out.read HS5.out (HE.out.2.2.2.2 x (List.mem_of_getElem? HXE.out)) HLE.out).mono ?_
      rintro x9 w6 ⟨v6, rfl, ho6, hb6⟩
      have HO6 := Lib.hid (show Own kU8 5 (fun _ => True) w6 w.heap.size v6 (xs ++ (bInt e.op ++ (bCount e.kids.length ++ (bBytes e.name ++ (bVal e.val ++ ((e.kids.take (i + 1)).map (bX (k' + 1))).flatten))))) by
        rw [HTK.out, List.map_append, List.flatten_append]
        have h2 : ([x].map (bX (k' + 1))).flatten = bX (k' + 1) x := by simp
        rw [h2]
        have h3 := ho6.lower (show w.heap.size ≤ w5.heap.size from (show Below w.heap.size w w5 from bW).size)
        simpa only [List.append_assoc] using h3)
      clear ho6 c0 c1 c2 c3 c4 c5 c6 c7 hz
      go_wp2_with fail
      go_roundw
      case rel => exact ⟨i + 1, by omega, by go_num, HO6.out, bW⟩
      case measure => simp [intOf]; omega
    · have HO3 := Lib.hid (show Own kU8 5 (fun _ => True) wr w.heap.size (.slice A6 n6 cc) (xs ++ bX (k + 1) e) by
        have h1 := HO.out
        rw [List.take_of_length_le (by omega)] at h1
        exact h1)
      go_wp2_with fail
      go_ret
      exact ⟨_, rfl, HO3.out, bW⟩
theorem putX_c : ∀ k, PutX k
  | 0 => putX_s fun k' h => by omega
  | k + 1 => putX_s fun k' h => by
    have : k' = k := by omega
    subst this
    exact putX_c k'
end Go.Proofs.Ytijlamajcdekkaa

/- Bytes put: expr.Put. -/
namespace Go.Proofs.Ytijlamajcdekkaa
open Go.RowKit
set_option linter.unusedVariables false
set_option linter.unusedSimpArgs false
section
variable {w : World}
def bE (k : Nat) (e : Exp) : List UInt8 := if small e then bX (k + 1) e else []
theorem putE_c {k : Nat} {A : Option Addr} {n c : Nat} {xs : List UInt8} {B : Option Addr} {d : Nat} (e : Exp) (h : Sl kU8 (fun _ => True) w (.slice A n c) xs) (hk : Sl (kExp k) (fun _ => True) w (.slice B e.kids.length d) e.kids)
    (he : small e = true → ExpW (k + 1) e) (hsz : xs.length + (bE k e).length ≤ 137438953472) : Calls Try.prog 25 #[.slice A n c, .agg #[.int .i64 e.op, .slice B e.kids.length d, .string ⟨e.name.toArray⟩, .int .i64 e.val.kind, .int .i64 e.val.int, .bool e.val.bool, .string ⟨e.val.text.toArray⟩, .float .f64 e.val.num]] w (RetOwn kU8 5 (fun _ => True) w (xs ++ bE k e)) := by
  have SF := store_f64
  have HE := Lib.hid he
  have HSZ := Lib.hid hsz
  have HKS := Lib.hid hk
  have HN := Lib.hid h.len.1
  have hmax := hk.len.2.2.1
  have hnc := hk.len.2.1
  have hL : Loc1 w.heap.size 27 #[.int .i64 e.op, .slice B e.kids.length d, .string ⟨e.name.toArray⟩, .int .i64 e.val.kind, .int .i64 e.val.int, .bool e.val.bool, .string ⟨e.val.text.toArray⟩, .float .f64 e.val.num] (w.alloc (.cells #[.int .i64 e.op, .slice B e.kids.length d, .string ⟨e.name.toArray⟩, .int .i64 e.val.kind, .int .i64 e.val.int, .bool e.val.bool, .string ⟨e.val.text.toArray⟩, .float .f64 e.val.num] 27)) := Loc1.new _ _ _
  have hb0 : Below w.heap.size w (w.alloc (.cells #[.int .i64 e.op, .slice B e.kids.length d, .string ⟨e.name.toArray⟩, .int .i64 e.val.kind, .int .i64 e.val.int, .bool e.val.bool, .string ⟨e.val.text.toArray⟩, .float .f64 e.val.num] 27)) := bW
  have hnn : n ≤ 137438953472 := by have := h.len.1; omega
  have HC := Lib.hid (clone_u8 (h.below hb0) (by omega))
  have HL := Lib.hid hL
  have EB := Lib.hid (show bE k e = if small e then bX (k + 1) e else [] from rfl)
  clear h hk he hsz
  go_enter Try.func25, Try.ntmps25
  go_upto_region 1 with (fail)
  generalize (w.alloc (.cells #[.int .i64 e.op, .slice B e.kids.length d, .string ⟨e.name.toArray⟩, .int .i64 e.val.kind, .int .i64 e.val.int, .bool e.val.bool, .string ⟨e.val.text.toArray⟩, .float .f64 e.val.num] 27)) = w0 at *
  clear hL
  go_wp2_with fail
  refine HC.out.mono ?_
  rintro x9 w1 ⟨v1, rfl, ho1, hb1⟩
  have HO1 := Lib.hid ho1
  clear ho1 HC
  have LX := HL.out.bel hb1
  obtain ⟨c0, c1, c2, c3, c4, c5, c6, c7⟩ := cells8 LX
  have hz := lt_of_heap LX
  go_wp2_with fail
  refine (small_c (exp_mk (HKS.out.below (show Below w.heap.size w w1 from bW)))).mono ?_
  rintro x9 w2 ⟨rfl, hb2⟩
  have HO2 := Lib.hid ((show Own kU8 5 (fun _ => True) w1 w.heap.size v1 xs from HO1.out.lower (show Below w.heap.size w w0 from bW).size).below hb2)
  clear c0 c1 c2 c3 c4 c5 c6 c7 hz LX HO1
  have LX := HL.out.bel (show Below w0.heap.size w0 w2 from bW)
  obtain ⟨c0, c1, c2, c3, c4, c5, c6, c7⟩ := cells8 LX
  have hz := lt_of_heap LX
  cases hs : small e
  · have E1 := Lib.hid (show bE k e = [] by rw [EB.out, hs]; rfl)
    clear hs
    go_wp2_with fail
    go_ret
    rw [E1.out, List.append_nil]
    exact ⟨_, rfl, HO2.out, bW⟩
  · have E1 := Lib.hid (show bE k e = bX (k + 1) e by rw [EB.out, hs]; rfl)
    have HW := Lib.hid (HE.out hs)
    obtain ⟨A2, n2, c2, rfl, -⟩ := HO2.out.form'
    clear hs
    go_wp2_with fail
    refine (putX_c k w2 A2 n2 c2 xs B d e HO2.out.read (HKS.out.below (show Below w.heap.size w w2 from bW)) HW.out (by have := HSZ.out; rwa [E1.out] at this)).mono ?_
    rintro x9 w3 ⟨v3, rfl, ho3, hb3⟩
    have HO3 := Lib.hid (ho3.lower (show Below w.heap.size w w2 from bW).size)
    clear ho3
    go_wp2_with fail
    go_ret
    rw [E1.out]
    exact ⟨_, rfl, HO3.out, bW⟩
end
end Go.Proofs.Ytijlamajcdekkaa
