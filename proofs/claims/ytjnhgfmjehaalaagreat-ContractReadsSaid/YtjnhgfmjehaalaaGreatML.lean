/- Texts that go together. -/
import Derived.Test.YtjnhgfmjehaalaaGreatMK
import Derived.Test.YtjnhgfmjehaalaaGreatRL
/- Bytes put: the closures of contract.Put. -/
namespace Go.Proofs.YtjnhgfmjehaalaaGreat
open Go.RowKit
set_option linter.unusedVariables false
set_option linter.unusedSimpArgs false
def bEff (k : Nat) (x : Eff) : List UInt8 := bBytes x.field ++ bE k x.expr
structure EffW (k : Nat) (x : Eff) : Prop where
 field : x.field.length ≤ 4294967295
 expr : small x.expr = true → ExpW (k + 1) x.expr
def bFld (f : Fld) : List UInt8 := bBytes f.name ++ (bInt f.kind ++ ((bCount f.enum.length ++ (f.enum.map bBytes).flatten) ++ bVal f.init))
structure FldW (f : Fld) : Prop where
 name : f.name.length ≤ 4294967295
 kind : i64 f.kind
 few : f.enum.length ≤ 4294967295
 enum : ∀ s ∈ f.enum, s.length ≤ 4294967295
 init : ValW f.init
def bStg (s : Stg) : List UInt8 := bBytes s.name ++ (bInt s.need ++ (bCount s.orgs.length ++ (s.orgs.map bInt).flatten))
structure StgW (s : Stg) : Prop where
 name : s.name.length ≤ 4294967295
 need : i64 s.need
 few : s.orgs.length ≤ 4294967295
 orgs : ∀ x ∈ s.orgs, i64 x
section
variable {w : World}
theorem putEff_c {k : Nat} {A : Option Addr} {n c : Nat} {xs : List UInt8} {B : Option Addr} {d : Nat} (x : Eff) (h : Sl kU8 (fun _ => True) w (.slice A n c) xs) (hk : Sl (kExp k) (fun _ => True) w (.slice B x.expr.kids.length d) x.expr.kids)
 (hx : EffW k x) (hsz : xs.length + (bEff k x).length ≤ 137438953472) : Calls Tryz.prog 37 #[.slice A n c, .agg #[.string ⟨x.field.toArray⟩, .int .i64 x.expr.op, .slice B x.expr.kids.length d, .string ⟨x.expr.name.toArray⟩, .int .i64 x.expr.val.kind, .int .i64 x.expr.val.int, .bool x.expr.val.bool, .string ⟨x.expr.val.text.toArray⟩, .float .f64 x.expr.val.num]] w (RetOwn kU8 5 (fun _ => True) w (xs ++ bEff k x)) := by
 have SF := store_f64
 have HE := Lib.hid hx
 have HSZ := Lib.hid (show xs.length + (bBytes x.field ++ bE k x.expr).length ≤ 137438953472 from hsz)
 have HX := Lib.hid h
 have HKS := Lib.hid hk
 have HN := Lib.hid h.len.1
 have hmax := hk.len.2.2.1
 have hnc := hk.len.2.1
 have hL := Loc1.new w 51 #[.string ⟨x.field.toArray⟩, .int .i64 x.expr.op, .slice B x.expr.kids.length d, .string ⟨x.expr.name.toArray⟩, .int .i64 x.expr.val.kind, .int .i64 x.expr.val.int, .bool x.expr.val.bool, .string ⟨x.expr.val.text.toArray⟩, .float .f64 x.expr.val.num]
 have hb0 : Below w.heap.size w (w.alloc (.cells #[.string ⟨x.field.toArray⟩, .int .i64 x.expr.op, .slice B x.expr.kids.length d, .string ⟨x.expr.name.toArray⟩, .int .i64 x.expr.val.kind, .int .i64 x.expr.val.int, .bool x.expr.val.bool, .string ⟨x.expr.val.text.toArray⟩, .float .f64 x.expr.val.num] 51)) := bW
 have hnn : n ≤ 137438953472 := by have := h.len.1; omega
 clear h hk hx hsz
 go_enter Tryz.func37, Tryz.ntmps37
 go_upto_region 1 with (fail)
 generalize (w.alloc (.cells #[.string ⟨x.field.toArray⟩, .int .i64 x.expr.op, .slice B x.expr.kids.length d, .string ⟨x.expr.name.toArray⟩, .int .i64 x.expr.val.kind, .int .i64 x.expr.val.int, .bool x.expr.val.bool, .string ⟨x.expr.val.text.toArray⟩, .float .f64 x.expr.val.num] 51)) = w0 at *
 have HL := Lib.hid hL
 have KS := Lib.hid (show ∀ W : World, Below w0.heap.size w0 W → W.cell? ⟨w.heap.size, 0, none⟩ = some (.string ⟨x.field.toArray⟩) ∧ W.cell? ⟨w.heap.size, 1, none⟩ = some (.int .i64 x.expr.op) ∧ W.cell? ⟨w.heap.size, 2, none⟩ = some (.slice B x.expr.kids.length d) ∧ W.cell? ⟨w.heap.size, 3, none⟩ = some (.string ⟨x.expr.name.toArray⟩) ∧ W.cell? ⟨w.heap.size, 4, none⟩ = some (.int .i64 x.expr.val.kind) ∧ W.cell? ⟨w.heap.size, 5, none⟩ = some (.int .i64 x.expr.val.int) ∧ W.cell? ⟨w.heap.size, 6, none⟩ = some (.bool x.expr.val.bool) ∧ W.cell? ⟨w.heap.size, 7, none⟩ = some (.string ⟨x.expr.val.text.toArray⟩) ∧ W.cell? ⟨w.heap.size, 8, none⟩ = some (.float .f64 x.expr.val.num) from fun W hb => by
  have LX := HL.out.bel hb
  obtain ⟨c0, c1, c2, c3, c4, c5, c6, c7, c8⟩ := cells9 LX
  exact ⟨c0, c1, c2, c3, c4, c5, c6, c7, c8⟩)
 clear hL
 refine wp_region_held_drew (S := fun W => W.cell? ⟨w.heap.size, 0, none⟩ = some (.string ⟨x.field.toArray⟩) ∧ W.cell? ⟨w.heap.size, 1, none⟩ = some (.int .i64 x.expr.op) ∧ W.cell? ⟨w.heap.size, 2, none⟩ = some (.slice B x.expr.kids.length d) ∧ W.cell? ⟨w.heap.size, 3, none⟩ = some (.string ⟨x.expr.name.toArray⟩) ∧ W.cell? ⟨w.heap.size, 4, none⟩ = some (.int .i64 x.expr.val.kind) ∧ W.cell? ⟨w.heap.size, 5, none⟩ = some (.int .i64 x.expr.val.int) ∧ W.cell? ⟨w.heap.size, 6, none⟩ = some (.bool x.expr.val.bool) ∧ W.cell? ⟨w.heap.size, 7, none⟩ = some (.string ⟨x.expr.val.text.toArray⟩) ∧ W.cell? ⟨w.heap.size, 8, none⟩ = some (.float .f64 x.expr.val.num)) (by kernel_rfl) (KS.out _ bW) (fun hHeld => ?_)
 refine takeL 0 5 (.slice A n c) rfl rfl (by kernel_rfl) (fun _ _ _ h => h) (Or.inl ⟨by rfl, by (intro wz hSw; (try dsimp only at hSw); go_simp)⟩) (by assumption) ?_
 try simp only [Act.put, nrmA, nrmZ, nrmS]
 refine takeL 1 6 (.pointer (some ⟨w.heap.size, 0, none⟩)) rfl rfl (by kernel_rfl) (fun _ _ _ h => h) (Or.inl ⟨by rfl, by (intro wz hSw; (try dsimp only at hSw); go_simp)⟩) (by assumption) ?_
 try simp only [Act.put, nrmA, nrmZ, nrmS]
 refine takeL 2 7 (.string ⟨x.field.toArray⟩) rfl rfl (by kernel_rfl) (fun _ _ _ h => h) (Or.inl ⟨by rfl, by (intro wz hSw; (try dsimp only at hSw); go_simp)⟩) (by assumption) ?_
 try simp only [Act.put, nrmA, nrmZ, nrmS]
 refine takeL 4 9 (.pointer (some ⟨w.heap.size, 1, none⟩)) rfl rfl (by kernel_rfl) (fun _ _ _ h => h) (Or.inl ⟨by rfl, by (intro wz hSw; (try dsimp only at hSw); go_simp)⟩) (by assumption) ?_
 try simp only [Act.put, nrmA, nrmZ, nrmS]
 refine takeL 5 10 (.agg #[.int .i64 x.expr.op, .slice B x.expr.kids.length d, .string ⟨x.expr.name.toArray⟩, .int .i64 x.expr.val.kind, .int .i64 x.expr.val.int, .bool x.expr.val.bool, .string ⟨x.expr.val.text.toArray⟩, .float .f64 x.expr.val.num]) rfl rfl (by kernel_rfl) (fun _ _ _ h => h) (Or.inl ⟨by rfl, by (intro wz hSw; (try dsimp only at hSw); go_simp)⟩) (by assumption) ?_
 try simp only [Act.put, nrmA, nrmZ, nrmS]
 refine rdL 3 rfl (by kernel_rfl) fun K hK => ?_
 go_simp
 refine (text6_c (HX.out.below bW) x.field HE.out.field (by omega)).mono ?_
 rintro x9 w6 ⟨vw6, rfl, how6, hbw6⟩
 obtain ⟨Aw6, nw6, ccw6, rfl, -⟩ := how6.form'
 refine hK.out _ _ (KS.out _ bW) (fun hHeld => ?_)
 clear hK K
 try simp only [Act.put, nrmA, nrmZ, nrmS]
 refine rdL 6 rfl (by kernel_rfl) fun K hK => ?_
 go_simp
 refine (putE_c x.expr (how6.read.below bW) (HKS.out.below bW) HE.out.expr (by have := HSZ.out; simp only [List.length_append] at this ⊢; omega)).mono ?_
 rintro x9 w7 ⟨vw7, rfl, how7, hbw7⟩
 obtain ⟨Aw7, nw7, ccw7, rfl, -⟩ := how7.form'
 refine hK.out _ _ (KS.out _ bW) (fun hHeld => ?_)
 clear hK K
 try simp only [Act.put, nrmA, nrmZ, nrmS]
 refine takeL 7 4 (.slice Aw7 nw7 ccw7) rfl rfl (by kernel_rfl) (fun _ _ _ h => h) (Or.inl ⟨by rfl, by (intro wz hSw; (try dsimp only at hSw); go_simp)⟩) (by assumption) ?_
 try simp only [Act.put, nrmA, nrmZ, nrmS]
 refine wpAnyH_done (by kernel_rfl) ?_ _
 simp only [Exit.then]
 go_wp2_with fail
 go_ret
 exact ⟨_, rfl, by
  have h1 := how7.lower (show Below w.heap.size w w6 from bW).size
  rwa [List.append_assoc] at h1, bW⟩
set_option maxRecDepth 20000 in
theorem putStg_c {A : Option Addr} {n c : Nat} {xs : List UInt8} {B : Option Addr} {d : Nat} (x : Stg) (h : Sl kU8 (fun _ => True) w (.slice A n c) xs) (hk : Sl kI (fun _ => True) w (.slice B x.orgs.length d) x.orgs)
 (hx : StgW x) (hsz : xs.length + (bStg x).length ≤ 137438953472) : Calls Tryz.prog 31 #[.slice A n c, .agg #[.string ⟨x.name.toArray⟩, .int .i64 x.need, .slice B x.orgs.length d]] w (RetOwn kU8 5 (fun _ => True) w (xs ++ bStg x)) := by
 have SF := store_f64
 have HE := Lib.hid hx
 have HSZ := Lib.hid (show xs.length + (bBytes x.name ++ (bInt x.need ++ (bCount x.orgs.length ++ (x.orgs.map bInt).flatten))).length ≤ 137438953472 from hsz)
 have HX := Lib.hid h
 have HKS := Lib.hid hk
 have HN := Lib.hid h.len.1
 have hmax := hk.len.2.2.1
 have hnc := hk.len.2.1
 have hL := Loc1.new w 68 #[.string ⟨x.name.toArray⟩, .int .i64 x.need, .slice B x.orgs.length d]
 have hb0 : Below w.heap.size w (w.alloc (.cells #[.string ⟨x.name.toArray⟩, .int .i64 x.need, .slice B x.orgs.length d] 68)) := bW
 have hnn : n ≤ 137438953472 := by have := h.len.1; omega
 clear h hk hx hsz
 go_enter Tryz.func31, Tryz.ntmps31
 go_upto_region 1 with (fail)
 generalize (w.alloc (.cells #[.string ⟨x.name.toArray⟩, .int .i64 x.need, .slice B x.orgs.length d] 68)) = w0 at *
 have HL := Lib.hid hL
 have KS := Lib.hid (show ∀ W : World, Below w0.heap.size w0 W → W.cell? ⟨w.heap.size, 0, none⟩ = some (.string ⟨x.name.toArray⟩) ∧ W.cell? ⟨w.heap.size, 1, none⟩ = some (.int .i64 x.need) ∧ W.cell? ⟨w.heap.size, 2, none⟩ = some (.slice B x.orgs.length d) from fun W hb => by
  have LX := HL.out.bel hb
  obtain ⟨c0, c1, c2⟩ := cells3 LX
  exact ⟨c0, c1, c2⟩)
 clear hL
 refine wp_region_held_drew (S := fun W => W.cell? ⟨w.heap.size, 0, none⟩ = some (.string ⟨x.name.toArray⟩) ∧ W.cell? ⟨w.heap.size, 1, none⟩ = some (.int .i64 x.need) ∧ W.cell? ⟨w.heap.size, 2, none⟩ = some (.slice B x.orgs.length d)) (by kernel_rfl) (KS.out _ bW) (fun hHeld => ?_)
 refine takeL 0 5 (.slice A n c) rfl rfl (by kernel_rfl) (fun _ _ _ h => h) (Or.inl ⟨by rfl, by (intro wz hSw; (try dsimp only at hSw); go_simp)⟩) (by assumption) ?_
 try simp only [Act.put, nrmA, nrmZ, nrmS]
 refine takeL 1 6 (.pointer (some ⟨w.heap.size, 0, none⟩)) rfl rfl (by kernel_rfl) (fun _ _ _ h => h) (Or.inl ⟨by rfl, by (intro wz hSw; (try dsimp only at hSw); go_simp)⟩) (by assumption) ?_
 try simp only [Act.put, nrmA, nrmZ, nrmS]
 refine takeL 2 7 (.string ⟨x.name.toArray⟩) rfl rfl (by kernel_rfl) (fun _ _ _ h => h) (Or.inl ⟨by rfl, by (intro wz hSw; (try dsimp only at hSw); go_simp)⟩) (by assumption) ?_
 try simp only [Act.put, nrmA, nrmZ, nrmS]
 refine takeL 4 9 (.pointer (some ⟨w.heap.size, 1, none⟩)) rfl rfl (by kernel_rfl) (fun _ _ _ h => h) (Or.inl ⟨by rfl, by (intro wz hSw; (try dsimp only at hSw); go_simp)⟩) (by assumption) ?_
 try simp only [Act.put, nrmA, nrmZ, nrmS]
 refine takeL 5 10 (.int .i64 x.need) rfl rfl (by kernel_rfl) (fun _ _ _ h => h) (Or.inl ⟨by rfl, by (intro wz hSw; (try dsimp only at hSw); go_simp)⟩) (by assumption) ?_
 try simp only [Act.put, nrmA, nrmZ, nrmS]
 refine takeL 7 12 (.pointer (some ⟨w.heap.size, 2, none⟩)) rfl rfl (by kernel_rfl) (fun _ _ _ h => h) (Or.inl ⟨by rfl, by (intro wz hSw; (try dsimp only at hSw); go_simp)⟩) (by assumption) ?_
 try simp only [Act.put, nrmA, nrmZ, nrmS]
 refine takeL 8 13 (.slice B x.orgs.length d) rfl rfl (by kernel_rfl) (fun _ _ _ h => h) (Or.inl ⟨by rfl, by (intro wz hSw; (try dsimp only at hSw); go_simp)⟩) (by assumption) ?_
 try simp only [Act.put, nrmA, nrmZ, nrmS]
 refine rdL 3 rfl (by kernel_rfl) fun K hK => ?_
 go_simp
 refine (text6_c (HX.out.below bW) x.name HE.out.name (by omega)).mono ?_
 rintro x9 w6 ⟨vw6, rfl, how6, hbw6⟩
 obtain ⟨Aw6, nw6, ccw6, rfl, -⟩ := how6.form'
 have hN6 : nw6 ≤ 137438953472 := by rw [how6.read.len.1.symm]; have h0 := HSZ.out; simp only [List.length_append] at h0 ⊢; omega
 refine hK.out _ _ (KS.out _ bW) (fun hHeld => ?_)
 clear hK K
 try simp only [Act.put, nrmA, nrmZ, nrmS]
 refine rdL 6 rfl (by kernel_rfl) fun K hK => ?_
 go_simp
 refine (number6_c (how6.read.below bW) x.need HE.out.need (by omega)).mono ?_
 rintro x9 w7 ⟨vw7, rfl, how7, hbw7⟩
 obtain ⟨Aw7, nw7, ccw7, rfl, -⟩ := how7.form'
 refine hK.out _ _ (KS.out _ bW) (fun hHeld => ?_)
 clear hK K
 try simp only [Act.put, nrmA, nrmZ, nrmS]
 refine rdL 9 rfl (by kernel_rfl) fun K hK => ?_
 go_simp
 refine (lsti_c (m := 0) 28 bInt (how7.read.below bW) (HKS.out.below bW) (fun _ _ => rfl) (fun W A' n' c' ys e _ he hs hl => (number6_c hs e (HE.out.orgs e he) (by have := hs.len.1; omega))) (by have h0 := HSZ.out; have h1 := HN.out; simp only [List.length_append] at h0 ⊢; (try simp only [bInt_len, bCount_len] at h0 ⊢); omega) HE.out.few).mono ?_
 rintro x9 w8 ⟨vw8, rfl, how8, hbw8⟩
 obtain ⟨Aw8, nw8, ccw8, rfl, -⟩ := how8.form'
 refine hK.out _ _ (KS.out _ bW) (fun hHeld => ?_)
 clear hK K
 try simp only [Act.put, nrmA, nrmZ, nrmS]
 refine takeL 10 4 (.slice Aw8 nw8 ccw8) rfl rfl (by kernel_rfl) (fun _ _ _ h => h) (Or.inl ⟨by rfl, by (intro wz hSw; (try dsimp only at hSw); go_simp)⟩) (by assumption) ?_
 try simp only [Act.put, nrmA, nrmZ, nrmS]
 refine wpAnyH_done (by kernel_rfl) ?_ _
 simp only [Exit.then]
 go_wp2_with fail
 go_ret
 exact ⟨_, rfl, by
  have h1 := how8.lower (show Below w.heap.size w w7 from bW).size
  simp only [List.append_assoc] at h1; exact h1, bW⟩
set_option maxRecDepth 20000 in
theorem putFld_c {A : Option Addr} {n c : Nat} {xs : List UInt8} {B : Option Addr} {d : Nat} (x : Fld) (h : Sl kU8 (fun _ => True) w (.slice A n c) xs) (hk : Sl kStr (fun _ => True) w (.slice B x.enum.length d) x.enum)
 (hx : FldW x) (hsz : xs.length + (bFld x).length ≤ 137438953472) : Calls Tryz.prog 26 #[.slice A n c, .agg #[.string ⟨x.name.toArray⟩, .int .i64 x.kind, .slice B x.enum.length d, .int .i64 x.init.kind, .int .i64 x.init.int, .bool x.init.bool, .string ⟨x.init.text.toArray⟩, .float .f64 x.init.num]] w (RetOwn kU8 5 (fun _ => True) w (xs ++ bFld x)) := by
 have SF := store_f64
 have HE := Lib.hid hx
 have HSZ := Lib.hid (show xs.length + (bBytes x.name ++ (bInt x.kind ++ ((bCount x.enum.length ++ (x.enum.map bBytes).flatten) ++ bVal x.init))).length ≤ 137438953472 from hsz)
 have HX := Lib.hid h
 have HKS := Lib.hid hk
 have HN := Lib.hid h.len.1
 have hmax := hk.len.2.2.1
 have hnc := hk.len.2.1
 have hL := Loc1.new w 41 #[.string ⟨x.name.toArray⟩, .int .i64 x.kind, .slice B x.enum.length d, .int .i64 x.init.kind, .int .i64 x.init.int, .bool x.init.bool, .string ⟨x.init.text.toArray⟩, .float .f64 x.init.num]
 have hb0 : Below w.heap.size w (w.alloc (.cells #[.string ⟨x.name.toArray⟩, .int .i64 x.kind, .slice B x.enum.length d, .int .i64 x.init.kind, .int .i64 x.init.int, .bool x.init.bool, .string ⟨x.init.text.toArray⟩, .float .f64 x.init.num] 41)) := bW
 have hnn : n ≤ 137438953472 := by have := h.len.1; omega
 clear h hk hx hsz
 go_enter Tryz.func26, Tryz.ntmps26
 go_upto_region 1 with (fail)
 generalize (w.alloc (.cells #[.string ⟨x.name.toArray⟩, .int .i64 x.kind, .slice B x.enum.length d, .int .i64 x.init.kind, .int .i64 x.init.int, .bool x.init.bool, .string ⟨x.init.text.toArray⟩, .float .f64 x.init.num] 41)) = w0 at *
 have HL := Lib.hid hL
 have KS := Lib.hid (show ∀ W : World, Below w0.heap.size w0 W → W.cell? ⟨w.heap.size, 0, none⟩ = some (.string ⟨x.name.toArray⟩) ∧ W.cell? ⟨w.heap.size, 1, none⟩ = some (.int .i64 x.kind) ∧ W.cell? ⟨w.heap.size, 2, none⟩ = some (.slice B x.enum.length d) ∧ W.cell? ⟨w.heap.size, 3, none⟩ = some (.int .i64 x.init.kind) ∧ W.cell? ⟨w.heap.size, 4, none⟩ = some (.int .i64 x.init.int) ∧ W.cell? ⟨w.heap.size, 5, none⟩ = some (.bool x.init.bool) ∧ W.cell? ⟨w.heap.size, 6, none⟩ = some (.string ⟨x.init.text.toArray⟩) ∧ W.cell? ⟨w.heap.size, 7, none⟩ = some (.float .f64 x.init.num) from fun W hb => by
  have LX := HL.out.bel hb
  obtain ⟨c0, c1, c2, c3, c4, c5, c6, c7⟩ := cells8 LX
  exact ⟨c0, c1, c2, c3, c4, c5, c6, c7⟩)
 clear hL
 refine wp_region_held_drew (S := fun W => W.cell? ⟨w.heap.size, 0, none⟩ = some (.string ⟨x.name.toArray⟩) ∧ W.cell? ⟨w.heap.size, 1, none⟩ = some (.int .i64 x.kind) ∧ W.cell? ⟨w.heap.size, 2, none⟩ = some (.slice B x.enum.length d) ∧ W.cell? ⟨w.heap.size, 3, none⟩ = some (.int .i64 x.init.kind) ∧ W.cell? ⟨w.heap.size, 4, none⟩ = some (.int .i64 x.init.int) ∧ W.cell? ⟨w.heap.size, 5, none⟩ = some (.bool x.init.bool) ∧ W.cell? ⟨w.heap.size, 6, none⟩ = some (.string ⟨x.init.text.toArray⟩) ∧ W.cell? ⟨w.heap.size, 7, none⟩ = some (.float .f64 x.init.num)) (by kernel_rfl) (KS.out _ bW) (fun hHeld => ?_)
 refine takeL 0 5 (.slice A n c) rfl rfl (by kernel_rfl) (fun _ _ _ h => h) (Or.inl ⟨by rfl, by (intro wz hSw; (try dsimp only at hSw); go_simp)⟩) (by assumption) ?_
 try simp only [Act.put, nrmA, nrmZ, nrmS]
 refine takeL 1 6 (.pointer (some ⟨w.heap.size, 0, none⟩)) rfl rfl (by kernel_rfl) (fun _ _ _ h => h) (Or.inl ⟨by rfl, by (intro wz hSw; (try dsimp only at hSw); go_simp)⟩) (by assumption) ?_
 try simp only [Act.put, nrmA, nrmZ, nrmS]
 refine takeL 2 7 (.string ⟨x.name.toArray⟩) rfl rfl (by kernel_rfl) (fun _ _ _ h => h) (Or.inl ⟨by rfl, by (intro wz hSw; (try dsimp only at hSw); go_simp)⟩) (by assumption) ?_
 try simp only [Act.put, nrmA, nrmZ, nrmS]
 refine takeL 4 9 (.pointer (some ⟨w.heap.size, 1, none⟩)) rfl rfl (by kernel_rfl) (fun _ _ _ h => h) (Or.inl ⟨by rfl, by (intro wz hSw; (try dsimp only at hSw); go_simp)⟩) (by assumption) ?_
 try simp only [Act.put, nrmA, nrmZ, nrmS]
 refine takeL 5 10 (.int .i64 x.kind) rfl rfl (by kernel_rfl) (fun _ _ _ h => h) (Or.inl ⟨by rfl, by (intro wz hSw; (try dsimp only at hSw); go_simp)⟩) (by assumption) ?_
 try simp only [Act.put, nrmA, nrmZ, nrmS]
 refine takeL 7 12 (.pointer (some ⟨w.heap.size, 2, none⟩)) rfl rfl (by kernel_rfl) (fun _ _ _ h => h) (Or.inl ⟨by rfl, by (intro wz hSw; (try dsimp only at hSw); go_simp)⟩) (by assumption) ?_
 try simp only [Act.put, nrmA, nrmZ, nrmS]
 refine takeL 8 13 (.slice B x.enum.length d) rfl rfl (by kernel_rfl) (fun _ _ _ h => h) (Or.inl ⟨by rfl, by (intro wz hSw; (try dsimp only at hSw); go_simp)⟩) (by assumption) ?_
 try simp only [Act.put, nrmA, nrmZ, nrmS]
 refine rdL 3 rfl (by kernel_rfl) fun K hK => ?_
 go_simp
 refine (text6_c (HX.out.below bW) x.name HE.out.name (by omega)).mono ?_
 rintro x9 w6 ⟨vw6, rfl, how6, hbw6⟩
 obtain ⟨Aw6, nw6, ccw6, rfl, -⟩ := how6.form'
 have hN6 : nw6 ≤ 137438953472 := by rw [how6.read.len.1.symm]; have h0 := HSZ.out; simp only [List.length_append] at h0 ⊢; omega
 refine hK.out _ _ (KS.out _ bW) (fun hHeld => ?_)
 clear hK K
 try simp only [Act.put, nrmA, nrmZ, nrmS]
 refine rdL 6 rfl (by kernel_rfl) fun K hK => ?_
 go_simp
 refine (number6_c (how6.read.below bW) x.kind HE.out.kind (by omega)).mono ?_
 rintro x9 w7 ⟨vw7, rfl, how7, hbw7⟩
 obtain ⟨Aw7, nw7, ccw7, rfl, -⟩ := how7.form'
 refine hK.out _ _ (KS.out _ bW) (fun hHeld => ?_)
 clear hK K
 try simp only [Act.put, nrmA, nrmZ, nrmS]
 refine rdL 9 rfl (by kernel_rfl) fun K hK => ?_
 go_simp
 refine (lsts_c (m := 0) 25 bBytes (how7.read.below bW) (HKS.out.below bW) (fun _ _ => rfl) (fun W A' n' c' ys e _ he hs hl => (text6_c hs e (HE.out.enum e he) (by have := hs.len.1; omega))) (by have h0 := HSZ.out; have h1 := HN.out; simp only [List.length_append] at h0 ⊢; (try simp only [bInt_len, bCount_len] at h0 ⊢); omega) HE.out.few).mono ?_
 rintro x9 w8 ⟨vw8, rfl, how8, hbw8⟩
 obtain ⟨Aw8, nw8, ccw8, rfl, -⟩ := how8.form'
 refine hK.out _ _ (KS.out _ bW) (fun hHeld => ?_)
 clear hK K
 try simp only [Act.put, nrmA, nrmZ, nrmS]
 refine takeL 10 0 (.slice Aw8 nw8 ccw8) rfl rfl (by kernel_rfl) (fun _ _ _ h => h) (Or.inl ⟨by rfl, by (intro wz hSw; (try dsimp only at hSw); go_simp)⟩) (by assumption) ?_
 try simp only [Act.put, nrmA, nrmZ, nrmS]
 refine wpAnyH_done (by kernel_rfl) ?_ _
 simp only [Exit.then]
 have LX := HL.out.bel (show Below w0.heap.size w0 w8 from bW)
 obtain ⟨c0, c1, c2, c3, c4, c5, c6, c7⟩ := cells8 LX
 have hz := lt_of_heap LX
 have hN8 : nw8 ≤ 137438953472 := by rw [how8.read.len.1.symm]; have h0 := HSZ.out; simp only [List.length_append] at h0 ⊢; omega
 have HO8 := Lib.hid how8
 clear how8 how7 how6
 go_wp2_with fail
 refine (putV_c HO8.out.read x.init HE.out.init (by omega)).mono ?_
 rintro x9 w9 ⟨v9, rfl, ho9, hb9⟩
 have HO9 := Lib.hid ho9
 clear ho9
 go_wp2_with fail
 go_ret
 exact ⟨_, rfl, by
  have h1 := HO9.out.lower (show Below w.heap.size w w8 from bW).size
  simp only [List.append_assoc] at h1
  unfold bFld
  simp only [List.append_assoc]
  exact h1, bW⟩
end
end Go.Proofs.YtjnhgfmjehaalaaGreat
/- Bytes put: the moves' closure of contract.Put. -/
namespace Go.Proofs.YtjnhgfmjehaalaaGreat
open Go.RowKit
set_option linter.unusedVariables false
set_option linter.unusedSimpArgs false
def bMov (k : Nat) (m : Mov) : List UInt8 := bBytes m.name ++ (bInt m.frm ++ (bInt m.tgt ++ (bInt m.org ++ (bE k m.guard ++ (bCount m.effects.length ++ (m.effects.map (bEff k)).flatten)))))
structure MovW (k : Nat) (m : Mov) : Prop where
 name : m.name.length ≤ 4294967295
 frm : i64 m.frm
 tgt : i64 m.tgt
 org : i64 m.org
 guard : small m.guard = true → ExpW (k + 1) m.guard
 few : m.effects.length ≤ 4294967295
 effects : ∀ x ∈ m.effects, EffW k x
section
variable {w : World}
set_option maxRecDepth 20000 in
theorem putMov_c {k : Nat} {A : Option Addr} {n c : Nat} {xs : List UInt8} {B D : Option Addr} {b d : Nat} (x : Mov) (h : Sl kU8 (fun _ => True) w (.slice A n c) xs) (hk : Sl (kExp k) (fun _ => True) w (.slice B x.guard.kids.length b) x.guard.kids)
 (hf : Sl (kEff (k + 1)) (fun _ => True) w (.slice D x.effects.length d) x.effects)
 (hx : MovW k x) (hsz : xs.length + (bMov k x).length ≤ 137438953472) : Calls Tryz.prog 34 #[.slice A n c, .agg #[.string ⟨x.name.toArray⟩, .int .i64 x.frm, .int .i64 x.tgt, .int .i64 x.guard.op, .slice B x.guard.kids.length b, .string ⟨x.guard.name.toArray⟩, .int .i64 x.guard.val.kind, .int .i64 x.guard.val.int, .bool x.guard.val.bool, .string ⟨x.guard.val.text.toArray⟩, .float .f64 x.guard.val.num, .slice D x.effects.length d, .int .i64 x.org]] w (RetOwn kU8 5 (fun _ => True) w (xs ++ bMov k x)) := by
 have SF := store_f64
 have HE := Lib.hid hx
 have HSZ := Lib.hid (show xs.length + (bBytes x.name ++ (bInt x.frm ++ (bInt x.tgt ++ (bInt x.org ++ (bE k x.guard ++ (bCount x.effects.length ++ (x.effects.map (bEff k)).flatten)))))).length ≤ 137438953472 from hsz)
 have HX := Lib.hid h
 have HKS := Lib.hid hk
 have HFS := Lib.hid hf
 have HN := Lib.hid h.len.1
 have hmax := hk.len.2.2.1
 have hnc := hk.len.2.1
 have hmax2 := hf.len.2.2.1
 have hnc2 := hf.len.2.1
 have hL := Loc1.new w 47 #[.string ⟨x.name.toArray⟩, .int .i64 x.frm, .int .i64 x.tgt, .int .i64 x.guard.op, .slice B x.guard.kids.length b, .string ⟨x.guard.name.toArray⟩, .int .i64 x.guard.val.kind, .int .i64 x.guard.val.int, .bool x.guard.val.bool, .string ⟨x.guard.val.text.toArray⟩, .float .f64 x.guard.val.num, .slice D x.effects.length d, .int .i64 x.org]
 have hb0 : Below w.heap.size w (w.alloc (.cells #[.string ⟨x.name.toArray⟩, .int .i64 x.frm, .int .i64 x.tgt, .int .i64 x.guard.op, .slice B x.guard.kids.length b, .string ⟨x.guard.name.toArray⟩, .int .i64 x.guard.val.kind, .int .i64 x.guard.val.int, .bool x.guard.val.bool, .string ⟨x.guard.val.text.toArray⟩, .float .f64 x.guard.val.num, .slice D x.effects.length d, .int .i64 x.org] 47)) := bW
 have hnn : n ≤ 137438953472 := by have := h.len.1; omega
 clear h hk hf hx hsz
 go_enter Tryz.func34, Tryz.ntmps34
 go_upto_region 1 with (fail)
 generalize (w.alloc (.cells #[.string ⟨x.name.toArray⟩, .int .i64 x.frm, .int .i64 x.tgt, .int .i64 x.guard.op, .slice B x.guard.kids.length b, .string ⟨x.guard.name.toArray⟩, .int .i64 x.guard.val.kind, .int .i64 x.guard.val.int, .bool x.guard.val.bool, .string ⟨x.guard.val.text.toArray⟩, .float .f64 x.guard.val.num, .slice D x.effects.length d, .int .i64 x.org] 47)) = w0 at *
 have HL := Lib.hid hL
 have KS := Lib.hid (show ∀ W : World, Below w0.heap.size w0 W → W.cell? ⟨w.heap.size, 0, none⟩ = some (.string ⟨x.name.toArray⟩) ∧ W.cell? ⟨w.heap.size, 1, none⟩ = some (.int .i64 x.frm) ∧ W.cell? ⟨w.heap.size, 2, none⟩ = some (.int .i64 x.tgt) ∧ W.cell? ⟨w.heap.size, 3, none⟩ = some (.int .i64 x.guard.op) ∧ W.cell? ⟨w.heap.size, 4, none⟩ = some (.slice B x.guard.kids.length b) ∧ W.cell? ⟨w.heap.size, 5, none⟩ = some (.string ⟨x.guard.name.toArray⟩) ∧ W.cell? ⟨w.heap.size, 6, none⟩ = some (.int .i64 x.guard.val.kind) ∧ W.cell? ⟨w.heap.size, 7, none⟩ = some (.int .i64 x.guard.val.int) ∧ W.cell? ⟨w.heap.size, 8, none⟩ = some (.bool x.guard.val.bool) ∧ W.cell? ⟨w.heap.size, 9, none⟩ = some (.string ⟨x.guard.val.text.toArray⟩) ∧ W.cell? ⟨w.heap.size, 10, none⟩ = some (.float .f64 x.guard.val.num) ∧ W.cell? ⟨w.heap.size, 11, none⟩ = some (.slice D x.effects.length d) ∧ W.cell? ⟨w.heap.size, 12, none⟩ = some (.int .i64 x.org) from fun W hb => by
  have LX := HL.out.bel hb
  obtain ⟨c0, c1, c2, c3, c4, c5, c6, c7, c8, c9, c10, c11, c12⟩ := cells13 LX
  exact ⟨c0, c1, c2, c3, c4, c5, c6, c7, c8, c9, c10, c11, c12⟩)
 clear hL
 refine wp_region_held_drew (S := fun W => W.cell? ⟨w.heap.size, 0, none⟩ = some (.string ⟨x.name.toArray⟩) ∧ W.cell? ⟨w.heap.size, 1, none⟩ = some (.int .i64 x.frm) ∧ W.cell? ⟨w.heap.size, 2, none⟩ = some (.int .i64 x.tgt) ∧ W.cell? ⟨w.heap.size, 3, none⟩ = some (.int .i64 x.guard.op) ∧ W.cell? ⟨w.heap.size, 4, none⟩ = some (.slice B x.guard.kids.length b) ∧ W.cell? ⟨w.heap.size, 5, none⟩ = some (.string ⟨x.guard.name.toArray⟩) ∧ W.cell? ⟨w.heap.size, 6, none⟩ = some (.int .i64 x.guard.val.kind) ∧ W.cell? ⟨w.heap.size, 7, none⟩ = some (.int .i64 x.guard.val.int) ∧ W.cell? ⟨w.heap.size, 8, none⟩ = some (.bool x.guard.val.bool) ∧ W.cell? ⟨w.heap.size, 9, none⟩ = some (.string ⟨x.guard.val.text.toArray⟩) ∧ W.cell? ⟨w.heap.size, 10, none⟩ = some (.float .f64 x.guard.val.num) ∧ W.cell? ⟨w.heap.size, 11, none⟩ = some (.slice D x.effects.length d) ∧ W.cell? ⟨w.heap.size, 12, none⟩ = some (.int .i64 x.org)) (by kernel_rfl) (KS.out _ bW) (fun hHeld => ?_)
 refine takeL 0 5 (.slice A n c) rfl rfl (by kernel_rfl) (fun _ _ _ h => h) (Or.inl ⟨by rfl, by (intro wz hSw; (try dsimp only at hSw); go_simp)⟩) (by assumption) ?_
 try simp only [Act.put, nrmA, nrmZ, nrmS]
 refine takeL 1 6 (.pointer (some ⟨w.heap.size, 0, none⟩)) rfl rfl (by kernel_rfl) (fun _ _ _ h => h) (Or.inl ⟨by rfl, by (intro wz hSw; (try dsimp only at hSw); go_simp)⟩) (by assumption) ?_
 try simp only [Act.put, nrmA, nrmZ, nrmS]
 refine takeL 2 7 (.string ⟨x.name.toArray⟩) rfl rfl (by kernel_rfl) (fun _ _ _ h => h) (Or.inl ⟨by rfl, by (intro wz hSw; (try dsimp only at hSw); go_simp)⟩) (by assumption) ?_
 try simp only [Act.put, nrmA, nrmZ, nrmS]
 refine takeL 4 9 (.pointer (some ⟨w.heap.size, 1, none⟩)) rfl rfl (by kernel_rfl) (fun _ _ _ h => h) (Or.inl ⟨by rfl, by (intro wz hSw; (try dsimp only at hSw); go_simp)⟩) (by assumption) ?_
 try simp only [Act.put, nrmA, nrmZ, nrmS]
 refine takeL 5 10 (.int .i64 x.frm) rfl rfl (by kernel_rfl) (fun _ _ _ h => h) (Or.inl ⟨by rfl, by (intro wz hSw; (try dsimp only at hSw); go_simp)⟩) (by assumption) ?_
 try simp only [Act.put, nrmA, nrmZ, nrmS]
 refine takeL 7 12 (.pointer (some ⟨w.heap.size, 2, none⟩)) rfl rfl (by kernel_rfl) (fun _ _ _ h => h) (Or.inl ⟨by rfl, by (intro wz hSw; (try dsimp only at hSw); go_simp)⟩) (by assumption) ?_
 try simp only [Act.put, nrmA, nrmZ, nrmS]
 refine takeL 8 13 (.int .i64 x.tgt) rfl rfl (by kernel_rfl) (fun _ _ _ h => h) (Or.inl ⟨by rfl, by (intro wz hSw; (try dsimp only at hSw); go_simp)⟩) (by assumption) ?_
 try simp only [Act.put, nrmA, nrmZ, nrmS]
 refine takeL 10 15 (.pointer (some ⟨w.heap.size, 12, none⟩)) rfl rfl (by kernel_rfl) (fun _ _ _ h => h) (Or.inl ⟨by rfl, by (intro wz hSw; (try dsimp only at hSw); go_simp)⟩) (by assumption) ?_
 try simp only [Act.put, nrmA, nrmZ, nrmS]
 refine takeL 11 16 (.int .i64 x.org) rfl rfl (by kernel_rfl) (fun _ _ _ h => h) (Or.inl ⟨by rfl, by (intro wz hSw; (try dsimp only at hSw); go_simp)⟩) (by assumption) ?_
 try simp only [Act.put, nrmA, nrmZ, nrmS]
 refine rdL 3 rfl (by kernel_rfl) fun K hK => ?_
 go_simp
 refine (text6_c (HX.out.below bW) x.name HE.out.name (by omega)).mono ?_
 rintro x9 w6 ⟨vw6, rfl, how6, hbw6⟩
 obtain ⟨Aw6, nw6, ccw6, rfl, -⟩ := how6.form'
 have hN6 : nw6 ≤ 137438953472 := by rw [how6.read.len.1.symm]; have h0 := HSZ.out; simp only [List.length_append] at h0 ⊢; omega
 refine hK.out _ _ (KS.out _ bW) (fun hHeld => ?_)
 clear hK K
 try simp only [Act.put, nrmA, nrmZ, nrmS]
 refine rdL 6 rfl (by kernel_rfl) fun K hK => ?_
 go_simp
 refine (number6_c (how6.read.below bW) x.frm HE.out.frm (by omega)).mono ?_
 rintro x9 w7 ⟨vw7, rfl, how7, hbw7⟩
 obtain ⟨Aw7, nw7, ccw7, rfl, -⟩ := how7.form'
 have hN7 : nw7 ≤ 137438953472 := by rw [how7.read.len.1.symm]; have h0 := HSZ.out; simp only [List.length_append] at h0 ⊢; omega
 refine hK.out _ _ (KS.out _ bW) (fun hHeld => ?_)
 clear hK K
 try simp only [Act.put, nrmA, nrmZ, nrmS]
 refine rdL 9 rfl (by kernel_rfl) fun K hK => ?_
 go_simp
 refine (number6_c (how7.read.below bW) x.tgt HE.out.tgt (by omega)).mono ?_
 rintro x9 w8 ⟨vw8, rfl, how8, hbw8⟩
 obtain ⟨Aw8, nw8, ccw8, rfl, -⟩ := how8.form'
 have hN8 : nw8 ≤ 137438953472 := by rw [how8.read.len.1.symm]; have h0 := HSZ.out; simp only [List.length_append] at h0 ⊢; omega
 refine hK.out _ _ (KS.out _ bW) (fun hHeld => ?_)
 clear hK K
 try simp only [Act.put, nrmA, nrmZ, nrmS]
 refine rdL 12 rfl (by kernel_rfl) fun K hK => ?_
 go_simp
 refine (number6_c (how8.read.below bW) x.org HE.out.org (by omega)).mono ?_
 rintro x9 w9 ⟨vw9, rfl, how9, hbw9⟩
 obtain ⟨Aw9, nw9, ccw9, rfl, -⟩ := how9.form'
 refine hK.out _ _ (KS.out _ bW) (fun hHeld => ?_)
 clear hK K
 try simp only [Act.put, nrmA, nrmZ, nrmS]
 refine takeL 13 0 (.slice Aw9 nw9 ccw9) rfl rfl (by kernel_rfl) (fun _ _ _ h => h) (Or.inl ⟨by rfl, by (intro wz hSw; (try dsimp only at hSw); go_simp)⟩) (by assumption) ?_
 try simp only [Act.put, nrmA, nrmZ, nrmS]
 refine wpAnyH_done (by kernel_rfl) ?_ _
 simp only [Exit.then]
 go_upto_region 2 with (fail)
 refine wp_region_held_drew (S := fun W => W.cell? ⟨w.heap.size, 0, none⟩ = some (.string ⟨x.name.toArray⟩) ∧ W.cell? ⟨w.heap.size, 1, none⟩ = some (.int .i64 x.frm) ∧ W.cell? ⟨w.heap.size, 2, none⟩ = some (.int .i64 x.tgt) ∧ W.cell? ⟨w.heap.size, 3, none⟩ = some (.int .i64 x.guard.op) ∧ W.cell? ⟨w.heap.size, 4, none⟩ = some (.slice B x.guard.kids.length b) ∧ W.cell? ⟨w.heap.size, 5, none⟩ = some (.string ⟨x.guard.name.toArray⟩) ∧ W.cell? ⟨w.heap.size, 6, none⟩ = some (.int .i64 x.guard.val.kind) ∧ W.cell? ⟨w.heap.size, 7, none⟩ = some (.int .i64 x.guard.val.int) ∧ W.cell? ⟨w.heap.size, 8, none⟩ = some (.bool x.guard.val.bool) ∧ W.cell? ⟨w.heap.size, 9, none⟩ = some (.string ⟨x.guard.val.text.toArray⟩) ∧ W.cell? ⟨w.heap.size, 10, none⟩ = some (.float .f64 x.guard.val.num) ∧ W.cell? ⟨w.heap.size, 11, none⟩ = some (.slice D x.effects.length d) ∧ W.cell? ⟨w.heap.size, 12, none⟩ = some (.int .i64 x.org)) (by kernel_rfl) (KS.out _ bW) (fun hHeld => ?_)
 refine takeL 0 18 (.slice Aw9 nw9 ccw9) rfl rfl (by kernel_rfl) (fun _ _ _ h => h) (Or.inl ⟨by rfl, by (intro wz hSw; (try dsimp only at hSw); go_simp)⟩) (by assumption) ?_
 try simp only [Act.put, nrmA, nrmZ, nrmS]
 refine takeL 1 19 (.pointer (some ⟨w.heap.size, 3, none⟩)) rfl rfl (by kernel_rfl) (fun _ _ _ h => h) (Or.inl ⟨by rfl, by (intro wz hSw; (try dsimp only at hSw); go_simp)⟩) (by assumption) ?_
 try simp only [Act.put, nrmA, nrmZ, nrmS]
 refine takeL 2 20 (.agg #[.int .i64 x.guard.op, .slice B x.guard.kids.length b, .string ⟨x.guard.name.toArray⟩, .int .i64 x.guard.val.kind, .int .i64 x.guard.val.int, .bool x.guard.val.bool, .string ⟨x.guard.val.text.toArray⟩, .float .f64 x.guard.val.num]) rfl rfl (by kernel_rfl) (fun _ _ _ h => h) (Or.inl ⟨by rfl, by (intro wz hSw; (try dsimp only at hSw); go_simp)⟩) (by assumption) ?_
 try simp only [Act.put, nrmA, nrmZ, nrmS]
 refine takeL 4 22 (.pointer (some ⟨w.heap.size, 11, none⟩)) rfl rfl (by kernel_rfl) (fun _ _ _ h => h) (Or.inl ⟨by rfl, by (intro wz hSw; (try dsimp only at hSw); go_simp)⟩) (by assumption) ?_
 try simp only [Act.put, nrmA, nrmZ, nrmS]
 refine takeL 5 23 (.slice D x.effects.length d) rfl rfl (by kernel_rfl) (fun _ _ _ h => h) (Or.inl ⟨by rfl, by (intro wz hSw; (try dsimp only at hSw); go_simp)⟩) (by assumption) ?_
 try simp only [Act.put, nrmA, nrmZ, nrmS]
 refine rdL 3 rfl (by kernel_rfl) fun K hK => ?_
 go_simp
 refine (putE_c x.guard (how9.read.below bW) (HKS.out.below bW) HE.out.guard (by have h0 := HSZ.out; simp only [List.length_append] at h0 ⊢; omega)).mono ?_
 rintro x9 wa ⟨vwa, rfl, howa, hbwa⟩
 obtain ⟨Awa, nwa, ccwa, rfl, -⟩ := howa.form'
 refine hK.out _ _ (KS.out _ bW) (fun hHeld => ?_)
 clear hK K
 try simp only [Act.put, nrmA, nrmZ, nrmS]
 refine rdL 6 rfl (by kernel_rfl) fun K hK => ?_
 go_simp
 refine (lste_c (m := k + 1) 37 (bEff k) (howa.read.below bW) (HFS.out.below bW) (fun _ _ => rfl) (fun W A' n' c' ys e k' B d _ he hk hs hr hl => (by have hkk : k' = k := (by omega); subst hkk; exact putEff_c e hr hs (HE.out.effects e he) hl)) (by have h0 := HSZ.out; have h1 := HN.out; simp only [List.length_append] at h0 ⊢; (try simp only [bInt_len, bCount_len] at h0 ⊢); omega) HE.out.few).mono ?_
 rintro x9 wb ⟨vwb, rfl, howb, hbwb⟩
 obtain ⟨Awb, nwb, ccwb, rfl, -⟩ := howb.form'
 refine hK.out _ _ (KS.out _ bW) (fun hHeld => ?_)
 clear hK K
 try simp only [Act.put, nrmA, nrmZ, nrmS]
 refine takeL 7 4 (.slice Awb nwb ccwb) rfl rfl (by kernel_rfl) (fun _ _ _ h => h) (Or.inl ⟨by rfl, by (intro wz hSw; (try dsimp only at hSw); go_simp)⟩) (by assumption) ?_
 try simp only [Act.put, nrmA, nrmZ, nrmS]
 refine wpAnyH_done (by kernel_rfl) ?_ _
 simp only [Exit.then]
 go_wp2_with fail
 go_ret
 exact ⟨_, rfl, by
  have h1 := howb.lower (show Below w.heap.size w wa from bW).size
  simp only [List.append_assoc] at h1
  exact h1, bW⟩
end
end Go.Proofs.YtjnhgfmjehaalaaGreat
