/- Bytes put: contract.Put. -/
import Derived.Test.YtjnhgfmjehaalaaC24
namespace Go.Proofs.Ytjnhgfmjehaalaa
open Go.RowKit
set_option linter.unusedVariables false
set_option linter.unusedSimpArgs false
def bCon (n : Nat) (c : Con) : List UInt8 := bBytes c.name ++ ((bCount c.fields.length ++ (c.fields.map bFld).flatten) ++ ((bCount c.stages.length ++ (c.stages.map bStg).flatten) ++ (bCount c.moves.length ++ (c.moves.map (bMov (n - 1))).flatten)))
structure ConW (n : Nat) (c : Con) : Prop where
  name : c.name.length ≤ 4294967295
  nf : c.fields.length ≤ 4294967295
  ns : c.stages.length ≤ 4294967295
  nm : c.moves.length ≤ 4294967295
  fields : ∀ f ∈ c.fields, FldW f
  stages : ∀ s ∈ c.stages, StgW s
  moves : ∀ m ∈ c.moves, MovW (n - 1) m
def bC (n : Nat) (c : Con) : List UInt8 := if chkC c n = 0 then bCon n c else []
section
variable {w : World}
set_option maxRecDepth 20000 in
theorem putC_c {A B D : Option Addr} {a b d : Nat} {n : Nat} {Y : Option Addr} {m z : Nat} {xs : List UInt8} (c : Con) (h : Sl kU8 (fun _ => True) w (.slice Y m z) xs) (h1 : Sl kFld (fun _ => True) w (.slice A c.fields.length a) c.fields)
    (h2 : Sl kStg (fun _ => True) w (.slice B c.stages.length b) c.stages) (h3 : Sl (kMov n) (fun _ => True) w (.slice D c.moves.length d) c.moves) (hc : chkC c n = 0 → ConW n c) (hsz : xs.length + (bC n c).length ≤ 137438953472) :
    Calls Try.prog 36 #[.slice Y m z, .agg #[.string ⟨c.name.toArray⟩, .slice A c.fields.length a, .slice B c.stages.length b, .slice D c.moves.length d]] w (RetOwn kU8 5 (fun _ => True) w (xs ++ bC n c)) := by
  have HE := Lib.hid hc
  have HSZ := Lib.hid hsz
  have H1 := Lib.hid h1
  have H2 := Lib.hid h2
  have H3 := Lib.hid h3
  have HN := Lib.hid h.len.1
  have m1 := h1.len.2.2.1
  have m2 := h2.len.2.2.1
  have m3 := h3.len.2.2.1
  have l1 := h1.len.2.1
  have l2 := h2.len.2.1
  have l3 := h3.len.2.1
  have hL : Loc1 w.heap.size 26 #[.string ⟨c.name.toArray⟩, .slice A c.fields.length a, .slice B c.stages.length b, .slice D c.moves.length d] (w.alloc (.cells #[.string ⟨c.name.toArray⟩, .slice A c.fields.length a, .slice B c.stages.length b, .slice D c.moves.length d] 26)) := Loc1.new _ _ _
  have hb0 : Below w.heap.size w (w.alloc (.cells #[.string ⟨c.name.toArray⟩, .slice A c.fields.length a, .slice B c.stages.length b, .slice D c.moves.length d] 26)) := (by (focus (repeat (first | with_reducible exact Below.refl _ _ | with_reducible assumption | with_reducible refine bel_al _ ?_ | with_reducible refine bel_dr ?_ | with_reducible refine bel_dn _ ?_ | with_reducible refine bel_tr (by assumption) ?_))))
  have hnn : m ≤ 137438953472 := by have := h.len.1; omega
  have HC := Lib.hid (clone_u8 (h.below hb0) (by omega))
  have HL := Lib.hid hL
  have EB := Lib.hid (show bC n c = if chkC c n = 0 then bCon n c else [] from rfl)
  clear h h1 h2 h3 hc hsz
  go_enter Try.func36, Try.ntmps36
  go_upto_region 1 with (fail)
  generalize (w.alloc (.cells #[.string ⟨c.name.toArray⟩, .slice A c.fields.length a, .slice B c.stages.length b, .slice D c.moves.length d] 26)) = w0 at *
  have KS := Lib.hid (show ∀ W : World, Below w0.heap.size w0 W → W.cell? ⟨w.heap.size, 0, none⟩ = some (.string ⟨c.name.toArray⟩) ∧ W.cell? ⟨w.heap.size, 1, none⟩ = some (.slice A c.fields.length a) ∧ W.cell? ⟨w.heap.size, 2, none⟩ = some (.slice B c.stages.length b) ∧ W.cell? ⟨w.heap.size, 3, none⟩ = some (.slice D c.moves.length d) from fun W hb => by
    have LX := HL.out.bel hb
    obtain ⟨c0, c1, c2, c3⟩ := cells4 LX
    exact ⟨c0, c1, c2, c3⟩)
  clear hL
  go_wp2_with fail
  refine HC.out.mono ?_
  rintro x9 w1 ⟨v1, rfl, ho1, hb1⟩
  have HO1 := Lib.hid ho1
  clear ho1 HC
  have LX := HL.out.bel hb1
  obtain ⟨c0, c1, c2, c3⟩ := cells4 LX
  have hz := lt_of_heap LX
  go_wp2_with fail
  refine (checkC_c (H1.out.below (show Below w.heap.size w w1 from (by (focus (repeat (first | with_reducible exact Below.refl _ _ | with_reducible assumption | with_reducible refine bel_al _ ?_ | with_reducible refine bel_dr ?_ | with_reducible refine bel_dn _ ?_ | with_reducible refine bel_tr (by assumption) ?_)))))) (H2.out.below (show Below w.heap.size w w1 from (by (focus (repeat (first | with_reducible exact Below.refl _ _ | with_reducible assumption | with_reducible refine bel_al _ ?_ | with_reducible refine bel_dr ?_ | with_reducible refine bel_dn _ ?_ | with_reducible refine bel_tr (by assumption) ?_)))))) (H3.out.below (show Below w.heap.size w w1 from (by (focus (repeat (first | with_reducible exact Below.refl _ _ | with_reducible assumption | with_reducible refine bel_al _ ?_ | with_reducible refine bel_dr ?_ | with_reducible refine bel_dn _ ?_ | with_reducible refine bel_tr (by assumption) ?_))))))).mono ?_
  rintro x9 w2 ⟨rfl, hb2⟩
  have HO2 := Lib.hid ((show Own kU8 5 (fun _ => True) w1 w.heap.size v1 xs from HO1.out.lower (show Below w.heap.size w w0 from (by (focus (repeat (first | with_reducible exact Below.refl _ _ | with_reducible assumption | with_reducible refine bel_al _ ?_ | with_reducible refine bel_dr ?_ | with_reducible refine bel_dn _ ?_ | with_reducible refine bel_tr (by assumption) ?_))))).size).below hb2)
  clear c0 c1 c2 c3 hz LX HO1
  have LX := HL.out.bel (show Below w0.heap.size w0 w2 from (by (focus (repeat (first | with_reducible exact Below.refl _ _ | with_reducible assumption | with_reducible refine bel_al _ ?_ | with_reducible refine bel_dr ?_ | with_reducible refine bel_dn _ ?_ | with_reducible refine bel_tr (by assumption) ?_)))))
  obtain ⟨c0, c1, c2, c3⟩ := cells4 LX
  have hz := lt_of_heap LX
  by_cases hs : chkC c n = 0
  · have E1 := Lib.hid (show bC n c = bCon n c by rw [EB.out, if_pos hs])
    have HW := Lib.hid (HE.out hs)
    have HSZ := Lib.hid (show xs.length + (bBytes c.name ++ ((bCount c.fields.length ++ (c.fields.map bFld).flatten) ++ ((bCount c.stages.length ++ (c.stages.map bStg).flatten) ++ (bCount c.moves.length ++ (c.moves.map (bMov (n - 1))).flatten)))).length ≤ 137438953472 by
      have h0 := HSZ.out
      rw [E1.out] at h0
      exact h0)
    obtain ⟨A2, n2, k2, rfl, hn2⟩ := HO2.out.form'
    replace hn2 : n2 ≤ 137438953472 := by rw [hn2, HN.out]; exact hnn
    generalize chkC c n = r at *
    subst hs
    go_upto_region 4 with (fail)
    clear c0 c1 c2 c3 hz LX
    refine wp_region_held_drew (S := fun W => W.cell? ⟨w.heap.size, 0, none⟩ = some (.string ⟨c.name.toArray⟩) ∧ W.cell? ⟨w.heap.size, 1, none⟩ = some (.slice A c.fields.length a) ∧ W.cell? ⟨w.heap.size, 2, none⟩ = some (.slice B c.stages.length b) ∧ W.cell? ⟨w.heap.size, 3, none⟩ = some (.slice D c.moves.length d)) (by kernel_rfl) (KS.out _ (by (focus (repeat (first | with_reducible exact Below.refl _ _ | with_reducible assumption | with_reducible refine bel_al _ ?_ | with_reducible refine bel_dr ?_ | with_reducible refine bel_dn _ ?_ | with_reducible refine bel_tr (by assumption) ?_))))) (fun hHeld => ?_)
    refine wpAnyH_take (i := 0) (oi := { dst := some 11, op := Op.move (Operand.tmp 0), type := 63, pos := "contract.go:127", after := #[], guard := none }) (v := .slice A2 n2 k2) rfl (by kernel_rfl) (by kernel_rfl) (by kernel_rfl) (fun _ _ _ h => h) (Or.inl ⟨by rfl, by (intro wz hSw; (try dsimp only at hSw); go_simp)⟩) (by assumption) ?_
    try simp only [Act.put, List.setIfInBounds_toArray, List.set_cons_zero, List.set_cons_succ]
    refine wpAnyH_take (i := 1) (oi := { dst := some 12, op := Op.fieldAddr 26 (Operand.tmp 3) 0, type := 0, pos := "contract.go:127", after := #[], guard := none }) (v := .pointer (some ⟨w.heap.size, 0, none⟩)) rfl (by kernel_rfl) (by kernel_rfl) (by kernel_rfl) (fun _ _ _ h => h) (Or.inl ⟨by rfl, by (intro wz hSw; (try dsimp only at hSw); go_simp)⟩) (by assumption) ?_
    try simp only [Act.put, List.setIfInBounds_toArray, List.set_cons_zero, List.set_cons_succ]
    refine wpAnyH_take (i := 2) (oi := { dst := some 13, op := Op.load 9 (Operand.tmp 12), type := 9, pos := "contract.go:127", after := #[{ on := 1, ground := Ground.data }], guard := none }) (v := .string ⟨c.name.toArray⟩) rfl (by kernel_rfl) (by kernel_rfl) (by kernel_rfl) (fun _ _ _ h => h) (Or.inl ⟨by rfl, by (intro wz hSw; (try dsimp only at hSw); go_simp)⟩) (by assumption) ?_
    try simp only [Act.put, List.setIfInBounds_toArray, List.set_cons_zero, List.set_cons_succ]
    refine wpAnyH_take (i := 4) (oi := { dst := some 15, op := Op.fieldAddr 26 (Operand.tmp 3) 1, type := 0, pos := "contract.go:127", after := #[], guard := none }) (v := .pointer (some ⟨w.heap.size, 1, none⟩)) rfl (by kernel_rfl) (by kernel_rfl) (by kernel_rfl) (fun _ _ _ h => h) (Or.inl ⟨by rfl, by (intro wz hSw; (try dsimp only at hSw); go_simp)⟩) (by assumption) ?_
    try simp only [Act.put, List.setIfInBounds_toArray, List.set_cons_zero, List.set_cons_succ]
    refine wpAnyH_take (i := 5) (oi := { dst := some 16, op := Op.load 22 (Operand.tmp 15), type := 22, pos := "contract.go:127", after := #[{ on := 4, ground := Ground.data }], guard := none }) (v := .slice A c.fields.length a) rfl (by kernel_rfl) (by kernel_rfl) (by kernel_rfl) (fun _ _ _ h => h) (Or.inl ⟨by rfl, by (intro wz hSw; (try dsimp only at hSw); go_simp)⟩) (by assumption) ?_
    try simp only [Act.put, List.setIfInBounds_toArray, List.set_cons_zero, List.set_cons_succ]
    refine wpAnyH_ready (rs := [3]) (by kernel_rfl) (by simp) ?_
    refine (AllReadyH.cons (o := { dst := some 14, op := Op.call { callee := Callee.value (Operand.func 54), args := #[Operand.tmp 11, Operand.tmp 13], argTypes := #[63, 9] }, type := 63, pos := "contract.go:127", after := #[{ on := 0, ground := Ground.data }, { on := 2, ground := Ground.data }], guard := none }) rfl (fun K hK => ?_) AllReadyH.nil)
    go_simp
    refine (text6_c (HO2.out.read.below (by (focus (repeat (first | with_reducible exact Below.refl _ _ | with_reducible assumption | with_reducible refine bel_al _ ?_ | with_reducible refine bel_dr ?_ | with_reducible refine bel_dn _ ?_ | with_reducible refine bel_tr (by assumption) ?_))))) c.name HW.out.name (by omega)).mono ?_
    rintro x9 w6 ⟨vw6, rfl, how6, hbw6⟩
    obtain ⟨Aw6, nw6, ccw6, rfl, -⟩ := how6.form'
    refine hK.out _ _ (KS.out _ (by (focus (repeat (first | with_reducible exact Below.refl _ _ | with_reducible assumption | with_reducible refine bel_al _ ?_ | with_reducible refine bel_dr ?_ | with_reducible refine bel_dn _ ?_ | with_reducible refine bel_tr (by assumption) ?_))))) (fun hHeld => ?_)
    clear hK K
    try simp only [Act.put, List.setIfInBounds_toArray, List.set_cons_zero, List.set_cons_succ]
    refine wpAnyH_ready (rs := [6]) (by kernel_rfl) (by simp) ?_
    refine (AllReadyH.cons (o := { dst := some 17, op := Op.call { callee := Callee.value (Operand.func 53), args := #[Operand.tmp 14, Operand.tmp 16, Operand.func 55], argTypes := #[63, 22, 86] }, type := 63, pos := "contract.go:127", after := #[{ on := 3, ground := Ground.data }, { on := 5, ground := Ground.data }, { on := 3, ground := Ground.chain }], guard := none }) rfl (fun K hK => ?_) AllReadyH.nil)
    go_simp
    refine (lstf_c (m := 0) 55 bFld (how6.read.below (by (focus (repeat (first | with_reducible exact Below.refl _ _ | with_reducible assumption | with_reducible refine bel_al _ ?_ | with_reducible refine bel_dr ?_ | with_reducible refine bel_dn _ ?_ | with_reducible refine bel_tr (by assumption) ?_))))) (H1.out.below (by (focus (repeat (first | with_reducible exact Below.refl _ _ | with_reducible assumption | with_reducible refine bel_al _ ?_ | with_reducible refine bel_dr ?_ | with_reducible refine bel_dn _ ?_ | with_reducible refine bel_tr (by assumption) ?_))))) (fun _ _ => rfl) (fun W A' n' c' ys e B d _ he hk hr hl => putFld_c e hr hk (HW.out.fields e he) hl) (by have h0 := HSZ.out; have h1 := HN.out; simp only [List.length_append] at h0 ⊢; (try simp only [bInt_len, bCount_len] at h0 ⊢); omega) HW.out.nf).mono ?_
    rintro x9 w7 ⟨vw7, rfl, how7, hbw7⟩
    obtain ⟨Aw7, nw7, ccw7, rfl, -⟩ := how7.form'
    refine hK.out _ _ (KS.out _ (by (focus (repeat (first | with_reducible exact Below.refl _ _ | with_reducible assumption | with_reducible refine bel_al _ ?_ | with_reducible refine bel_dr ?_ | with_reducible refine bel_dn _ ?_ | with_reducible refine bel_tr (by assumption) ?_))))) (fun hHeld => ?_)
    clear hK K
    try simp only [Act.put, List.setIfInBounds_toArray, List.set_cons_zero, List.set_cons_succ]
    refine wpAnyH_take (i := 7) (oi := { dst := some 0, op := Op.assign (Operand.tmp 17), type := 63, pos := "contract.go:127", after := #[{ on := 6, ground := Ground.data }, { on := 6, ground := Ground.chain }, { on := 0, ground := Ground.phase }, { on := 1, ground := Ground.phase }, { on := 2, ground := Ground.phase }, { on := 3, ground := Ground.phase }, { on := 4, ground := Ground.phase }, { on := 5, ground := Ground.phase }, { on := 6, ground := Ground.phase }], guard := none }) (v := .slice Aw7 nw7 ccw7) rfl (by kernel_rfl) (by kernel_rfl) (by kernel_rfl) (fun _ _ _ h => h) (Or.inl ⟨by rfl, by (intro wz hSw; (try dsimp only at hSw); go_simp)⟩) (by assumption) ?_
    try simp only [Act.put, List.setIfInBounds_toArray, List.set_cons_zero, List.set_cons_succ]
    refine wpAnyH_done (by kernel_rfl) ?_ _
    simp only [Exit.then]
    have LX := HL.out.bel (show Below w0.heap.size w0 w7 from (by (focus (repeat (first | with_reducible exact Below.refl _ _ | with_reducible assumption | with_reducible refine bel_al _ ?_ | with_reducible refine bel_dr ?_ | with_reducible refine bel_dn _ ?_ | with_reducible refine bel_tr (by assumption) ?_)))))
    obtain ⟨c0, c1, c2, c3⟩ := cells4 LX
    have hz := lt_of_heap LX
    have HO7 := Lib.hid how7
    clear how7
    go_wp2_with fail
    refine (lstt_c (m := 0) 60 bStg HO7.out.read (H2.out.below (show Below w.heap.size w w7 from (by (focus (repeat (first | with_reducible exact Below.refl _ _ | with_reducible assumption | with_reducible refine bel_al _ ?_ | with_reducible refine bel_dr ?_ | with_reducible refine bel_dn _ ?_ | with_reducible refine bel_tr (by assumption) ?_)))))) (fun _ _ => rfl) (fun W A' n' c' ys e B d _ he hk hr hl => putStg_c e hr hk (HW.out.stages e he) hl) (by have h0 := HSZ.out; have h1 := HN.out; simp only [List.length_append] at h0 ⊢; (try simp only [bInt_len, bCount_len] at h0 ⊢); omega) HW.out.ns).mono ?_
    rintro x9 w8 ⟨v8, rfl, ho8, hb8⟩
    obtain ⟨A8, n8, c8, rfl, -⟩ := ho8.form'
    have HO8 := Lib.hid ho8
    clear ho8 c0 c1 c2 c3 hz LX
    have LX := HL.out.bel (show Below w0.heap.size w0 w8 from (by (focus (repeat (first | with_reducible exact Below.refl _ _ | with_reducible assumption | with_reducible refine bel_al _ ?_ | with_reducible refine bel_dr ?_ | with_reducible refine bel_dn _ ?_ | with_reducible refine bel_tr (by assumption) ?_)))))
    obtain ⟨c0, c1, c2, c3⟩ := cells4 LX
    have hz := lt_of_heap LX
    go_wp2_with fail
    refine (lstm_c (m := n) 63 (bMov (n - 1)) HO8.out.read (H3.out.below (show Below w.heap.size w w8 from (by (focus (repeat (first | with_reducible exact Below.refl _ _ | with_reducible assumption | with_reducible refine bel_al _ ?_ | with_reducible refine bel_dr ?_ | with_reducible refine bel_dn _ ?_ | with_reducible refine bel_tr (by assumption) ?_)))))) (fun _ _ => rfl) (fun W A' n' c' ys e k B b D d _ he hk h1 h2 hr hl => (by subst hk; exact putMov_c e hr h1 h2 (HW.out.moves e he) hl)) (by have h0 := HSZ.out; have h1 := HN.out; simp only [List.length_append] at h0 ⊢; (try simp only [bInt_len, bCount_len] at h0 ⊢); omega) HW.out.nm).mono ?_
    rintro x9 w9 ⟨v9, rfl, ho9, hb9⟩
    have HO9 := Lib.hid ho9
    clear ho9
    go_wp2_with fail
    go_ret
    exact ⟨_, rfl, by
      have h1 := HO9.out.lower (show Below w.heap.size w w8 from (by (focus (repeat (first | with_reducible exact Below.refl _ _ | with_reducible assumption | with_reducible refine bel_al _ ?_ | with_reducible refine bel_dr ?_ | with_reducible refine bel_dn _ ?_ | with_reducible refine bel_tr (by assumption) ?_))))).size
      rw [E1.out]
      unfold bCon
      simp only [List.append_assoc] at h1 ⊢
      exact h1, (by (focus (repeat (first | with_reducible exact Below.refl _ _ | with_reducible assumption | with_reducible refine bel_al _ ?_ | with_reducible refine bel_dr ?_ | with_reducible refine bel_dn _ ?_ | with_reducible refine bel_tr (by assumption) ?_))))⟩
  · have E1 := Lib.hid (show bC n c = [] by rw [EB.out, if_neg hs])
    generalize chkC c n = r at *
    go_wp2_with fail
    go_ret
    rw [E1.out, List.append_nil]
    exact ⟨_, rfl, HO2.out, (by (focus (repeat (first | with_reducible exact Below.refl _ _ | with_reducible assumption | with_reducible refine bel_al _ ?_ | with_reducible refine bel_dr ?_ | with_reducible refine bel_dn _ ?_ | with_reducible refine bel_tr (by assumption) ?_))))⟩
end
end Go.Proofs.Ytjnhgfmjehaalaa
