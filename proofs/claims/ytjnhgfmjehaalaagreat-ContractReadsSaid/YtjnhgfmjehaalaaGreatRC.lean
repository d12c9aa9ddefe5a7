/- The references' bytes: contracts. -/
import Derived.Test.YtjnhgfmjehaalaaGreatMM
import Derived.Test.YtjnhgfmjehaalaaGreatMO
namespace Go.Proofs.YtjnhgfmjehaalaaGreat
open Go.RowKit
set_option linter.unusedVariables false
set_option linter.unusedSimpArgs false
theorem flat_next {α : Type} {f : α → List UInt8} {l : List α} {i : Nat} {x : α} (h : l[i]? = some x) : ((l.take (i + 1)).map f).flatten = ((l.take i).map f).flatten ++ f x := by
 rw [List.take_add_one, h, List.map_append, List.flatten_append]
 simp
theorem flat_at {α : Type} {f : α → List UInt8} {l : List α} {i : Nat} {x : α} (h : l[i]? = some x) : (((l.take i).map f).flatten).length + (f x).length ≤ ((l.map f).flatten).length := by
 have h1 : ((l.take (i + 1)).map f).flatten.length ≤ ((l.map f).flatten).length := by
  conv => rhs; rw [← List.take_append_drop (i + 1) l]
  rw [List.map_append, List.flatten_append, List.length_append]; omega
 rw [flat_next h, List.length_append] at h1
 exact h1
section
variable {w : World}
set_option maxRecDepth 100000 in
set_option maxHeartbeats 20000000 in
theorem rputC_c {A B D : Option Addr} {a b d : Nat} {n : Nat} {Y : Option Addr} {m z : Nat} {xs : List UInt8} (c : Con) (h : Sl kU8 (fun _ => True) w (.slice Y m z) xs) (h1 : Sl kFld (fun _ => True) w (.slice A c.fields.length a) c.fields)
 (h2 : Sl kStg (fun _ => True) w (.slice B c.stages.length b) c.stages) (h3 : Sl (kMov n) (fun _ => True) w (.slice D c.moves.length d) c.moves) (hc : chkC c n = 0 → ConW n c) (hsz : xs.length + (bC n c).length ≤ 137438953472) :
 Calls Tryz.prog 10 #[.slice Y m z, .agg #[.string ⟨c.name.toArray⟩, .slice A c.fields.length a, .slice B c.stages.length b, .slice D c.moves.length d]] w (RetOwn kU8 5 (fun _ => True) w (xs ++ bC n c)) := by
 have SF := store_f64
 have HF := hidS h1
 have HS := hidS h2
 have HM := hidS h3
 have HR := Lib.hid (show ∀ W : World, Below w.heap.size w W → Calls Tryz.prog 13 #[.agg #[.string ⟨c.name.toArray⟩, .slice A c.fields.length a, .slice B c.stages.length b, .slice D c.moves.length d]] W (Ret W (.int .i64 (chkC c n))) from fun W hW => chk_eq c n ▸ checkR_c (HF.out W hW) (HS.out W hW) (HM.out W hW))
 have HY := Lib.hid h
 have HCW := Lib.hid hc
 have HSZ := Lib.hid hsz
 have EC := Lib.hid (show bC n c = if chkC c n = 0 then bCon n c else [] from rfl)
 have l1 := h1.len.2.1
 have l2 := h2.len.2.1
 have l3 := h3.len.2.1
 have m1 := h1.len.2.2.1
 have m2 := h2.len.2.2.1
 have m3 := h3.len.2.2.1
 have HXL := Lib.hid (show xs.length ≤ 137438953472 by omega)
 clear h h1 h2 h3 hc hsz
 have hL := Loc1.new w 26 #[.string ⟨c.name.toArray⟩, .slice A c.fields.length a, .slice B c.stages.length b, .slice D c.moves.length d]
 have B0 : Below w.heap.size w (w.alloc (.cells #[.string ⟨c.name.toArray⟩, .slice A c.fields.length a, .slice B c.stages.length b, .slice D c.moves.length d] 26)) := bW
 have KK := kk4 hL
 clear hL
 go_enter Tryz.func10, Tryz.ntmps10
 go_upto_region 1 with (fail)
 generalize (w.alloc (.cells #[.string ⟨c.name.toArray⟩, .slice A c.fields.length a, .slice B c.stages.length b, .slice D c.moves.length d] 26)) = w0 at *
 have B5 := Lib.hid (show Below w0.heap.size w0 (w0.alloc (.cells #[] 5)) from bW)
 have HY0 := Lib.hid (HY.out.below (show Below w.heap.size w (w0.alloc (.cells #[] 5)) from bW))
 go_upto_region 2 with (first | (at_builtin; refine at_append rfl (.tmp 15) (.tmp 16) 29 29 rfl rfl rfl (run_append_own_sl Tryz.underlying29 Tryz.underlying29 infoU8 rfl (own_empty w0 (fun _ => True) 5) B5.out.size HY0.out (by have := HXL.out; simp; omega) (by have := HXL.out; simp; omega)) ?_; rintro v' w1 ⟨ho3, hb3⟩; have HO1 := Lib.hid (show Own kU8 5 (fun _ => True) w1 w.heap.size v' xs from (show Own kU8 5 (fun _ => True) w1 w0.heap.size v' xs from ho3).lower B0.size); have hb1 : Below w0.heap.size w0 w1 := B5.out.trans hb3; clear ho3 hb3))
 obtain ⟨A1, n1, c1, rfl, hn1⟩ := HO1.out.form'
 have HN1 := Lib.hid (show n1 ≤ 137438953472 by rw [hn1]; exact HXL.out)
 clear hn1 B5 HY0
 obtain ⟨⟨c0, c1, c2, c3⟩, hz⟩ := KK.out w1 bW
 go_wp2_with fail
 refine (HR.out _ bW).mono ?_
 rintro x9 w2 ⟨rfl, hb2⟩
 have HO2 := Lib.hid (HO1.out.below hb2)
 clear c0 c1 c2 c3 hz HO1
 by_cases hk : chkC c n = 0
 rotate_left
 ·have E1 := Lib.hid (show bC n c = [] by rw [EC.out, if_neg hk])
  go_wp2_with fail
  go_ret
  rw [E1.out, List.append_nil]
  exact ⟨_, rfl, HO2.out, bW⟩
 have CW := Lib.hid (HCW.out hk)
 replace EC := Lib.hid (show bC n c = bBytes c.name ++ ((bCount c.fields.length ++ (c.fields.map bFld).flatten) ++ ((bCount c.stages.length ++ (c.stages.map bStg).flatten) ++ (bCount c.moves.length ++ (c.moves.map (bMov (n - 1))).flatten))) by rw [EC.out, if_pos hk]; rfl)
 have SZ := Lib.hid (show xs.length + (bBytes c.name).length + (bCount c.fields.length).length + ((c.fields.map bFld).flatten).length + (bCount c.stages.length).length + ((c.stages.map bStg).flatten).length + (bCount c.moves.length).length + ((c.moves.map (bMov (n - 1))).flatten).length ≤ 137438953472 by have h1 := HSZ.out; rw [EC.out] at h1; simp only [List.length_append] at h1; omega)
 have SZ0 := SZ
 rw [hk]
 clear HCW HSZ hk HR HXL
 obtain ⟨⟨c0, c1, c2, c3⟩, hz⟩ := KK.out w2 bW
 go_upto_region 4 with (fail)
 clear c0 c1 c2 c3 hz
 go_region_held3 (fun W => W.cell? ⟨w.heap.size, 0, none⟩ = some (.string ⟨c.name.toArray⟩) ∧ W.cell? ⟨w.heap.size, 1, none⟩ = some (.slice A c.fields.length a) ∧ W.cell? ⟨w.heap.size, 2, none⟩ = some (.slice B c.stages.length b) ∧ W.cell? ⟨w.heap.size, 3, none⟩ = some (.slice D c.moves.length d)) (exact (KK.out _ bW).1)
  (first
  | (go_at_call 39; refine (rtext6_c (HO2.out.read.below bW) c.name CW.out.name (by have := HN1.out; omega)).mono ?_; rintro x9 w3 ⟨v9, rfl, ho, hbw3⟩; obtain ⟨A3, n3, c3, rfl, hn⟩ := ho.form'; have HO3 := Lib.hid (show Own kU8 5 (fun _ => True) w3 w.heap.size (.slice A3 n3 c3) (xs ++ bBytes c.name) from (by have h1 := ho.lower (show w.heap.size ≤ (w2.drew).heap.size from (show Below w.heap.size w (w2.drew) from bW).size); simpa only [List.append_assoc] using h1)); have HN3 := Lib.hid (show n3 ≤ 137438953472 from (by rw [hn]; have h1 := SZ.out; simp only [List.length_append] at h1 ⊢; omega)); clear ho hn)
  | (go_at_call 38; refine (countRef_c (HO3.out.read.below bW) c.fields.length CW.out.nf (by have := HN3.out; omega)).mono ?_; rintro x9 w4 ⟨v9, rfl, ho, hbw4⟩; obtain ⟨A4, n4, c4, rfl, hn⟩ := ho.form'; have HO4 := Lib.hid (show Own kU8 5 (fun _ => True) w4 w.heap.size (.slice A4 n4 c4) (xs ++ (bBytes c.name ++ bCount c.fields.length)) from (by have h1 := ho.lower (show w.heap.size ≤ (w3).heap.size from (show Below w.heap.size w (w3) from bW).size); simpa only [List.append_assoc] using h1)); have HN4 := Lib.hid (show n4 ≤ 137438953472 from (by rw [hn]; have h1 := SZ.out; simp only [List.length_append] at h1 ⊢; omega)); clear ho hn))
 go_wp2_with fail
 go_loopw [6, 5] (fun vi vo wz => ∃ i : Nat, i ≤ c.fields.length ∧ vi = .int .i64 i ∧ Own kU8 5 (fun _ => True) wz w.heap.size vo (xs ++ (bBytes c.name ++ (bCount c.fields.length ++ ((c.fields.take i).map bFld).flatten))) ∧ Below w0.heap.size w0 wz) (fun vi _ _ => c.fields.length - (intOf vi).toNat)
 case atStart => exact ⟨0, Nat.zero_le _, rfl, (by rw [show ((c.fields.take 0).map bFld).flatten = [] from rfl, List.append_nil]; exact HO4.out), bW⟩
 case round =>
  clear hb1 hb2 hbw3 hbw4 HO2 HO3 HO4 HN1 HN3 HN4
  obtain ⟨wo, hwx⟩ : ∃ x, x = wr := ⟨_, rfl⟩
  subst hwx
  obtain ⟨i, hii, rfl, ho, hbo⟩ := hrel
  obtain ⟨Ao, no, co, rfl, hn⟩ := ho.form'
  have HOo := Lib.hid ho
  have HHo := Lib.hid hn
  clear hn ho
  obtain ⟨⟨c0, c1, c2, c3⟩, hz⟩ := KK.out wo bW
  by_cases hlt : i < c.fields.length
  ·obtain ⟨ad, f, E, e', rfl, hx, he, q0, q1, q2, q3, q4, q5, q6, q7⟩ := fld_at (HF.out wo bW) hlt
   have me1 := he.len.2.1
   have me2 := he.len.2.2.1
   have HX := Lib.hid hx
   have HE := Lib.hid he
   have FW := Lib.hid (CW.out.fields f (List.mem_of_getElem? hx))
   replace SZ := Lib.hid (show xs.length + (bBytes c.name).length + (bCount c.fields.length).length + (((c.fields.take i).map bFld).flatten).length + (bBytes f.name).length + (bInt f.kind).length + (bCount f.enum.length).length + ((f.enum.map bBytes).flatten).length + (bVal f.init).length ≤ 137438953472 from (by
    have h1 := flat_at (f := bFld) hx
    have h2 := SZ0.out
    have h3 : (bFld f).length = (bBytes f.name).length + (bInt f.kind).length + (bCount f.enum.length).length + ((f.enum.map bBytes).flatten).length + (bVal f.init).length := by unfold bFld; simp only [List.length_append]; omega
    omega))
   have HN5 := Lib.hid (show no ≤ 137438953472 from (by rw [HHo.out]; have h1 := SZ.out; simp only [List.length_append] at h1 ⊢; omega))
   clear hx he
   go_upto_region 9 with (fail)
   have hLf := Loc1.new wo 41 #[.string ⟨f.name.toArray⟩, .int .i64 f.kind, .slice E f.enum.length e', .int .i64 f.init.kind, .int .i64 f.init.int, .bool f.init.bool, .string ⟨f.init.text.toArray⟩, .float .f64 f.init.num]
   have hbk : Below wo.heap.size wo (wo.alloc (.cells #[.string ⟨f.name.toArray⟩, .int .i64 f.kind, .slice E f.enum.length e', .int .i64 f.init.kind, .int .i64 f.init.int, .bool f.init.bool, .string ⟨f.init.text.toArray⟩, .float .f64 f.init.num] 41)) := bW
   have HO5 := Lib.hid (HOo.out.below hbk)
   generalize (wo.alloc (.cells #[.string ⟨f.name.toArray⟩, .int .i64 f.kind, .slice E f.enum.length e', .int .i64 f.init.kind, .int .i64 f.init.int, .bool f.init.bool, .string ⟨f.init.text.toArray⟩, .float .f64 f.init.num] 41)) = w5 at *
   have KF := Lib.hid (show ∀ W : World, Below w5.heap.size w5 W → (W.cell? ⟨wo.heap.size, 0, none⟩ = some (.string ⟨f.name.toArray⟩) ∧ W.cell? ⟨wo.heap.size, 1, none⟩ = some (.int .i64 f.kind) ∧ W.cell? ⟨wo.heap.size, 2, none⟩ = some (.slice E f.enum.length e') ∧ W.cell? ⟨wo.heap.size, 3, none⟩ = some (.int .i64 f.init.kind) ∧ W.cell? ⟨wo.heap.size, 4, none⟩ = some (.int .i64 f.init.int) ∧ W.cell? ⟨wo.heap.size, 5, none⟩ = some (.bool f.init.bool) ∧ W.cell? ⟨wo.heap.size, 6, none⟩ = some (.string ⟨f.init.text.toArray⟩) ∧ W.cell? ⟨wo.heap.size, 7, none⟩ = some (.float .f64 f.init.num)) from fun W hW => ⟨cell_of (hLf.bel hW) 0, cell_of (hLf.bel hW) 1, cell_of (hLf.bel hW) 2, cell_of (hLf.bel hW) 3, cell_of (hLf.bel hW) 4, cell_of (hLf.bel hW) 5, cell_of (hLf.bel hW) 6, cell_of (hLf.bel hW) 7⟩)
   clear hLf q0 q1 q2 q3 q4 q5 q6 q7 c0 c1 c2 c3 hz HOo
   go_region_held3 (fun W => (W.cell? ⟨wo.heap.size, 0, none⟩ = some (.string ⟨f.name.toArray⟩) ∧ W.cell? ⟨wo.heap.size, 1, none⟩ = some (.int .i64 f.kind) ∧ W.cell? ⟨wo.heap.size, 2, none⟩ = some (.slice E f.enum.length e') ∧ W.cell? ⟨wo.heap.size, 3, none⟩ = some (.int .i64 f.init.kind) ∧ W.cell? ⟨wo.heap.size, 4, none⟩ = some (.int .i64 f.init.int) ∧ W.cell? ⟨wo.heap.size, 5, none⟩ = some (.bool f.init.bool) ∧ W.cell? ⟨wo.heap.size, 6, none⟩ = some (.string ⟨f.init.text.toArray⟩) ∧ W.cell? ⟨wo.heap.size, 7, none⟩ = some (.float .f64 f.init.num))) (exact KF.out _ bW)
    (first
    | (go_at_call 39; refine (rtext6_c (HO5.out.read.below bW) f.name FW.out.name (by have := HN5.out; omega)).mono ?_; rintro x9 w6 ⟨v9, rfl, ho, hbw6⟩; obtain ⟨A6, n6, c6, rfl, hn⟩ := ho.form'; have HO6 := Lib.hid (show Own kU8 5 (fun _ => True) w6 w.heap.size (.slice A6 n6 c6) (xs ++ (bBytes c.name ++ (bCount c.fields.length ++ (((c.fields.take i).map bFld).flatten ++ (bBytes f.name))))) from (by have h1 := ho.lower (show w.heap.size ≤ (w5.drew).heap.size from (show Below w.heap.size w (w5.drew) from bW).size); simpa only [List.append_assoc] using h1)); have HN6 := Lib.hid (show n6 ≤ 137438953472 from (by rw [hn]; have h1 := SZ.out; simp only [List.length_append] at h1 ⊢; omega)); clear ho hn)
    | (go_at_call 40; refine (intRef_c (HO6.out.read.below bW) f.kind FW.out.kind.1 FW.out.kind.2 (by have := HN6.out; omega)).mono ?_; rintro x9 w7 ⟨v9, rfl, ho, hbw7⟩; obtain ⟨A7, n7, c7, rfl, hn⟩ := ho.form'; have HO7 := Lib.hid (show Own kU8 5 (fun _ => True) w7 w.heap.size (.slice A7 n7 c7) (xs ++ (bBytes c.name ++ (bCount c.fields.length ++ (((c.fields.take i).map bFld).flatten ++ (bBytes f.name ++ bInt f.kind))))) from (by have h1 := ho.lower (show w.heap.size ≤ (w6).heap.size from (show Below w.heap.size w (w6) from bW).size); simpa only [List.append_assoc] using h1)); have HN7 := Lib.hid (show n7 ≤ 137438953472 from (by rw [hn]; have h1 := SZ.out; simp only [List.length_append] at h1 ⊢; omega)); clear ho hn))
   obtain ⟨q0, q1, q2, q3, q4, q5, q6, q7⟩ := KF.out w7 bW
   go_wp2_with fail
   refine (countRef_c (HO7.out.read.below bW) f.enum.length FW.out.few (by have := HN7.out; omega)).mono ?_
   rintro x9 w8 ⟨v9, rfl, ho, hbw8⟩
   obtain ⟨A8, n8, c8, rfl, hn⟩ := ho.form'
   have HO8 := Lib.hid (show Own kU8 5 (fun _ => True) w8 w.heap.size (.slice A8 n8 c8) (xs ++ (bBytes c.name ++ (bCount c.fields.length ++ (((c.fields.take i).map bFld).flatten ++ (bBytes f.name ++ (bInt f.kind ++ bCount f.enum.length)))))) from (by have h1 := ho.lower (show w.heap.size ≤ (w7).heap.size from (show Below w.heap.size w (w7) from bW).size); simpa only [List.append_assoc] using h1))
   have HN8 := Lib.hid (show n8 ≤ 137438953472 from (by rw [hn]; have h1 := SZ.out; simp only [List.length_append] at h1 ⊢; omega))
   clear ho hn
   clear q0 q1 q2 q3 q4 q5 q6 q7 HO5 HO6 HO7 HN5 HN6 HN7
   go_wp2_with fail
   go_loopw [8, 5] (fun vi vo wz => ∃ k : Nat, k ≤ f.enum.length ∧ vi = .int .i64 k ∧ Own kU8 5 (fun _ => True) wz w.heap.size vo (xs ++ (bBytes c.name ++ (bCount c.fields.length ++ (((c.fields.take i).map bFld).flatten ++ (bBytes f.name ++ (bInt f.kind ++ (bCount f.enum.length ++ ((f.enum.take k).map bBytes).flatten))))))) ∧ Below w5.heap.size w5 wz) (fun vi _ _ => f.enum.length - (intOf vi).toNat)
   case atStart => exact ⟨0, Nat.zero_le _, rfl, (by rw [show ((f.enum.take 0).map bBytes).flatten = [] from rfl, List.append_nil]; exact HO8.out), bW⟩
   case round =>
    clear hbw6 hbw7 hbw8 HO8 HN8
    obtain ⟨wk, hwx⟩ : ∃ x, x = wr := ⟨_, rfl⟩
    subst hwx
    obtain ⟨k, hik, rfl, ho, hbk⟩ := hrel
    obtain ⟨Ak, nk, ck, rfl, hn⟩ := ho.form'
    have HOk := Lib.hid ho
    have HHk := Lib.hid hn
    clear hn ho
    obtain ⟨q0, q1, q2, q3, q4, q5, q6, q7⟩ := KF.out wk bW
    by_cases hlk : k < f.enum.length
    ·obtain ⟨ax, s, rfl, hs, hcs⟩ := str_at (HE.out.below (show Below wo.heap.size wo wk from bW)) hlk
     have HT := Lib.hid (flat_next (f := bBytes) hs)
     have HSM := Lib.hid (FW.out.enum s (List.mem_of_getElem? hs))
     replace SZ := Lib.hid (show xs.length + (bBytes c.name).length + (bCount c.fields.length).length + (((c.fields.take i).map bFld).flatten).length + (bBytes f.name).length + (bInt f.kind).length + (bCount f.enum.length).length + (((f.enum.take k).map bBytes).flatten).length + (bBytes s).length + (bVal f.init).length ≤ 137438953472 from (by
      have h1 := flat_at (f := bBytes) hs
      have h2 := SZ.out
      omega))
     have HN9 := Lib.hid (show nk ≤ 137438953472 from (by rw [HHk.out]; have h1 := SZ.out; simp only [List.length_append] at h1 ⊢; omega))
     clear hs
     go_wp2_with fail
     refine (rtext6_c (HOk.out.read.below bW) s HSM.out (by have := HN9.out; omega)).mono ?_
     rintro x9 w9 ⟨v9, rfl, ho, hbw9⟩
     obtain ⟨A10, n10, c10, rfl, hn⟩ := ho.form'
     have HO10 := Lib.hid (show Own kU8 5 (fun _ => True) w9 w.heap.size (.slice A10 n10 c10) (xs ++ (bBytes c.name ++ (bCount c.fields.length ++ (((c.fields.take i).map bFld).flatten ++ (bBytes f.name ++ (bInt f.kind ++ (bCount f.enum.length ++ (((f.enum.take k).map bBytes).flatten ++ bBytes s)))))))) from (by have h1 := ho.lower (show w.heap.size ≤ (wk).heap.size from (show Below w.heap.size w (wk) from bW).size); simpa only [List.append_assoc] using h1))
     have HN10 := Lib.hid (show n10 ≤ 137438953472 from (by rw [hn]; have h1 := SZ.out; simp only [List.length_append] at h1 ⊢; omega))
     clear ho hn
     have HOy := Lib.hid (show Own kU8 5 (fun _ => True) w9 w.heap.size (.slice A10 n10 c10) (xs ++ (bBytes c.name ++ (bCount c.fields.length ++ (((c.fields.take i).map bFld).flatten ++ (bBytes f.name ++ (bInt f.kind ++ (bCount f.enum.length ++ ((f.enum.take (k + 1)).map bBytes).flatten))))))) from (by rw [HT.out]; exact HO10.out))
     clear q0 q1 q2 q3 q4 q5 q6 q7 hcs HO10 HOk
     go_wp2_with fail
     go_roundw
     case rel => exact ⟨k + 1, by omega, by go_num, HOy.out, bW⟩
     case measure => simp [intOf]; omega
    ·have HOy := Lib.hid (show Own kU8 5 (fun _ => True) wk w.heap.size (.slice Ak nk ck) (xs ++ (bBytes c.name ++ (bCount c.fields.length ++ (((c.fields.take i).map bFld).flatten ++ (bBytes f.name ++ (bInt f.kind ++ (bCount f.enum.length ++ (f.enum.map bBytes).flatten))))))) from (by have h1 := HOk.out; rwa [List.take_of_length_le (show f.enum.length ≤ k by omega)] at h1))
     have HHe := Lib.hid (show nk = (xs ++ (bBytes c.name ++ (bCount c.fields.length ++ (((c.fields.take i).map bFld).flatten ++ (bBytes f.name ++ (bInt f.kind ++ (bCount f.enum.length ++ (f.enum.map bBytes).flatten))))))).length from (by rw [HHk.out, List.take_of_length_le (show f.enum.length ≤ k by omega)]))
     have HN9 := Lib.hid (show nk ≤ 137438953472 from (by rw [HHe.out]; have h1 := SZ.out; simp only [List.length_append] at h1 ⊢; omega))
     go_wp2_with fail
     refine (rputV_c (HOy.out.read.below bW) f.init FW.out.init (by have := HN9.out; omega)).mono ?_
     rintro x9 w9 ⟨v9, rfl, ho, hbw9⟩
     obtain ⟨A10, n10, c10, rfl, hn⟩ := ho.form'
     have HO10 := Lib.hid (show Own kU8 5 (fun _ => True) w9 w.heap.size (.slice A10 n10 c10) (xs ++ (bBytes c.name ++ (bCount c.fields.length ++ (((c.fields.take i).map bFld).flatten ++ (bBytes f.name ++ (bInt f.kind ++ (bCount f.enum.length ++ ((f.enum.map bBytes).flatten ++ bVal f.init)))))))) from (by have h1 := ho.lower (show w.heap.size ≤ (wk).heap.size from (show Below w.heap.size w (wk) from bW).size); simpa only [List.append_assoc] using h1))
     have HN10 := Lib.hid (show n10 ≤ 137438953472 from (by rw [hn]; have h1 := SZ.out; simp only [List.length_append] at h1 ⊢; omega))
     clear ho hn
     have HOz := Lib.hid (show Own kU8 5 (fun _ => True) w9 w.heap.size (.slice A10 n10 c10) (xs ++ (bBytes c.name ++ (bCount c.fields.length ++ ((c.fields.take (i + 1)).map bFld).flatten))) from (by rw [flat_next HX.out, show bFld f = bBytes f.name ++ (bInt f.kind ++ ((bCount f.enum.length ++ (f.enum.map bBytes).flatten) ++ bVal f.init)) from rfl]; simpa only [List.append_assoc] using HO10.out))
     clear q0 q1 q2 q3 q4 q5 q6 q7 HO10 HOk HOy
     go_wp2_with fail
     go_roundw
     case rel => exact ⟨i + 1, by omega, by go_num, HOz.out, bW⟩
     case measure => simp [intOf]; omega
  ·have HOy := Lib.hid (show Own kU8 5 (fun _ => True) wo w.heap.size (.slice Ao no co) (xs ++ (bBytes c.name ++ (bCount c.fields.length ++ (c.fields.map bFld).flatten))) from (by have h1 := HOo.out; rwa [List.take_of_length_le (show c.fields.length ≤ i by omega)] at h1))
   have HHe := Lib.hid (show no = (xs ++ (bBytes c.name ++ (bCount c.fields.length ++ (c.fields.map bFld).flatten))).length from (by rw [HHo.out, List.take_of_length_le (show c.fields.length ≤ i by omega)]))
   have HN5 := Lib.hid (show no ≤ 137438953472 from (by rw [HHe.out]; have h1 := SZ.out; simp only [List.length_append] at h1 ⊢; omega))
   clear HOo
   go_wp2_with fail
   refine (countRef_c (HOy.out.read.below bW) c.stages.length CW.out.ns (by have := HN5.out; omega)).mono ?_
   rintro x9 w4 ⟨v9, rfl, ho, hbw4⟩
   obtain ⟨A4, n4, c4, rfl, hn⟩ := ho.form'
   have HO4 := Lib.hid (show Own kU8 5 (fun _ => True) w4 w.heap.size (.slice A4 n4 c4) (xs ++ (bBytes c.name ++ (bCount c.fields.length ++ ((c.fields.map bFld).flatten ++ bCount c.stages.length)))) from (by have h1 := ho.lower (show w.heap.size ≤ (wo).heap.size from (show Below w.heap.size w (wo) from bW).size); simpa only [List.append_assoc] using h1))
   have HN4 := Lib.hid (show n4 ≤ 137438953472 from (by rw [hn]; have h1 := SZ.out; simp only [List.length_append] at h1 ⊢; omega))
   clear ho hn
   have hb4 : Below w0.heap.size w0 w4 := bW
   clear c0 c1 c2 c3 hz HOy HN5 hbw4 hbo hlt hii
   go_wp2_with fail
   go_loopw [9, 5] (fun vi vo wz => ∃ i : Nat, i ≤ c.stages.length ∧ vi = .int .i64 i ∧ Own kU8 5 (fun _ => True) wz w.heap.size vo (xs ++ (bBytes c.name ++ (bCount c.fields.length ++ ((c.fields.map bFld).flatten ++ (bCount c.stages.length ++ ((c.stages.take i).map bStg).flatten))))) ∧ Below w0.heap.size w0 wz) (fun vi _ _ => c.stages.length - (intOf vi).toNat)
   case atStart => exact ⟨0, Nat.zero_le _, rfl, (by rw [show ((c.stages.take 0).map bStg).flatten = [] from rfl, List.append_nil]; exact HO4.out), bW⟩
   case round =>
    clear hb4 HO4 HN4
    obtain ⟨wo, hwx⟩ : ∃ x, x = wr := ⟨_, rfl⟩
    subst hwx
    obtain ⟨i, hii, rfl, ho, hbo⟩ := hrel
    obtain ⟨Ao, no, co, rfl, hn⟩ := ho.form'
    have HOo := Lib.hid ho
    have HHo := Lib.hid hn
    clear hn ho
    obtain ⟨⟨c0, c1, c2, c3⟩, hz⟩ := KK.out wo bW
    by_cases hlt : i < c.stages.length
    ·obtain ⟨ad, f, E, e', rfl, hx, he, q0, q1, q2⟩ := stg_at (HS.out wo bW) hlt
     have me1 := he.len.2.1
     have me2 := he.len.2.2.1
     have HX := Lib.hid hx
     have HE := Lib.hid he
     have FW := Lib.hid (CW.out.stages f (List.mem_of_getElem? hx))
     replace SZ := Lib.hid (show xs.length + (bBytes c.name).length + (bCount c.fields.length).length + ((c.fields.map bFld).flatten).length + (bCount c.stages.length).length + (((c.stages.take i).map bStg).flatten).length + (bBytes f.name).length + (bInt f.need).length + (bCount f.orgs.length).length + ((f.orgs.map bInt).flatten).length ≤ 137438953472 from (by
      have h1 := flat_at (f := bStg) hx
      have h2 := SZ0.out
      have h3 : (bStg f).length = (bBytes f.name).length + (bInt f.need).length + (bCount f.orgs.length).length + ((f.orgs.map bInt).flatten).length := by unfold bStg; simp only [List.length_append]; omega
      omega))
     have HN5 := Lib.hid (show no ≤ 137438953472 from (by rw [HHo.out]; have h1 := SZ.out; simp only [List.length_append] at h1 ⊢; omega))
     clear hx he
     go_upto_region 21 with (fail)
     have hLf := Loc1.new wo 68 #[.string ⟨f.name.toArray⟩, .int .i64 f.need, .slice E f.orgs.length e']
     have hbk : Below wo.heap.size wo (wo.alloc (.cells #[.string ⟨f.name.toArray⟩, .int .i64 f.need, .slice E f.orgs.length e'] 68)) := bW
     have HO5 := Lib.hid (HOo.out.below hbk)
     generalize (wo.alloc (.cells #[.string ⟨f.name.toArray⟩, .int .i64 f.need, .slice E f.orgs.length e'] 68)) = w5 at *
     have KF := Lib.hid (show ∀ W : World, Below w5.heap.size w5 W → (W.cell? ⟨wo.heap.size, 0, none⟩ = some (.string ⟨f.name.toArray⟩) ∧ W.cell? ⟨wo.heap.size, 1, none⟩ = some (.int .i64 f.need) ∧ W.cell? ⟨wo.heap.size, 2, none⟩ = some (.slice E f.orgs.length e')) from fun W hW => ⟨cell_of (hLf.bel hW) 0, cell_of (hLf.bel hW) 1, cell_of (hLf.bel hW) 2⟩)
     clear hLf q0 q1 q2 c0 c1 c2 c3 hz HOo
     go_region_held3 (fun W => (W.cell? ⟨wo.heap.size, 0, none⟩ = some (.string ⟨f.name.toArray⟩) ∧ W.cell? ⟨wo.heap.size, 1, none⟩ = some (.int .i64 f.need) ∧ W.cell? ⟨wo.heap.size, 2, none⟩ = some (.slice E f.orgs.length e'))) (exact KF.out _ bW)
      (first
      | (go_at_call 39; refine (rtext6_c (HO5.out.read.below bW) f.name FW.out.name (by have := HN5.out; omega)).mono ?_; rintro x9 w6 ⟨v9, rfl, ho, hbw6⟩; obtain ⟨A6, n6, c6, rfl, hn⟩ := ho.form'; have HO6 := Lib.hid (show Own kU8 5 (fun _ => True) w6 w.heap.size (.slice A6 n6 c6) (xs ++ (bBytes c.name ++ (bCount c.fields.length ++ ((c.fields.map bFld).flatten ++ (bCount c.stages.length ++ (((c.stages.take i).map bStg).flatten ++ (bBytes f.name))))))) from (by have h1 := ho.lower (show w.heap.size ≤ (w5.drew).heap.size from (show Below w.heap.size w (w5.drew) from bW).size); simpa only [List.append_assoc] using h1)); have HN6 := Lib.hid (show n6 ≤ 137438953472 from (by rw [hn]; have h1 := SZ.out; simp only [List.length_append] at h1 ⊢; omega)); clear ho hn)
      | (go_at_call 40; refine (intRef_c (HO6.out.read.below bW) f.need FW.out.need.1 FW.out.need.2 (by have := HN6.out; omega)).mono ?_; rintro x9 w7 ⟨v9, rfl, ho, hbw7⟩; obtain ⟨A7, n7, c7, rfl, hn⟩ := ho.form'; have HO7 := Lib.hid (show Own kU8 5 (fun _ => True) w7 w.heap.size (.slice A7 n7 c7) (xs ++ (bBytes c.name ++ (bCount c.fields.length ++ ((c.fields.map bFld).flatten ++ (bCount c.stages.length ++ (((c.stages.take i).map bStg).flatten ++ (bBytes f.name ++ bInt f.need))))))) from (by have h1 := ho.lower (show w.heap.size ≤ (w6).heap.size from (show Below w.heap.size w (w6) from bW).size); simpa only [List.append_assoc] using h1)); have HN7 := Lib.hid (show n7 ≤ 137438953472 from (by rw [hn]; have h1 := SZ.out; simp only [List.length_append] at h1 ⊢; omega)); clear ho hn))
     obtain ⟨q0, q1, q2⟩ := KF.out w7 bW
     go_wp2_with fail
     refine (countRef_c (HO7.out.read.below bW) f.orgs.length FW.out.few (by have := HN7.out; omega)).mono ?_
     rintro x9 w8 ⟨v9, rfl, ho, hbw8⟩
     obtain ⟨A8, n8, c8, rfl, hn⟩ := ho.form'
     have HO8 := Lib.hid (show Own kU8 5 (fun _ => True) w8 w.heap.size (.slice A8 n8 c8) (xs ++ (bBytes c.name ++ (bCount c.fields.length ++ ((c.fields.map bFld).flatten ++ (bCount c.stages.length ++ (((c.stages.take i).map bStg).flatten ++ (bBytes f.name ++ (bInt f.need ++ bCount f.orgs.length)))))))) from (by have h1 := ho.lower (show w.heap.size ≤ (w7).heap.size from (show Below w.heap.size w (w7) from bW).size); simpa only [List.append_assoc] using h1))
     have HN8 := Lib.hid (show n8 ≤ 137438953472 from (by rw [hn]; have h1 := SZ.out; simp only [List.length_append] at h1 ⊢; omega))
     clear ho hn
     clear q0 q1 q2 HO5 HO6 HO7 HN5 HN6 HN7
     go_wp2_with fail
     go_loopw [11, 5] (fun vi vo wz => ∃ k : Nat, k ≤ f.orgs.length ∧ vi = .int .i64 k ∧ Own kU8 5 (fun _ => True) wz w.heap.size vo (xs ++ (bBytes c.name ++ (bCount c.fields.length ++ ((c.fields.map bFld).flatten ++ (bCount c.stages.length ++ (((c.stages.take i).map bStg).flatten ++ (bBytes f.name ++ (bInt f.need ++ (bCount f.orgs.length ++ ((f.orgs.take k).map bInt).flatten))))))))) ∧ Below w5.heap.size w5 wz) (fun vi _ _ => f.orgs.length - (intOf vi).toNat)
     case atStart => exact ⟨0, Nat.zero_le _, rfl, (by rw [show ((f.orgs.take 0).map bInt).flatten = [] from rfl, List.append_nil]; exact HO8.out), bW⟩
     case round =>
      clear hbw6 hbw7 hbw8 HO8 HN8
      obtain ⟨wk, hwx⟩ : ∃ x, x = wr := ⟨_, rfl⟩
      subst hwx
      obtain ⟨k, hik, rfl, ho, hbk⟩ := hrel
      obtain ⟨Ak, nk, ck, rfl, hn⟩ := ho.form'
      have HOk := Lib.hid ho
      have HHk := Lib.hid hn
      clear hn ho
      obtain ⟨q0, q1, q2⟩ := KF.out wk bW
      by_cases hlk : k < f.orgs.length
      ·obtain ⟨ax, s, rfl, hs, hcs⟩ := int_at (HE.out.below (show Below wo.heap.size wo wk from bW)) hlk
       have HT := Lib.hid (flat_next (f := bInt) hs)
       have HSM := Lib.hid (FW.out.orgs s (List.mem_of_getElem? hs))
       replace SZ := Lib.hid (show xs.length + (bBytes c.name).length + (bCount c.fields.length).length + ((c.fields.map bFld).flatten).length + (bCount c.stages.length).length + (((c.stages.take i).map bStg).flatten).length + (bBytes f.name).length + (bInt f.need).length + (bCount f.orgs.length).length + (((f.orgs.take k).map bInt).flatten).length + (bInt s).length ≤ 137438953472 from (by
        have h1 := flat_at (f := bInt) hs
        have h2 := SZ.out
        omega))
       have HN9 := Lib.hid (show nk ≤ 137438953472 from (by rw [HHk.out]; have h1 := SZ.out; simp only [List.length_append] at h1 ⊢; omega))
       clear hs
       go_wp2_with fail
       refine (intRef_c (HOk.out.read.below bW) s HSM.out.1 HSM.out.2 (by have := HN9.out; omega)).mono ?_
       rintro x9 w9 ⟨v9, rfl, ho, hbw9⟩
       obtain ⟨A10, n10, c10, rfl, hn⟩ := ho.form'
       have HO10 := Lib.hid (show Own kU8 5 (fun _ => True) w9 w.heap.size (.slice A10 n10 c10) (xs ++ (bBytes c.name ++ (bCount c.fields.length ++ ((c.fields.map bFld).flatten ++ (bCount c.stages.length ++ (((c.stages.take i).map bStg).flatten ++ (bBytes f.name ++ (bInt f.need ++ (bCount f.orgs.length ++ (((f.orgs.take k).map bInt).flatten ++ bInt s)))))))))) from (by have h1 := ho.lower (show w.heap.size ≤ (wk).heap.size from (show Below w.heap.size w (wk) from bW).size); simpa only [List.append_assoc] using h1))
       have HN10 := Lib.hid (show n10 ≤ 137438953472 from (by rw [hn]; have h1 := SZ.out; simp only [List.length_append] at h1 ⊢; omega))
       clear ho hn
       have HOy := Lib.hid (show Own kU8 5 (fun _ => True) w9 w.heap.size (.slice A10 n10 c10) (xs ++ (bBytes c.name ++ (bCount c.fields.length ++ ((c.fields.map bFld).flatten ++ (bCount c.stages.length ++ (((c.stages.take i).map bStg).flatten ++ (bBytes f.name ++ (bInt f.need ++ (bCount f.orgs.length ++ ((f.orgs.take (k + 1)).map bInt).flatten))))))))) from (by rw [HT.out]; exact HO10.out))
       clear q0 q1 q2 hcs HO10 HOk
       go_wp2_with fail
       go_roundw
       case rel => exact ⟨k + 1, by omega, by go_num, HOy.out, bW⟩
       case measure => simp [intOf]; omega
      ·have HOy := Lib.hid (show Own kU8 5 (fun _ => True) wk w.heap.size (.slice Ak nk ck) (xs ++ (bBytes c.name ++ (bCount c.fields.length ++ ((c.fields.map bFld).flatten ++ (bCount c.stages.length ++ (((c.stages.take i).map bStg).flatten ++ (bBytes f.name ++ (bInt f.need ++ (bCount f.orgs.length ++ (f.orgs.map bInt).flatten))))))))) from (by have h1 := HOk.out; rwa [List.take_of_length_le (show f.orgs.length ≤ k by omega)] at h1))
       have HOz := Lib.hid (show Own kU8 5 (fun _ => True) wk w.heap.size (.slice Ak nk ck) (xs ++ (bBytes c.name ++ (bCount c.fields.length ++ ((c.fields.map bFld).flatten ++ (bCount c.stages.length ++ ((c.stages.take (i + 1)).map bStg).flatten))))) from (by rw [flat_next HX.out, show bStg f = bBytes f.name ++ (bInt f.need ++ (bCount f.orgs.length ++ (f.orgs.map bInt).flatten)) from rfl]; simpa only [List.append_assoc] using HOy.out))
       clear HOk HOy
       go_wp2_with fail
       go_roundw
       case rel => exact ⟨i + 1, by omega, by go_num, HOz.out, bW⟩
       case measure => simp [intOf]; omega
    ·have HOy := Lib.hid (show Own kU8 5 (fun _ => True) wo w.heap.size (.slice Ao no co) (xs ++ (bBytes c.name ++ (bCount c.fields.length ++ ((c.fields.map bFld).flatten ++ (bCount c.stages.length ++ (c.stages.map bStg).flatten))))) from (by have h1 := HOo.out; rwa [List.take_of_length_le (show c.stages.length ≤ i by omega)] at h1))
     have HHe := Lib.hid (show no = (xs ++ (bBytes c.name ++ (bCount c.fields.length ++ ((c.fields.map bFld).flatten ++ (bCount c.stages.length ++ (c.stages.map bStg).flatten))))).length from (by rw [HHo.out, List.take_of_length_le (show c.stages.length ≤ i by omega)]))
     have HN5 := Lib.hid (show no ≤ 137438953472 from (by rw [HHe.out]; have h1 := SZ.out; simp only [List.length_append] at h1 ⊢; omega))
     clear HOo
     go_wp2_with fail
     refine (countRef_c (HOy.out.read.below bW) c.moves.length CW.out.nm (by have := HN5.out; omega)).mono ?_
     rintro x9 w4 ⟨v9, rfl, ho, hbw4⟩
     obtain ⟨A4, n4, c4, rfl, hn⟩ := ho.form'
     have HO4 := Lib.hid (show Own kU8 5 (fun _ => True) w4 w.heap.size (.slice A4 n4 c4) (xs ++ (bBytes c.name ++ (bCount c.fields.length ++ ((c.fields.map bFld).flatten ++ (bCount c.stages.length ++ ((c.stages.map bStg).flatten ++ bCount c.moves.length)))))) from (by have h1 := ho.lower (show w.heap.size ≤ (wo).heap.size from (show Below w.heap.size w (wo) from bW).size); simpa only [List.append_assoc] using h1))
     have HN4 := Lib.hid (show n4 ≤ 137438953472 from (by rw [hn]; have h1 := SZ.out; simp only [List.length_append] at h1 ⊢; omega))
     clear ho hn
     have hb4 : Below w0.heap.size w0 w4 := bW
     clear c0 c1 c2 c3 hz HOy HN5 hbw4 hbo hlt hii
     go_wp2_with fail
     go_loopw [12, 5] (fun vi vo wz => ∃ i : Nat, i ≤ c.moves.length ∧ vi = .int .i64 i ∧ Own kU8 5 (fun _ => True) wz w.heap.size vo (xs ++ (bBytes c.name ++ (bCount c.fields.length ++ ((c.fields.map bFld).flatten ++ (bCount c.stages.length ++ ((c.stages.map bStg).flatten ++ (bCount c.moves.length ++ ((c.moves.take i).map (bMov (n - 1))).flatten))))))) ∧ Below w0.heap.size w0 wz) (fun vi _ _ => c.moves.length - (intOf vi).toNat)
     case atStart => exact ⟨0, Nat.zero_le _, rfl, (by rw [show ((c.moves.take 0).map (bMov (n - 1))).flatten = [] from rfl, List.append_nil]; exact HO4.out), bW⟩
     case round =>
      clear hb4 HO4 HN4
      obtain ⟨wo, hwx⟩ : ∃ x, x = wr := ⟨_, rfl⟩
      subst hwx
      obtain ⟨i, hii, rfl, ho, hbo⟩ := hrel
      obtain ⟨Ao, no, co, rfl, hn⟩ := ho.form'
      have HOo := Lib.hid ho
      have HHo := Lib.hid hn
      clear hn ho
      obtain ⟨⟨c0, c1, c2, c3⟩, hz⟩ := KK.out wo bW
      by_cases hlt : i < c.moves.length
      ·obtain ⟨ad, f, k', E, e', F, f', rfl, hx, hk', hg, he, q0, q1, q2, q3, q4, q5, q6, q7, q8, q9, q10, q11, q12⟩ := mov_at (HM.out wo bW) hlt
       obtain rfl : k' = n - 1 := by omega
       have HG := Lib.hid hg
       have me1 := he.len.2.1
       have me2 := he.len.2.2.1
       have HX := Lib.hid hx
       have HE := Lib.hid he
       have FW := Lib.hid (CW.out.moves f (List.mem_of_getElem? hx))
       replace SZ := Lib.hid (show xs.length + (bBytes c.name).length + (bCount c.fields.length).length + ((c.fields.map bFld).flatten).length + (bCount c.stages.length).length + ((c.stages.map bStg).flatten).length + (bCount c.moves.length).length + (((c.moves.take i).map (bMov (n - 1))).flatten).length + (bBytes f.name).length + (bInt f.frm).length + (bInt f.tgt).length + (bInt f.org).length + (bE (n - 1) f.guard).length + (bCount f.effects.length).length + ((f.effects.map (bEff (n - 1))).flatten).length ≤ 137438953472 from (by
        have h1 := flat_at (f := (bMov (n - 1))) hx
        have h2 := SZ0.out
        have h3 : ((bMov (n - 1)) f).length = (bBytes f.name).length + (bInt f.frm).length + (bInt f.tgt).length + (bInt f.org).length + (bE (n - 1) f.guard).length + (bCount f.effects.length).length + ((f.effects.map (bEff (n - 1))).flatten).length := by unfold bMov; simp only [List.length_append]; omega
        omega))
       have HN5 := Lib.hid (show no ≤ 137438953472 from (by rw [HHo.out]; have h1 := SZ.out; simp only [List.length_append] at h1 ⊢; omega))
       clear hx he hg
       go_upto_region 32 with (fail)
       have hLf := Loc1.new wo 47 #[.string ⟨f.name.toArray⟩, .int .i64 f.frm, .int .i64 f.tgt, .int .i64 f.guard.op, .slice E f.guard.kids.length e', .string ⟨f.guard.name.toArray⟩, .int .i64 f.guard.val.kind, .int .i64 f.guard.val.int, .bool f.guard.val.bool, .string ⟨f.guard.val.text.toArray⟩, .float .f64 f.guard.val.num, .slice F f.effects.length f', .int .i64 f.org]
       have hbk : Below wo.heap.size wo (wo.alloc (.cells #[.string ⟨f.name.toArray⟩, .int .i64 f.frm, .int .i64 f.tgt, .int .i64 f.guard.op, .slice E f.guard.kids.length e', .string ⟨f.guard.name.toArray⟩, .int .i64 f.guard.val.kind, .int .i64 f.guard.val.int, .bool f.guard.val.bool, .string ⟨f.guard.val.text.toArray⟩, .float .f64 f.guard.val.num, .slice F f.effects.length f', .int .i64 f.org] 47)) := bW
       have HO5 := Lib.hid (HOo.out.below hbk)
       generalize (wo.alloc (.cells #[.string ⟨f.name.toArray⟩, .int .i64 f.frm, .int .i64 f.tgt, .int .i64 f.guard.op, .slice E f.guard.kids.length e', .string ⟨f.guard.name.toArray⟩, .int .i64 f.guard.val.kind, .int .i64 f.guard.val.int, .bool f.guard.val.bool, .string ⟨f.guard.val.text.toArray⟩, .float .f64 f.guard.val.num, .slice F f.effects.length f', .int .i64 f.org] 47)) = w5 at *
       have KF := Lib.hid (show ∀ W : World, Below w5.heap.size w5 W → (W.cell? ⟨wo.heap.size, 0, none⟩ = some (.string ⟨f.name.toArray⟩) ∧ W.cell? ⟨wo.heap.size, 1, none⟩ = some (.int .i64 f.frm) ∧ W.cell? ⟨wo.heap.size, 2, none⟩ = some (.int .i64 f.tgt) ∧ W.cell? ⟨wo.heap.size, 3, none⟩ = some (.int .i64 f.guard.op) ∧ W.cell? ⟨wo.heap.size, 4, none⟩ = some (.slice E f.guard.kids.length e') ∧ W.cell? ⟨wo.heap.size, 5, none⟩ = some (.string ⟨f.guard.name.toArray⟩) ∧ W.cell? ⟨wo.heap.size, 6, none⟩ = some (.int .i64 f.guard.val.kind) ∧ W.cell? ⟨wo.heap.size, 7, none⟩ = some (.int .i64 f.guard.val.int) ∧ W.cell? ⟨wo.heap.size, 8, none⟩ = some (.bool f.guard.val.bool) ∧ W.cell? ⟨wo.heap.size, 9, none⟩ = some (.string ⟨f.guard.val.text.toArray⟩) ∧ W.cell? ⟨wo.heap.size, 10, none⟩ = some (.float .f64 f.guard.val.num) ∧ W.cell? ⟨wo.heap.size, 11, none⟩ = some (.slice F f.effects.length f') ∧ W.cell? ⟨wo.heap.size, 12, none⟩ = some (.int .i64 f.org)) from fun W hW => ⟨cell_of (hLf.bel hW) 0, cell_of (hLf.bel hW) 1, cell_of (hLf.bel hW) 2, cell_of (hLf.bel hW) 3, cell_of (hLf.bel hW) 4, cell_of (hLf.bel hW) 5, cell_of (hLf.bel hW) 6, cell_of (hLf.bel hW) 7, cell_of (hLf.bel hW) 8, cell_of (hLf.bel hW) 9, cell_of (hLf.bel hW) 10, cell_of (hLf.bel hW) 11, cell_of (hLf.bel hW) 12⟩)
       clear hLf q0 q1 q2 q3 q4 q5 q6 q7 q8 q9 q10 q11 q12 c0 c1 c2 c3 hz HOo
       go_region_held3 (fun W => (W.cell? ⟨wo.heap.size, 0, none⟩ = some (.string ⟨f.name.toArray⟩) ∧ W.cell? ⟨wo.heap.size, 1, none⟩ = some (.int .i64 f.frm) ∧ W.cell? ⟨wo.heap.size, 2, none⟩ = some (.int .i64 f.tgt) ∧ W.cell? ⟨wo.heap.size, 3, none⟩ = some (.int .i64 f.guard.op) ∧ W.cell? ⟨wo.heap.size, 4, none⟩ = some (.slice E f.guard.kids.length e') ∧ W.cell? ⟨wo.heap.size, 5, none⟩ = some (.string ⟨f.guard.name.toArray⟩) ∧ W.cell? ⟨wo.heap.size, 6, none⟩ = some (.int .i64 f.guard.val.kind) ∧ W.cell? ⟨wo.heap.size, 7, none⟩ = some (.int .i64 f.guard.val.int) ∧ W.cell? ⟨wo.heap.size, 8, none⟩ = some (.bool f.guard.val.bool) ∧ W.cell? ⟨wo.heap.size, 9, none⟩ = some (.string ⟨f.guard.val.text.toArray⟩) ∧ W.cell? ⟨wo.heap.size, 10, none⟩ = some (.float .f64 f.guard.val.num) ∧ W.cell? ⟨wo.heap.size, 11, none⟩ = some (.slice F f.effects.length f') ∧ W.cell? ⟨wo.heap.size, 12, none⟩ = some (.int .i64 f.org))) (exact KF.out _ bW)
        (first
        | (go_at_call 39; refine (rtext6_c (HO5.out.read.below bW) f.name FW.out.name (by have := HN5.out; omega)).mono ?_; rintro x9 w6 ⟨v9, rfl, ho, hbw6⟩; obtain ⟨A6, n6, c6, rfl, hn⟩ := ho.form'; have HO6 := Lib.hid (show Own kU8 5 (fun _ => True) w6 w.heap.size (.slice A6 n6 c6) (xs ++ (bBytes c.name ++ (bCount c.fields.length ++ ((c.fields.map bFld).flatten ++ (bCount c.stages.length ++ ((c.stages.map bStg).flatten ++ (bCount c.moves.length ++ (((c.moves.take i).map (bMov (n - 1))).flatten ++ (bBytes f.name))))))))) from (by have h1 := ho.lower (show w.heap.size ≤ (w5.drew).heap.size from (show Below w.heap.size w (w5.drew) from bW).size); simpa only [List.append_assoc] using h1)); have HN6 := Lib.hid (show n6 ≤ 137438953472 from (by rw [hn]; have h1 := SZ.out; simp only [List.length_append] at h1 ⊢; omega)); clear ho hn)
        | (go_at_call 40; refine (intRef_c (HO6.out.read.below bW) f.frm FW.out.frm.1 FW.out.frm.2 (by have := HN6.out; omega)).mono ?_; rintro x9 w7 ⟨v9, rfl, ho, hbw7⟩; obtain ⟨A7, n7, c7, rfl, hn⟩ := ho.form'; have HO7 := Lib.hid (show Own kU8 5 (fun _ => True) w7 w.heap.size (.slice A7 n7 c7) (xs ++ (bBytes c.name ++ (bCount c.fields.length ++ ((c.fields.map bFld).flatten ++ (bCount c.stages.length ++ ((c.stages.map bStg).flatten ++ (bCount c.moves.length ++ (((c.moves.take i).map (bMov (n - 1))).flatten ++ (bBytes f.name ++ bInt f.frm))))))))) from (by have h1 := ho.lower (show w.heap.size ≤ (w6).heap.size from (show Below w.heap.size w (w6) from bW).size); simpa only [List.append_assoc] using h1)); have HN7 := Lib.hid (show n7 ≤ 137438953472 from (by rw [hn]; have h1 := SZ.out; simp only [List.length_append] at h1 ⊢; omega)); clear ho hn))
       go_upto_region 33 with (fail)
       go_region_held3 (fun W => (W.cell? ⟨wo.heap.size, 0, none⟩ = some (.string ⟨f.name.toArray⟩) ∧ W.cell? ⟨wo.heap.size, 1, none⟩ = some (.int .i64 f.frm) ∧ W.cell? ⟨wo.heap.size, 2, none⟩ = some (.int .i64 f.tgt) ∧ W.cell? ⟨wo.heap.size, 3, none⟩ = some (.int .i64 f.guard.op) ∧ W.cell? ⟨wo.heap.size, 4, none⟩ = some (.slice E f.guard.kids.length e') ∧ W.cell? ⟨wo.heap.size, 5, none⟩ = some (.string ⟨f.guard.name.toArray⟩) ∧ W.cell? ⟨wo.heap.size, 6, none⟩ = some (.int .i64 f.guard.val.kind) ∧ W.cell? ⟨wo.heap.size, 7, none⟩ = some (.int .i64 f.guard.val.int) ∧ W.cell? ⟨wo.heap.size, 8, none⟩ = some (.bool f.guard.val.bool) ∧ W.cell? ⟨wo.heap.size, 9, none⟩ = some (.string ⟨f.guard.val.text.toArray⟩) ∧ W.cell? ⟨wo.heap.size, 10, none⟩ = some (.float .f64 f.guard.val.num) ∧ W.cell? ⟨wo.heap.size, 11, none⟩ = some (.slice F f.effects.length f') ∧ W.cell? ⟨wo.heap.size, 12, none⟩ = some (.int .i64 f.org))) (exact KF.out _ bW)
        (first
        | (go_at_call 40; refine (intRef_c (HO7.out.read.below bW) f.tgt FW.out.tgt.1 FW.out.tgt.2 (by have := HN7.out; omega)).mono ?_; rintro x9 w8 ⟨v9, rfl, ho, hbw8⟩; obtain ⟨A8, n8, c8, rfl, hn⟩ := ho.form'; have HO8 := Lib.hid (show Own kU8 5 (fun _ => True) w8 w.heap.size (.slice A8 n8 c8) (xs ++ (bBytes c.name ++ (bCount c.fields.length ++ ((c.fields.map bFld).flatten ++ (bCount c.stages.length ++ ((c.stages.map bStg).flatten ++ (bCount c.moves.length ++ (((c.moves.take i).map (bMov (n - 1))).flatten ++ (bBytes f.name ++ (bInt f.frm ++ bInt f.tgt)))))))))) from (by have h1 := ho.lower (show w.heap.size ≤ (w7.drew).heap.size from (show Below w.heap.size w (w7.drew) from bW).size); simpa only [List.append_assoc] using h1)); have HN8 := Lib.hid (show n8 ≤ 137438953472 from (by rw [hn]; have h1 := SZ.out; simp only [List.length_append] at h1 ⊢; omega)); clear ho hn)
        | (go_at_call 40; refine (intRef_c (HO8.out.read.below bW) f.org FW.out.org.1 FW.out.org.2 (by have := HN8.out; omega)).mono ?_; rintro x9 w9 ⟨v9, rfl, ho, hbw9⟩; obtain ⟨A9, n9, c9, rfl, hn⟩ := ho.form'; have HO9 := Lib.hid (show Own kU8 5 (fun _ => True) w9 w.heap.size (.slice A9 n9 c9) (xs ++ (bBytes c.name ++ (bCount c.fields.length ++ ((c.fields.map bFld).flatten ++ (bCount c.stages.length ++ ((c.stages.map bStg).flatten ++ (bCount c.moves.length ++ (((c.moves.take i).map (bMov (n - 1))).flatten ++ (bBytes f.name ++ (bInt f.frm ++ (bInt f.tgt ++ bInt f.org))))))))))) from (by have h1 := ho.lower (show w.heap.size ≤ (w8).heap.size from (show Below w.heap.size w (w8) from bW).size); simpa only [List.append_assoc] using h1)); have HN9 := Lib.hid (show n9 ≤ 137438953472 from (by rw [hn]; have h1 := SZ.out; simp only [List.length_append] at h1 ⊢; omega)); clear ho hn))
       go_upto_region 34 with (fail)
       go_region_held3 (fun W => (W.cell? ⟨wo.heap.size, 0, none⟩ = some (.string ⟨f.name.toArray⟩) ∧ W.cell? ⟨wo.heap.size, 1, none⟩ = some (.int .i64 f.frm) ∧ W.cell? ⟨wo.heap.size, 2, none⟩ = some (.int .i64 f.tgt) ∧ W.cell? ⟨wo.heap.size, 3, none⟩ = some (.int .i64 f.guard.op) ∧ W.cell? ⟨wo.heap.size, 4, none⟩ = some (.slice E f.guard.kids.length e') ∧ W.cell? ⟨wo.heap.size, 5, none⟩ = some (.string ⟨f.guard.name.toArray⟩) ∧ W.cell? ⟨wo.heap.size, 6, none⟩ = some (.int .i64 f.guard.val.kind) ∧ W.cell? ⟨wo.heap.size, 7, none⟩ = some (.int .i64 f.guard.val.int) ∧ W.cell? ⟨wo.heap.size, 8, none⟩ = some (.bool f.guard.val.bool) ∧ W.cell? ⟨wo.heap.size, 9, none⟩ = some (.string ⟨f.guard.val.text.toArray⟩) ∧ W.cell? ⟨wo.heap.size, 10, none⟩ = some (.float .f64 f.guard.val.num) ∧ W.cell? ⟨wo.heap.size, 11, none⟩ = some (.slice F f.effects.length f') ∧ W.cell? ⟨wo.heap.size, 12, none⟩ = some (.int .i64 f.org))) (exact KF.out _ bW)
        (first
        | (go_at_call 42; refine (rputE_c f.guard (HO9.out.read.below bW) (HG.out.below bW) FW.out.guard (by have h1 := SZ.out; simp only [List.length_append] at h1 ⊢; omega)).mono ?_; rintro x9 w10 ⟨v9, rfl, ho, hbw10⟩; obtain ⟨A10, n10, c10, rfl, hn⟩ := ho.form'; have HO10 := Lib.hid (show Own kU8 5 (fun _ => True) w10 w.heap.size (.slice A10 n10 c10) (xs ++ (bBytes c.name ++ (bCount c.fields.length ++ ((c.fields.map bFld).flatten ++ (bCount c.stages.length ++ ((c.stages.map bStg).flatten ++ (bCount c.moves.length ++ (((c.moves.take i).map (bMov (n - 1))).flatten ++ (bBytes f.name ++ (bInt f.frm ++ (bInt f.tgt ++ (bInt f.org ++ bE (n - 1) f.guard)))))))))))) from (by have h1 := ho.lower (show w.heap.size ≤ (w9.drew).heap.size from (show Below w.heap.size w (w9.drew) from bW).size); simpa only [List.append_assoc] using h1)); have HN10 := Lib.hid (show n10 ≤ 137438953472 from (by rw [hn]; have h1 := SZ.out; simp only [List.length_append] at h1 ⊢; omega)); clear ho hn)
        | (go_at_call 38; refine (countRef_c (HO10.out.read.below bW) f.effects.length FW.out.few (by have := HN10.out; omega)).mono ?_; rintro x9 w11 ⟨v9, rfl, ho, hbw11⟩; obtain ⟨A11, n11, c11, rfl, hn⟩ := ho.form'; have HO11 := Lib.hid (show Own kU8 5 (fun _ => True) w11 w.heap.size (.slice A11 n11 c11) (xs ++ (bBytes c.name ++ (bCount c.fields.length ++ ((c.fields.map bFld).flatten ++ (bCount c.stages.length ++ ((c.stages.map bStg).flatten ++ (bCount c.moves.length ++ (((c.moves.take i).map (bMov (n - 1))).flatten ++ (bBytes f.name ++ (bInt f.frm ++ (bInt f.tgt ++ (bInt f.org ++ (bE (n - 1) f.guard ++ bCount f.effects.length))))))))))))) from (by have h1 := ho.lower (show w.heap.size ≤ (w10).heap.size from (show Below w.heap.size w (w10) from bW).size); simpa only [List.append_assoc] using h1)); have HN11 := Lib.hid (show n11 ≤ 137438953472 from (by rw [hn]; have h1 := SZ.out; simp only [List.length_append] at h1 ⊢; omega)); clear ho hn))
       have hb11 : Below w5.heap.size w5 w11 := bW
       clear HO5 HO6 HO7 HO8 HO9 HO10 HN5 HN6 HN7 HN8 HN9 HN10
       go_wp2_with fail
       go_loopw [14, 5] (fun vi vo wz => ∃ k : Nat, k ≤ f.effects.length ∧ vi = .int .i64 k ∧ Own kU8 5 (fun _ => True) wz w.heap.size vo (xs ++ (bBytes c.name ++ (bCount c.fields.length ++ ((c.fields.map bFld).flatten ++ (bCount c.stages.length ++ ((c.stages.map bStg).flatten ++ (bCount c.moves.length ++ (((c.moves.take i).map (bMov (n - 1))).flatten ++ (bBytes f.name ++ (bInt f.frm ++ (bInt f.tgt ++ (bInt f.org ++ (bE (n - 1) f.guard ++ (bCount f.effects.length ++ ((f.effects.take k).map (bEff (n - 1))).flatten)))))))))))))) ∧ Below w5.heap.size w5 wz) (fun vi _ _ => f.effects.length - (intOf vi).toNat)
       case atStart => exact ⟨0, Nat.zero_le _, rfl, (by rw [show ((f.effects.take 0).map (bEff (n - 1))).flatten = [] from rfl, List.append_nil]; exact HO11.out), bW⟩
       case round =>
        clear hbw6 hbw7 hbw8 hbw9 hbw10 hbw11 hb11 HO11 HN11
        obtain ⟨wk, hwx⟩ : ∃ x, x = wr := ⟨_, rfl⟩
        subst hwx
        obtain ⟨k, hik, rfl, ho, hbk⟩ := hrel
        obtain ⟨Ak, nk, ck, rfl, hn⟩ := ho.form'
        have HOk := Lib.hid ho
        have HHk := Lib.hid hn
        clear hn ho
        obtain ⟨q0, q1, q2, q3, q4, q5, q6, q7, q8, q9, q10, q11, q12⟩ := KF.out wk bW
        by_cases hlk : k < f.effects.length
        ·obtain ⟨ax, s, k', S', s', rfl, hs, hk2, hse, y0, y1, y2, y3, y4, y5, y6, y7, y8⟩ := eff_at (HE.out.below (show Below wo.heap.size wo wk from bW)) hlk
         obtain rfl : k' = n - 1 := by omega
         have HT := Lib.hid (flat_next (f := bEff (n - 1)) hs)
         have HSM := Lib.hid (FW.out.effects s (List.mem_of_getElem? hs))
         have HSE := Lib.hid hse
         replace SZ := Lib.hid (show xs.length + (bBytes c.name).length + (bCount c.fields.length).length + ((c.fields.map bFld).flatten).length + (bCount c.stages.length).length + ((c.stages.map bStg).flatten).length + (bCount c.moves.length).length + (((c.moves.take i).map (bMov (n - 1))).flatten).length + (bBytes f.name).length + (bInt f.frm).length + (bInt f.tgt).length + (bInt f.org).length + (bE (n - 1) f.guard).length + (bCount f.effects.length).length + (((f.effects.take k).map (bEff (n - 1))).flatten).length + (bBytes s.field).length + (bE (n - 1) s.expr).length ≤ 137438953472 from (by
          have h1 := flat_at (f := bEff (n - 1)) hs
          have h3 : (bEff (n - 1) s).length = (bBytes s.field).length + (bE (n - 1) s.expr).length := by unfold bEff; rw [List.length_append]
          have h2 := SZ.out
          omega))
         have KE := Lib.hid (show ∀ W : World, Below wk.heap.size wk W → W.cell? ⟨wo.heap.size, 11, none⟩ = some (.slice (some ax) f.effects.length f') ∧ W.cell? (ax.add (k * 9)) = some (.string ⟨s.field.toArray⟩) ∧ W.cell? ⟨(ax.add (k * 9)).block, (ax.add (k * 9)).off + 1, none⟩ = some (.int .i64 s.expr.op) ∧ W.cell? ⟨(ax.add (k * 9)).block, (ax.add (k * 9)).off + 2, none⟩ = some (.slice S' s.expr.kids.length s') ∧ W.cell? ⟨(ax.add (k * 9)).block, (ax.add (k * 9)).off + 3, none⟩ = some (.string ⟨s.expr.name.toArray⟩) ∧ W.cell? ⟨(ax.add (k * 9)).block, (ax.add (k * 9)).off + 4, none⟩ = some (.int .i64 s.expr.val.kind) ∧ W.cell? ⟨(ax.add (k * 9)).block, (ax.add (k * 9)).off + 5, none⟩ = some (.int .i64 s.expr.val.int) ∧ W.cell? ⟨(ax.add (k * 9)).block, (ax.add (k * 9)).off + 6, none⟩ = some (.bool s.expr.val.bool) ∧ W.cell? ⟨(ax.add (k * 9)).block, (ax.add (k * 9)).off + 7, none⟩ = some (.string ⟨s.expr.val.text.toArray⟩) ∧ W.cell? ⟨(ax.add (k * 9)).block, (ax.add (k * 9)).off + 8, none⟩ = some (.float .f64 s.expr.val.num) from fun W hW => ⟨keepC q11 hW, keepC y0 hW, keepC y1 hW, keepC y2 hW, keepC y3 hW, keepC y4 hW, keepC y5 hW, keepC y6 hW, keepC y7 hW, keepC y8 hW⟩)
         have HN12 := Lib.hid (show nk ≤ 137438953472 from (by rw [HHk.out]; have h1 := SZ.out; simp only [List.length_append] at h1 ⊢; omega))
         have hlk0 : (0 : Int) ≤ (k : Int) := by omega
         have hlk1 : (k : Int) < (f.effects.length : Int) := by omega
         go_upto_region 38 with (fail)
         clear hs hse y0 y1 y2 y3 y4 y5 y6 y7 y8 q0 q1 q2 q3 q4 q5 q6 q7 q8 q9 q10 q11 q12
         go_region_held3 (fun W => W.cell? ⟨wo.heap.size, 11, none⟩ = some (.slice (some ax) f.effects.length f') ∧ W.cell? (ax.add (k * 9)) = some (.string ⟨s.field.toArray⟩) ∧ W.cell? ⟨(ax.add (k * 9)).block, (ax.add (k * 9)).off + 1, none⟩ = some (.int .i64 s.expr.op) ∧ W.cell? ⟨(ax.add (k * 9)).block, (ax.add (k * 9)).off + 2, none⟩ = some (.slice S' s.expr.kids.length s') ∧ W.cell? ⟨(ax.add (k * 9)).block, (ax.add (k * 9)).off + 3, none⟩ = some (.string ⟨s.expr.name.toArray⟩) ∧ W.cell? ⟨(ax.add (k * 9)).block, (ax.add (k * 9)).off + 4, none⟩ = some (.int .i64 s.expr.val.kind) ∧ W.cell? ⟨(ax.add (k * 9)).block, (ax.add (k * 9)).off + 5, none⟩ = some (.int .i64 s.expr.val.int) ∧ W.cell? ⟨(ax.add (k * 9)).block, (ax.add (k * 9)).off + 6, none⟩ = some (.bool s.expr.val.bool) ∧ W.cell? ⟨(ax.add (k * 9)).block, (ax.add (k * 9)).off + 7, none⟩ = some (.string ⟨s.expr.val.text.toArray⟩) ∧ W.cell? ⟨(ax.add (k * 9)).block, (ax.add (k * 9)).off + 8, none⟩ = some (.float .f64 s.expr.val.num)) (exact KE.out _ bW)
          (first
          | (go_at_call 39; refine (rtext6_c (HOk.out.read.below bW) s.field HSM.out.field (by have := HN12.out; omega)).mono ?_; rintro x9 w12 ⟨v9, rfl, ho, hbw12⟩; obtain ⟨A13, n13, c13, rfl, hn⟩ := ho.form'; have HO13 := Lib.hid (show Own kU8 5 (fun _ => True) w12 w.heap.size (.slice A13 n13 c13) (xs ++ (bBytes c.name ++ (bCount c.fields.length ++ ((c.fields.map bFld).flatten ++ (bCount c.stages.length ++ ((c.stages.map bStg).flatten ++ (bCount c.moves.length ++ (((c.moves.take i).map (bMov (n - 1))).flatten ++ (bBytes f.name ++ (bInt f.frm ++ (bInt f.tgt ++ (bInt f.org ++ (bE (n - 1) f.guard ++ (bCount f.effects.length ++ (((f.effects.take k).map (bEff (n - 1))).flatten ++ bBytes s.field))))))))))))))) from (by have h1 := ho.lower (show w.heap.size ≤ (wk.drew).heap.size from (show Below w.heap.size w (wk.drew) from bW).size); simpa only [List.append_assoc] using h1)); have HN13 := Lib.hid (show n13 ≤ 137438953472 from (by rw [hn]; have h1 := SZ.out; simp only [List.length_append] at h1 ⊢; omega)); clear ho hn)
          | (go_at_call 42; refine (rputE_c s.expr (HO13.out.read.below bW) (HSE.out.below bW) HSM.out.expr (by have h1 := SZ.out; simp only [List.length_append] at h1 ⊢; omega)).mono ?_; rintro x9 w13 ⟨v9, rfl, ho, hbw13⟩; obtain ⟨A14, n14, c14, rfl, hn⟩ := ho.form'; have HO14 := Lib.hid (show Own kU8 5 (fun _ => True) w13 w.heap.size (.slice A14 n14 c14) (xs ++ (bBytes c.name ++ (bCount c.fields.length ++ ((c.fields.map bFld).flatten ++ (bCount c.stages.length ++ ((c.stages.map bStg).flatten ++ (bCount c.moves.length ++ (((c.moves.take i).map (bMov (n - 1))).flatten ++ (bBytes f.name ++ (bInt f.frm ++ (bInt f.tgt ++ (bInt f.org ++ (bE (n - 1) f.guard ++ (bCount f.effects.length ++ (((f.effects.take k).map (bEff (n - 1))).flatten ++ (bBytes s.field ++ bE (n - 1) s.expr)))))))))))))))) from (by have h1 := ho.lower (show w.heap.size ≤ (w12).heap.size from (show Below w.heap.size w (w12) from bW).size); simpa only [List.append_assoc] using h1)); have HN14 := Lib.hid (show n14 ≤ 137438953472 from (by rw [hn]; have h1 := SZ.out; simp only [List.length_append] at h1 ⊢; omega)); clear ho hn))
         have HOy := Lib.hid (show Own kU8 5 (fun _ => True) w13 w.heap.size (.slice A14 n14 c14) (xs ++ (bBytes c.name ++ (bCount c.fields.length ++ ((c.fields.map bFld).flatten ++ (bCount c.stages.length ++ ((c.stages.map bStg).flatten ++ (bCount c.moves.length ++ (((c.moves.take i).map (bMov (n - 1))).flatten ++ (bBytes f.name ++ (bInt f.frm ++ (bInt f.tgt ++ (bInt f.org ++ (bE (n - 1) f.guard ++ (bCount f.effects.length ++ ((f.effects.take (k + 1)).map (bEff (n - 1))).flatten)))))))))))))) from (by rw [HT.out]; exact HO14.out))
         clear HO14 HO13 HOk
         go_wp2_with fail
         go_roundw
         case rel => exact ⟨k + 1, by omega, by go_num, HOy.out, bW⟩
         case measure => simp [intOf]; omega
        ·have HOy := Lib.hid (show Own kU8 5 (fun _ => True) wk w.heap.size (.slice Ak nk ck) (xs ++ (bBytes c.name ++ (bCount c.fields.length ++ ((c.fields.map bFld).flatten ++ (bCount c.stages.length ++ ((c.stages.map bStg).flatten ++ (bCount c.moves.length ++ (((c.moves.take i).map (bMov (n - 1))).flatten ++ (bBytes f.name ++ (bInt f.frm ++ (bInt f.tgt ++ (bInt f.org ++ (bE (n - 1) f.guard ++ (bCount f.effects.length ++ (f.effects.map (bEff (n - 1))).flatten)))))))))))))) from (by have h1 := HOk.out; rwa [List.take_of_length_le (show f.effects.length ≤ k by omega)] at h1))
         have HOz := Lib.hid (show Own kU8 5 (fun _ => True) wk w.heap.size (.slice Ak nk ck) (xs ++ (bBytes c.name ++ (bCount c.fields.length ++ ((c.fields.map bFld).flatten ++ (bCount c.stages.length ++ ((c.stages.map bStg).flatten ++ (bCount c.moves.length ++ ((c.moves.take (i + 1)).map (bMov (n - 1))).flatten))))))) from (by rw [flat_next HX.out, show bMov (n - 1) f = bBytes f.name ++ (bInt f.frm ++ (bInt f.tgt ++ (bInt f.org ++ (bE (n - 1) f.guard ++ (bCount f.effects.length ++ (f.effects.map (bEff (n - 1))).flatten))))) from rfl]; simpa only [List.append_assoc] using HOy.out))
         clear HOk HOy
         go_wp2_with fail
         go_roundw
         case rel => exact ⟨i + 1, by omega, by go_num, HOz.out, bW⟩
         case measure => simp [intOf]; omega
      ·have HOy := Lib.hid (show Own kU8 5 (fun _ => True) wo w.heap.size (.slice Ao no co) (xs ++ bC n c) from (by have h1 := HOo.out; rw [List.take_of_length_le (show c.moves.length ≤ i by omega)] at h1; rw [EC.out]; simpa only [List.append_assoc] using h1))
       clear HOo
       go_wp2_with fail
       go_ret
       exact ⟨_, rfl, HOy.out, bW⟩
end
end Go.Proofs.YtjnhgfmjehaalaaGreat
