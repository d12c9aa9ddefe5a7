/- Chapter 6: the law ContractCodes, walked. -/
import Derived.Test.YtjnhgfmjehaalaaGreatMM
import Derived.Test.YtjnhgfmjehaalaaGreatRC
import Derived.Test.YtjnhgfmjehaalaaGreatMN
namespace Go.Proofs.YtjnhgfmjehaalaaGreat
open Go.RowKit
set_option linter.unusedVariables false
set_option linter.unusedSimpArgs false
section
variable {ok ok2 : Nat → Prop} {w : World} {A B : Option Addr} {n c n' c' : Nat}
theorem conv_bs {P : Program} {ok : Nat → Prop} {w : World} {A : Option Addr} {n c : Nat} {l : List UInt8} (h : Sl kU8 ok w (.slice A n c) l) (src dst e : TypeId) (hs : P.underlying src = some (.slice e)) (he : P.underlying e = some (.int .u8)) (hd : P.underlying dst = some .string) : (convert src dst (.slice A n c)).run P w = .ok (.string ⟨l.toArray⟩) w := by
  have hl := h.len
  obtain ⟨rfl, h2, h3, h4⟩ := hl
  cases A with
  | some ad =>
    exact run_convert_bytes_back w src dst e ad c l hs he hd fun j hj => by
      obtain ⟨ad', x, hA, hx, hc⟩ := Sl.at1 (f := fun x : UInt8 => Value.int .u8 (x.toNat : Int)) (h1 := fun _ => rfl) h hj
      injection hA with hA
      subst hA
      rw [hc]
      have := (List.getElem?_eq_some_iff.1 hx).2
      rw [← this]
  | none =>
    have := h4 rfl
    have hl0 : l = [] := List.eq_nil_of_length_eq_zero (by omega)
    subst hl0
    rw [run_convert_bytes_string w src dst e none _ c hs he hd]
    simp [Conv.bytesToString]
    rfl
theorem same_u8 {xs ys : List UInt8} (h : Sl kU8 ok w (.slice A n c) xs) (h2 : Sl kU8 ok2 w (.slice B n' c') ys) : Calls Tryz.prog 8 #[.slice A n c, .slice B n' c'] w (Ret w (.bool (xs == ys))) := by
  have C1 := conv_bs (P := Tryz.prog) h 29 9 5 Tryz.underlying29 Tryz.underlying5 Tryz.underlying9
  have C2 := conv_bs (P := Tryz.prog) h2 29 9 5 Tryz.underlying29 Tryz.underlying5 Tryz.underlying9
  clear h h2
  go_enter Tryz.func8, Tryz.ntmps8
  go_wp2_with fail
  go_ret
  exact ⟨rfl, Below.refl _ _⟩
end
section
variable {w : World}
set_option maxRecDepth 20000 in
set_option maxHeartbeats 4000000 in
theorem codes_c {A B D : Option Addr} {a b d : Nat} {c : Con} {n : Nat} (h1 : Sl kFld (fun _ => True) w (.slice A c.fields.length a) c.fields) (h2 : Sl kStg (fun _ => True) w (.slice B c.stages.length b) c.stages) (h3 : Sl (kMov n) (fun _ => True) w (.slice D c.moves.length d) c.moves) (hi : ConI c) :
    Calls Tryz.prog 3 #[.agg #[.string ⟨c.name.toArray⟩, .slice A c.fields.length a, .slice B c.stages.length b, .slice D c.moves.length d]] w (Ret w (.bool true)) := by
  have HF := Lib.hid (show ∀ W : World, Below w.heap.size w W → Sl kFld (fun _ => True) W (.slice A c.fields.length a) c.fields from fun W hW => h1.below hW)
  have HS := Lib.hid (show ∀ W : World, Below w.heap.size w W → Sl kStg (fun _ => True) W (.slice B c.stages.length b) c.stages from fun W hW => h2.below hW)
  have HM := Lib.hid (show ∀ W : World, Below w.heap.size w W → Sl (kMov n) (fun _ => True) W (.slice D c.moves.length d) c.moves from fun W hW => h3.below hW)
  have HW := Lib.hid (show ∀ W : World, Below w.heap.size w W → Calls Tryz.prog 7 #[.agg #[.string ⟨c.name.toArray⟩, .slice A c.fields.length a, .slice B c.stages.length b, .slice D c.moves.length d]] W (Ret W (.bool (fewC c))) from fun W hW => few6_c (HF.out W hW) (HS.out W hW) (HM.out W hW))
  have hbc := bC_le hi (con_dp h3)
  have HP := Lib.hid (show ∀ (W : World) (Y : Option Addr) (m z : Nat), Below w.heap.size w W → Sl kU8 (fun _ => True) W (.slice Y m z) [9] → Calls Tryz.prog 9 #[.slice Y m z, .agg #[.string ⟨c.name.toArray⟩, .slice A c.fields.length a, .slice B c.stages.length b, .slice D c.moves.length d]] W (RetOwn kU8 5 (fun _ => True) W ([9] ++ bC n c)) from fun W Y m z hW h => putC_c c h (HF.out W hW) (HS.out W hW) (HM.out W hW) hbc.1 (by have := hbc.2; simp; omega))
  have HQ := Lib.hid (show ∀ (W : World) (Y : Option Addr) (m z : Nat), Below w.heap.size w W → Sl kU8 (fun _ => True) W (.slice Y m z) [9] → Calls Tryz.prog 10 #[.slice Y m z, .agg #[.string ⟨c.name.toArray⟩, .slice A c.fields.length a, .slice B c.stages.length b, .slice D c.moves.length d]] W (RetOwn kU8 5 (fun _ => True) W ([9] ++ bC n c)) from fun W Y m z hW h => rputC_c c h (HF.out W hW) (HS.out W hW) (HM.out W hW) hbc.1 (by have := hbc.2; simp; omega))
  clear h1 h2 h3 HF HS HM hbc
  generalize ([9] ++ bC n c) = xs at *
  have hL : Loc1 w.heap.size 26 #[.string ⟨c.name.toArray⟩, .slice A c.fields.length a, .slice B c.stages.length b, .slice D c.moves.length d] (w.alloc (.cells #[.string ⟨c.name.toArray⟩, .slice A c.fields.length a, .slice B c.stages.length b, .slice D c.moves.length d] 26)) := Loc1.new _ _ _
  have B0 : Below w.heap.size w (w.alloc (.cells #[.string ⟨c.name.toArray⟩, .slice A c.fields.length a, .slice B c.stages.length b, .slice D c.moves.length d] 26)) := bW
  have KK := Lib.hid (show ∀ W : World, Below (w.alloc (.cells #[.string ⟨c.name.toArray⟩, .slice A c.fields.length a, .slice B c.stages.length b, .slice D c.moves.length d] 26)).heap.size (w.alloc (.cells #[.string ⟨c.name.toArray⟩, .slice A c.fields.length a, .slice B c.stages.length b, .slice D c.moves.length d] 26)) W → (W.cell? ⟨w.heap.size, 0, none⟩ = some (.string ⟨c.name.toArray⟩) ∧ W.cell? ⟨w.heap.size, 1, none⟩ = some (.slice A c.fields.length a) ∧ W.cell? ⟨w.heap.size, 2, none⟩ = some (.slice B c.stages.length b) ∧ W.cell? ⟨w.heap.size, 3, none⟩ = some (.slice D c.moves.length d)) ∧ w.heap.size < W.heap.size from fun W hW => ⟨⟨cell_of (hL.bel hW) 0, cell_of (hL.bel hW) 1, cell_of (hL.bel hW) 2, cell_of (hL.bel hW) 3⟩, lt_of_heap (hL.bel hW)⟩)
  clear hL
  cases hf : fewC c
  · go_enter Tryz.func3, Tryz.ntmps3
    go_wp2_with fail
    generalize (w.alloc (.cells #[.string ⟨c.name.toArray⟩, .slice A c.fields.length a, .slice B c.stages.length b, .slice D c.moves.length d] 26)) = w0 at *
    obtain ⟨⟨c0, c1, c2, c3⟩, hz⟩ := KK.out w0 bW
    go_wp2_with fail
    refine (HW.out _ bW).mono ?_
    rintro x9 w1 ⟨rfl, hb1⟩
    go_wp2_with fail
    go_ret
    exact ⟨rfl, bW⟩
  go_enter Tryz.func3, Tryz.ntmps3
  go_wp2_with fail
  generalize (w.alloc (.cells #[.string ⟨c.name.toArray⟩, .slice A c.fields.length a, .slice B c.stages.length b, .slice D c.moves.length d] 26)) = w0 at *
  obtain ⟨⟨c0, c1, c2, c3⟩, hz⟩ := KK.out w0 bW
  go_wp2_with fail
  refine (HW.out _ bW).mono ?_
  rintro x9 w1 ⟨rfl, hb1⟩
  clear c0 c1 c2 c3 hz
  obtain ⟨⟨c0, c1, c2, c3⟩, hz⟩ := KK.out w1 bW
  go_upto_region 3 with (fail)
  clear c0 c1 c2 c3 hz
  go_region_held3 (fun W => W.cell? ⟨w.heap.size, 0, none⟩ = some (.string ⟨c.name.toArray⟩) ∧ W.cell? ⟨w.heap.size, 1, none⟩ = some (.slice A c.fields.length a) ∧ W.cell? ⟨w.heap.size, 2, none⟩ = some (.slice B c.stages.length b) ∧ W.cell? ⟨w.heap.size, 3, none⟩ = some (.slice D c.moves.length d)) (exact (KK.out _ bW).1)
    (first
    | (go_at_call 9; refine (HP.out _ _ _ _ bW (sl_row (d := kU8) (ok := fun _ => True) (t := 5) (cs := [.int .u8 9]) (xs := [9]) ?_ trivial ⟨[_], [], rfl, rfl, rfl⟩ rfl maxL1)).mono ?_; (focus (repeat (first | with_reducible assumption | (refine Loc1.newE _ _ _ ?_; simp; done) | with_reducible refine Loc1.al _ ?_ | with_reducible refine Loc1.dr ?_ | with_reducible refine Loc1.bel (by assumption) ?_))); rintro x9 w2 ⟨v2, rfl, ho2, hb2⟩; obtain ⟨A2, n2, c2, rfl, -⟩ := ho2.form'; have HO2 := Lib.hid ho2.read; clear ho2)
    | (go_at_call 10; refine (HQ.out _ _ _ _ bW (sl_row (d := kU8) (ok := fun _ => True) (t := 5) (cs := [.int .u8 9]) (xs := [9]) ?_ trivial ⟨[_], [], rfl, rfl, rfl⟩ rfl maxL1)).mono ?_; (focus (repeat (first | with_reducible assumption | (refine Loc1.newE _ _ _ ?_; simp; done) | with_reducible refine Loc1.al _ ?_ | with_reducible refine Loc1.dr ?_ | with_reducible refine Loc1.bel (by assumption) ?_))); rintro x9 w3 ⟨v3, rfl, ho3, hb3⟩; obtain ⟨A3, n3, c3, rfl, -⟩ := ho3.form'; have HO3 := Lib.hid ho3.read; clear ho3)
    | (go_at_call 8; refine (same_u8 (HO2.out.below bW) (HO3.out.below bW)).mono ?_; rintro x9 w5 ⟨rfl, hb5⟩)
    | (go_at_call 11; refine awake_c.mono ?_; rintro x9 w4 ⟨rfl, hb4⟩))
  all_goals
    go_wp2_with fail
    go_ret
    exact ⟨rfl, bW⟩
end
end Go.Proofs.YtjnhgfmjehaalaaGreat
