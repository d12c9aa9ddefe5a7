/- Chapter 5: the law ExprCodes, walked: where the expression is not small. -/
import Derived.Test.YtijlamajcdekkaaH2
import Derived.Test.YtijlamajcdekkaaMV
import Derived.Test.YtijlamajcdekkaaMO
import Derived.Test.YtijlamajcdekkaaV4
import Derived.Test.YtijlamajcdekkaaMU
namespace Go.Proofs.Ytijlamajcdekkaa
open Go.RowKit
set_option linter.unusedVariables false
set_option linter.unusedSimpArgs false
section
variable {ok ok2 : Nat → Prop} {w : World} {A B : Option Addr} {n c n' c' : Nat}
theorem conv_bs {P : Program} {ok : Nat → Prop} {w : World} {A : Option Addr} {n c : Nat} {l : List UInt8} (h : Sl kU8 ok w (.slice A n c) l) (src dst e : TypeId) (hs : P.underlying src = some (.slice e)) (he : P.underlying e = some (.int .u8)) (hd : P.underlying dst = some .string) : (convert src dst (.slice A n c)).run P w = .ok (.string ⟨l.toArray⟩) w := conv_vs h src dst e hs he hd
theorem same_u8 {xs ys : List UInt8} (h : Sl kU8 ok w (.slice A n c) xs) (h2 : Sl kU8 ok2 w (.slice B n' c') ys) : Calls Try.prog 24 #[.slice A n c, .slice B n' c'] w (Ret w (.bool (xs == ys))) := by
  have C1 := conv_bs (P := Try.prog) h 52 9 5 Try.underlying52 Try.underlying5 Try.underlying9
  have C2 := conv_bs (P := Try.prog) h2 52 9 5 Try.underlying52 Try.underlying5 Try.underlying9
  clear h h2
  go_enter Try.func24, Try.ntmps24
  go_wp2_with fail
  go_ret
  exact ⟨rfl, Below.refl _ _⟩
theorem same_uu {xs : List UInt8} (h : Sl kU8 ok w (.slice A n c) xs) (h2 : Sl kU8 ok2 w (.slice B n' c') xs) : Calls Try.prog 24 #[.slice A n c, .slice B n' c'] w (Ret w (.bool true)) := by
  have := same_u8 h h2
  rwa [beq_self_eq_true] at this
end
section
variable {w : World}
theorem maxL1 : 1 ≤ maxLen := by unfold maxLen; omega
theorem zero_same : Calls Try.prog 27 #[.agg #[.int .i64 0, .slice none 0 0, .string ⟨#[]⟩, .int .i64 0, .int .i64 0, .bool false, .string ⟨#[]⟩, .float .f64 0], .agg #[.int .i64 0, .slice none 0 0, .string ⟨#[]⟩, .int .i64 0, .int .i64 0, .bool false, .string ⟨#[]⟩, .float .f64 0]] w (Ret w (.bool true)) :=
  rsameX_c 1 1 w _ _ (.mk 0 [] [] ⟨0, 0, false, [], 0⟩) (.mk 0 [] [] ⟨0, 0, false, [], 0⟩) (exp_mk (n := 0) (e := .mk 0 [] [] ⟨0, 0, false, [], 0⟩) (v := .slice none 0 0) (Sl.nil _ (fun _ => True) _)) (exp_mk (n := 0) (e := .mk 0 [] [] ⟨0, 0, false, [], 0⟩) (v := .slice none 0 0) (Sl.nil _ (fun _ => True) _)) (eqX_self _)
set_option maxRecDepth 20000 in
set_option maxHeartbeats 8000000 in
theorem codes_f {n : Nat} {cs : List Value} {e : Exp} {Y : Option Addr} {m z : Nat} {l : List UInt8} (h : (kExp n).R (fun _ => True) w cs e) (hi : ExpI e) (hl : Sl kU8 (fun _ => True) w (.slice Y m z) l) (hm : (m : Int) ≤ 5000) (hsl : (small e && lngE n e) = false) (hsm : small e = false) :
    Calls Try.prog 6 #[.agg cs.toArray, .slice Y m z] w (Ret w (.bool true)) := by
  have SF := store_f64
  obtain ⟨k, A, c, hk, rfl, hs⟩ := exp_open h
  have HE := Lib.hid (show ∀ W : World, Below w.heap.size w W → (kExp n).R (fun _ => True) W #[.int .i64 e.op, .slice A e.kids.length c, .string ⟨e.name.toArray⟩, .int .i64 e.val.kind, .int .i64 e.val.int, .bool e.val.bool, .string ⟨e.val.text.toArray⟩, .float .f64 e.val.num].toList e from fun W hW => Kd.below h hW)
  have HSm := Lib.hid (show ∀ W : World, Below w.heap.size w W → Calls Try.prog 17 #[.agg #[.int .i64 e.op, .slice A e.kids.length c, .string ⟨e.name.toArray⟩, .int .i64 e.val.kind, .int .i64 e.val.int, .bool e.val.bool, .string ⟨e.val.text.toArray⟩, .float .f64 e.val.num]] W (Ret W (.bool (small e))) from fun W hW => small4_c (HE.out W hW))
  have HLg := Lib.hid (show ∀ W : World, Below w.heap.size w W → Calls Try.prog 20 #[.agg #[.int .i64 e.op, .slice A e.kids.length c, .string ⟨e.name.toArray⟩, .int .i64 e.val.kind, .int .i64 e.val.int, .bool e.val.bool, .string ⟨e.val.text.toArray⟩, .float .f64 e.val.num]] W (Ret W (.bool (lngE n e))) from fun W hW => long_c n W _ e (HE.out W hW))
  have L0 : Loc1 w.heap.size 27 #[.int .i64 e.op, .slice A e.kids.length c, .string ⟨e.name.toArray⟩, .int .i64 e.val.kind, .int .i64 e.val.int, .bool e.val.bool, .string ⟨e.val.text.toArray⟩, .float .f64 e.val.num] (w.alloc (.cells #[.int .i64 e.op, .slice A e.kids.length c, .string ⟨e.name.toArray⟩, .int .i64 e.val.kind, .int .i64 e.val.int, .bool e.val.bool, .string ⟨e.val.text.toArray⟩, .float .f64 e.val.num] 27)) := Loc1.new _ _ _
  have B0 : Below w.heap.size w (w.alloc (.cells #[.int .i64 e.op, .slice A e.kids.length c, .string ⟨e.name.toArray⟩, .int .i64 e.val.kind, .int .i64 e.val.int, .bool e.val.bool, .string ⟨e.val.text.toArray⟩, .float .f64 e.val.num] 27)) := bW
  have KE := kk8 L0
  clear h L0
  have hmn : m ≤ 5000 := by omega
  obtain ⟨hw1, hlen⟩ := codes_le (n := k) hi (hk ▸ hsl)
  have HKS := Lib.hid (show ∀ W : World, Below w.heap.size w W → Sl (kExp k) (fun _ => True) W (.slice A e.kids.length c) e.kids from fun W hW => hs.below hW)
  have HP := Lib.hid (show ∀ (W : World) (Y : Option Addr) (m z : Nat), Below w.heap.size w W → Sl kU8 (fun _ => True) W (.slice Y m z) [9] → Calls Try.prog 25 #[.slice Y m z, .agg #[.int .i64 e.op, .slice A e.kids.length c, .string ⟨e.name.toArray⟩, .int .i64 e.val.kind, .int .i64 e.val.int, .bool e.val.bool, .string ⟨e.val.text.toArray⟩, .float .f64 e.val.num]] W (RetOwn kU8 5 (fun _ => True) W ([9] ++ bE k e)) from fun W Y m z hW h => putE_c e h (HKS.out W hW) hw1 (by simp; omega))
  have HQ := Lib.hid (show ∀ (W : World) (Y : Option Addr) (m z : Nat), Below w.heap.size w W → Sl kU8 (fun _ => True) W (.slice Y m z) [9] → Calls Try.prog 26 #[.slice Y m z, .agg #[.int .i64 e.op, .slice A e.kids.length c, .string ⟨e.name.toArray⟩, .int .i64 e.val.kind, .int .i64 e.val.int, .bool e.val.bool, .string ⟨e.val.text.toArray⟩, .float .f64 e.val.num]] W (RetOwn kU8 5 (fun _ => True) W ([9] ++ bE k e)) from fun W Y m z hW h => rputE_c e h (HKS.out W hW) hw1 (by simp; omega))
  have HLg2 := Lib.hid (show small e = true → lngE n e = false from fun h => by rw [h] at hsl; exact hsl)
  clear hs HKS hw1 hlen hsl
  generalize ([9] ++ bE k e) = xs at *
  have HN := Lib.hid (fun (W : World) (hW : Below w.heap.size w W) => new_c (ok := fun _ => True) (hl.below hW) (fun _ _ => trivial) (show m ≤ 1099511627776 by omega))
  have HL := Lib.hid hl
  have LW := Lib.hid (fun (W : World) (hW : Below (w.alloc (.cells #[.int .i64 e.op, .slice A e.kids.length c, .string ⟨e.name.toArray⟩, .int .i64 e.val.kind, .int .i64 e.val.int, .bool e.val.bool, .string ⟨e.val.text.toArray⟩, .float .f64 e.val.num] 27)).heap.size (w.alloc (.cells #[.int .i64 e.op, .slice A e.kids.length c, .string ⟨e.name.toArray⟩, .int .i64 e.val.kind, .int .i64 e.val.int, .bool e.val.bool, .string ⟨e.val.text.toArray⟩, .float .f64 e.val.num] 27)) W) => Loc1.bel hW (Loc1.new w 27 #[.int .i64 e.op, .slice A e.kids.length c, .string ⟨e.name.toArray⟩, .int .i64 e.val.kind, .int .i64 e.val.int, .bool e.val.bool, .string ⟨e.val.text.toArray⟩, .float .f64 e.val.num]))
  have LW0 : w.heap.size < (w.alloc (.cells #[.int .i64 e.op, .slice A e.kids.length c, .string ⟨e.name.toArray⟩, .int .i64 e.val.kind, .int .i64 e.val.int, .bool e.val.bool, .string ⟨e.val.text.toArray⟩, .float .f64 e.val.num] 27)).heap.size := by simp
  clear hl
  rw [hsm] at HSm
  clear HLg HLg2
  go_enter Try.func6, Try.ntmps6
  go_wp2_with fail
  generalize (w.alloc (.cells #[.int .i64 e.op, .slice A e.kids.length c, .string ⟨e.name.toArray⟩, .int .i64 e.val.kind, .int .i64 e.val.int, .bool e.val.bool, .string ⟨e.val.text.toArray⟩, .float .f64 e.val.num] 27)) = w0 at *
  obtain ⟨⟨c0, c1, c2, c3, c4, c5, c6, c7⟩, hz⟩ := KE.out w0 (Below.refl _ _)
  go_wp2_with fail
  refine (HSm.out _ bW).mono ?_
  rintro x9 w2 ⟨rfl, hb2⟩
  clear c0 c1 c2 c3 c4 c5 c6 c7 hz HSm
  go_wp2_with fail
  refine (HN.out _ bW).mono ?_
  rintro x9 w3 ⟨g, rfl, hg, hrd, hb3⟩
  have hgl := hrd.lt
  have B02 : Below w0.heap.size w0 w2 := bW
  have B03 : Below w0.heap.size w0 w3 := Below.trans B02 (hb3.mono B02.size)
  have BW : Below w.heap.size w w3 := Below.trans B0 (B03.mono B0.size)
  have hs2 : w.heap.size ≤ w3.heap.size := BW.size
  have RQ : RdQ (fun k => k < w.heap.size) w3.heap.size (w3.alloc (.cells #[.slice Y m z, .int .i64 0, .int .i64 0] 57)) l 0 := rdq_new ((HL.out.bound.below BW).weak fun k hk => hk.2) (by omega)
  have RP := (hrd.bound).below (show Below w3.heap.size w3 (w3.alloc (.cells #[.slice Y m z, .int .i64 0, .int .i64 0] 57)) from bW)
  have BB := Below.trans BW ((show Below w3.heap.size w3 (w3.alloc (.cells #[.slice Y m z, .int .i64 0, .int .i64 0] 57)) from bW).mono BW.size)
  have LEE := LW.out (w3.alloc (.cells #[.slice Y m z, .int .i64 0, .int .i64 0] 57)) (Below.trans B03 ((show Below w3.heap.size w3 (w3.alloc (.cells #[.slice Y m z, .int .i64 0, .int .i64 0] 57)) from bW).mono B03.size))
  have hz2 : (w3.alloc (.cells #[.slice Y m z, .int .i64 0, .int .i64 0] 57)).heap.size = w3.heap.size + 1 := by simp
  have hgw : w.heap.size < g := by have := B02.size; omega
  clear hrd HN HL hb3 B02 B03
  go_upto_region 4 with (fail)
  generalize (w3.alloc (.cells #[.slice Y m z, .int .i64 0, .int .i64 0] 57)) = wr at *
  generalize w3.heap.size = gq at *
  have HG := Lib.hid (eget_c g (l, 0) RP)
  have HC := Lib.hid (fun (W : World) (h : RdQ (fun k => k < w.heap.size) gq W l 0) => qeget_c gq (l, 0) h)
  cases hG : gE (l, 0) with
  | error x =>
    have hx0 := gE_err hG
    rw [hG] at HG
    rw [hG] at HC
    clear hG
    go_wp2_with fail
    refine HG.out.mono ?_
    rintro x9 w4 ⟨hbd, hx4⟩
    have hbd : x9 = .returned (.tuple #[.agg #[.int .i64 0, .slice none 0 0, .string ⟨#[]⟩, .int .i64 0, .int .i64 0, .bool false, .string ⟨#[]⟩, .float .f64 0], .int .i64 x]) := hbd
    subst hbd
    have R4 := RQ.off hx4 ⟨by omega, fun k hk => by omega⟩
    have B4 := below_ext_ne BB hx4 (Nat.le_of_lt hgw) (Nat.le_refl _)
    have LE4 := loc_ext hx4 (by omega) LEE
    have hs4 := hx4.size
    clear RP RQ hx4 HG LEE
    go_upto_region 5 with (fail)
    have BA : Below w4.heap.size w4 (w4.alloc (.cells #[.int .i64 0, .slice none 0 0, .string ⟨#[]⟩, .int .i64 0, .int .i64 0, .bool false, .string ⟨#[]⟩, .float .f64 0] 27)) := bW
    have LX : Loc1 w4.heap.size 27 #[.int .i64 0, .slice none 0 0, .string ⟨#[]⟩, .int .i64 0, .int .i64 0, .bool false, .string ⟨#[]⟩, .float .f64 0] (w4.alloc (.cells #[.int .i64 0, .slice none 0 0, .string ⟨#[]⟩, .int .i64 0, .int .i64 0, .bool false, .string ⟨#[]⟩, .float .f64 0] 27)) := Loc1.new _ _ _
    have R5 := R4.below BA
    have LE5 := LE4.bel BA
    have B5 := Below.trans B4 (BA.mono B4.size)
    clear R4 B4 BA LE4
    generalize hw5 : (w4.alloc (.cells #[.int .i64 0, .slice none 0 0, .string ⟨#[]⟩, .int .i64 0, .int .i64 0, .bool false, .string ⟨#[]⟩, .float .f64 0] 27)) = w5 at *
    clear hw5
    go_wp2_with fail
    refine (HC.out _ R5).mono ?_
    rintro x9 w5' ⟨hbd, hx5⟩
    have hbd : x9 = .returned (.tuple #[.agg #[.int .i64 0, .slice none 0 0, .string ⟨#[]⟩, .int .i64 0, .int .i64 0, .bool false, .string ⟨#[]⟩, .float .f64 0], .int .i64 x]) := hbd
    subst hbd
    have LX5 := loc_ext hx5 (by omega) LX
    have LE6 := loc_ext hx5 (by omega) LE5
    have B6 := below_ext_ne B5 hx5 (by omega : w.heap.size ≤ gq) (Nat.le_refl _)
    have n1 : (x != 0) = true := by simpa using hx0
    have n2 : (x == 0) = false := by simpa using hx0
    clear hx5 HC R5 LX B5 hx0 LE5
    go_upto_region 6 with (fail)
    have BA : Below w5'.heap.size w5' (w5'.alloc (.cells #[.int .i64 0, .slice none 0 0, .string ⟨#[]⟩, .int .i64 0, .int .i64 0, .bool false, .string ⟨#[]⟩, .float .f64 0] 27)) := bW
    have LY6 : Loc1 w5'.heap.size 27 #[.int .i64 0, .slice none 0 0, .string ⟨#[]⟩, .int .i64 0, .int .i64 0, .bool false, .string ⟨#[]⟩, .float .f64 0] (w5'.alloc (.cells #[.int .i64 0, .slice none 0 0, .string ⟨#[]⟩, .int .i64 0, .int .i64 0, .bool false, .string ⟨#[]⟩, .float .f64 0] 27)) := Loc1.new _ _ _
    have LX6 := LX5.bel BA
    replace LE6 := LE6.bel BA
    replace B6 := Below.trans B6 (BA.mono B6.size)
    clear LX5 BA
    generalize hw6 : (w5'.alloc (.cells #[.int .i64 0, .slice none 0 0, .string ⟨#[]⟩, .int .i64 0, .int .i64 0, .bool false, .string ⟨#[]⟩, .float .f64 0] 27)) = w6 at *
    clear hw6
    generalize w5'.heap.size = yb at *
    generalize w4.heap.size = xb at *
    have HSM := Lib.hid (fun (W : World) (hW : Below w6.heap.size w6 W) => zero_same (w := W))
    have KK := Lib.hid (show ∀ W : World, Below w6.heap.size w6 W → (W.cell? ⟨w.heap.size, 0, none⟩ = some (.int .i64 e.op) ∧ W.cell? ⟨w.heap.size, 1, none⟩ = some (.slice A e.kids.length c) ∧ W.cell? ⟨w.heap.size, 2, none⟩ = some (.string ⟨e.name.toArray⟩) ∧ W.cell? ⟨w.heap.size, 3, none⟩ = some (.int .i64 e.val.kind) ∧ W.cell? ⟨w.heap.size, 4, none⟩ = some (.int .i64 e.val.int) ∧ W.cell? ⟨w.heap.size, 5, none⟩ = some (.bool e.val.bool) ∧ W.cell? ⟨w.heap.size, 6, none⟩ = some (.string ⟨e.val.text.toArray⟩) ∧ W.cell? ⟨w.heap.size, 7, none⟩ = some (.float .f64 e.val.num)) ∧ (W.cell? ⟨xb, 0, none⟩ = some (.int .i64 0) ∧ W.cell? ⟨xb, 1, none⟩ = some (.slice none 0 0) ∧ W.cell? ⟨xb, 2, none⟩ = some (.string ⟨#[]⟩) ∧ W.cell? ⟨xb, 3, none⟩ = some (.int .i64 0) ∧ W.cell? ⟨xb, 4, none⟩ = some (.int .i64 0) ∧ W.cell? ⟨xb, 5, none⟩ = some (.bool false) ∧ W.cell? ⟨xb, 6, none⟩ = some (.string ⟨#[]⟩) ∧ W.cell? ⟨xb, 7, none⟩ = some (.float .f64 0)) ∧ (W.cell? ⟨yb, 0, none⟩ = some (.int .i64 0) ∧ W.cell? ⟨yb, 1, none⟩ = some (.slice none 0 0) ∧ W.cell? ⟨yb, 2, none⟩ = some (.string ⟨#[]⟩) ∧ W.cell? ⟨yb, 3, none⟩ = some (.int .i64 0) ∧ W.cell? ⟨yb, 4, none⟩ = some (.int .i64 0) ∧ W.cell? ⟨yb, 5, none⟩ = some (.bool false) ∧ W.cell? ⟨yb, 6, none⟩ = some (.string ⟨#[]⟩) ∧ W.cell? ⟨yb, 7, none⟩ = some (.float .f64 0)) from fun W hW => ⟨⟨cell_of (LE6.bel hW) 0, cell_of (LE6.bel hW) 1, cell_of (LE6.bel hW) 2, cell_of (LE6.bel hW) 3, cell_of (LE6.bel hW) 4, cell_of (LE6.bel hW) 5, cell_of (LE6.bel hW) 6, cell_of (LE6.bel hW) 7⟩, ⟨cell_of (LX6.bel hW) 0, cell_of (LX6.bel hW) 1, cell_of (LX6.bel hW) 2, cell_of (LX6.bel hW) 3, cell_of (LX6.bel hW) 4, cell_of (LX6.bel hW) 5, cell_of (LX6.bel hW) 6, cell_of (LX6.bel hW) 7⟩, ⟨cell_of (LY6.bel hW) 0, cell_of (LY6.bel hW) 1, cell_of (LY6.bel hW) 2, cell_of (LY6.bel hW) 3, cell_of (LY6.bel hW) 4, cell_of (LY6.bel hW) 5, cell_of (LY6.bel hW) 6, cell_of (LY6.bel hW) 7⟩⟩)
    clear LX6 LY6 LE6
    refine wp_region_held_drew (S := fun W => (W.cell? ⟨w.heap.size, 0, none⟩ = some (.int .i64 e.op) ∧ W.cell? ⟨w.heap.size, 1, none⟩ = some (.slice A e.kids.length c) ∧ W.cell? ⟨w.heap.size, 2, none⟩ = some (.string ⟨e.name.toArray⟩) ∧ W.cell? ⟨w.heap.size, 3, none⟩ = some (.int .i64 e.val.kind) ∧ W.cell? ⟨w.heap.size, 4, none⟩ = some (.int .i64 e.val.int) ∧ W.cell? ⟨w.heap.size, 5, none⟩ = some (.bool e.val.bool) ∧ W.cell? ⟨w.heap.size, 6, none⟩ = some (.string ⟨e.val.text.toArray⟩) ∧ W.cell? ⟨w.heap.size, 7, none⟩ = some (.float .f64 e.val.num)) ∧ (W.cell? ⟨xb, 0, none⟩ = some (.int .i64 0) ∧ W.cell? ⟨xb, 1, none⟩ = some (.slice none 0 0) ∧ W.cell? ⟨xb, 2, none⟩ = some (.string ⟨#[]⟩) ∧ W.cell? ⟨xb, 3, none⟩ = some (.int .i64 0) ∧ W.cell? ⟨xb, 4, none⟩ = some (.int .i64 0) ∧ W.cell? ⟨xb, 5, none⟩ = some (.bool false) ∧ W.cell? ⟨xb, 6, none⟩ = some (.string ⟨#[]⟩) ∧ W.cell? ⟨xb, 7, none⟩ = some (.float .f64 0)) ∧ (W.cell? ⟨yb, 0, none⟩ = some (.int .i64 0) ∧ W.cell? ⟨yb, 1, none⟩ = some (.slice none 0 0) ∧ W.cell? ⟨yb, 2, none⟩ = some (.string ⟨#[]⟩) ∧ W.cell? ⟨yb, 3, none⟩ = some (.int .i64 0) ∧ W.cell? ⟨yb, 4, none⟩ = some (.int .i64 0) ∧ W.cell? ⟨yb, 5, none⟩ = some (.bool false) ∧ W.cell? ⟨yb, 6, none⟩ = some (.string ⟨#[]⟩) ∧ W.cell? ⟨yb, 7, none⟩ = some (.float .f64 0))) (by kernel_rfl) (KK.out _ bW) (fun hHeld => ?_)
    refine takeH 1 38 (.agg #[.int .i64 e.op, .slice A e.kids.length c, .string ⟨e.name.toArray⟩, .int .i64 e.val.kind, .int .i64 e.val.int, .bool e.val.bool, .string ⟨e.val.text.toArray⟩, .float .f64 e.val.num]) rfl rfl ⟨by kernel_rfl, by kernel_rfl, by kernel_rfl⟩ (fun _ _ _ h => h) (Or.inl ⟨by rfl, by (intro wz hSw; (try dsimp only at hSw); go_simp)⟩) (by assumption) ?_
    try simp only [Act.put, List.setIfInBounds_toArray, List.set_cons_zero, List.set_cons_succ]
    refine takeH 4 41 (.agg #[.int .i64 e.op, .slice A e.kids.length c, .string ⟨e.name.toArray⟩, .int .i64 e.val.kind, .int .i64 e.val.int, .bool e.val.bool, .string ⟨e.val.text.toArray⟩, .float .f64 e.val.num]) rfl rfl ⟨by kernel_rfl, by kernel_rfl, by kernel_rfl⟩ (fun _ _ _ h => h) (Or.inl ⟨by rfl, by (intro wz hSw; (try dsimp only at hSw); go_simp)⟩) (by assumption) ?_
    try simp only [Act.put, List.setIfInBounds_toArray, List.set_cons_zero, List.set_cons_succ]
    refine wpAnyH_ready (rs := [0, 3]) (by kernel_rfl) (by simp) ?_
    refine (AllReadyH.cons rfl (fun K hK => ?_) (AllReadyH.cons rfl (fun K hK => ?_) AllReadyH.nil))
    · skip
      go_simp
      refine hK.out _ _ (KK.out _ bW) (fun hHeld => ?_)
      clear hK K
      try simp only [Act.put, List.setIfInBounds_toArray, List.set_cons_zero, List.set_cons_succ]
      refine wpAnyH_ready (rs := [2, 3]) (by kernel_rfl) (by simp) ?_
      refine (AllReadyH.cons rfl (fun K hK => ?_) (AllReadyH.cons rfl (fun K hK => ?_) AllReadyH.nil))
      · skip
        go_simp
        refine (HP.out _ _ _ _ bW (sl_row (d := kU8) (ok := fun _ => True) (t := 5) (cs := [.int .u8 9]) (xs := [9]) ?_ trivial ⟨[_], [], rfl, rfl, rfl⟩ rfl maxL1)).mono ?_
        (focus (repeat (first | with_reducible assumption | (refine Loc1.newE _ _ _ ?_; simp; done) | with_reducible refine Loc1.al _ ?_ | with_reducible refine Loc1.dr ?_ | with_reducible refine Loc1.bel (by assumption) ?_)))
        rintro x9 wp2 ⟨v2, rfl, ho2, hb2⟩
        obtain ⟨P2, n2, e2, rfl, -⟩ := ho2.form'
        have HO2 := Lib.hid ho2.read
        clear ho2
        refine hK.out _ _ (KK.out _ bW) (fun hHeld => ?_)
        clear hK K
        try simp only [Act.put, List.setIfInBounds_toArray, List.set_cons_zero, List.set_cons_succ]
        refine wpAnyH_ready (rs := [3]) (by kernel_rfl) (by simp) ?_
        refine (AllReadyH.cons rfl (fun K hK => ?_) AllReadyH.nil)
        go_simp
        refine hK.out _ _ (KK.out _ bW) (fun hHeld => ?_)
        clear hK K
        try simp only [Act.put, List.setIfInBounds_toArray, List.set_cons_zero, List.set_cons_succ]
        refine wpAnyH_ready (rs := [5]) (by kernel_rfl) (by simp) ?_
        refine (AllReadyH.cons rfl (fun K hK => ?_) AllReadyH.nil)
        go_simp
        refine (HQ.out _ _ _ _ bW (sl_row (d := kU8) (ok := fun _ => True) (t := 5) (cs := [.int .u8 9]) (xs := [9]) ?_ trivial ⟨[_], [], rfl, rfl, rfl⟩ rfl maxL1)).mono ?_
        (focus (repeat (first | with_reducible assumption | (refine Loc1.newE _ _ _ ?_; simp; done) | with_reducible refine Loc1.al _ ?_ | with_reducible refine Loc1.dr ?_ | with_reducible refine Loc1.bel (by assumption) ?_)))
        rintro x9 wp3 ⟨v3, rfl, ho3, hb3⟩
        obtain ⟨P3, n3, e3, rfl, -⟩ := ho3.form'
        have HO3 := Lib.hid ho3.read
        clear ho3
        refine hK.out _ _ (KK.out _ bW) (fun hHeld => ?_)
        clear hK K
        try simp only [Act.put, List.setIfInBounds_toArray, List.set_cons_zero, List.set_cons_succ]
        refine wpAnyH_ready (rs := [6]) (by kernel_rfl) (by simp) ?_
        refine (AllReadyH.cons rfl (fun K hK => ?_) AllReadyH.nil)
        go_simp
        refine (same_uu (HO2.out.below bW) (HO3.out.below bW)).mono ?_
        rintro x9 w8 ⟨rfl, hbw8⟩
        refine hK.out _ _ (KK.out _ bW) (fun hHeld => ?_)
        clear hK K
        try simp only [Act.put, List.setIfInBounds_toArray, List.set_cons_zero, List.set_cons_succ]
        refine takeH 7 44 (.bool true) rfl rfl ⟨by kernel_rfl, by kernel_rfl, by kernel_rfl⟩ (fun _ _ _ h => h) (Or.inl ⟨by rfl, by (intro wz hSw; (try dsimp only at hSw); go_simp)⟩) (by assumption) ?_
        try simp only [Act.put, List.setIfInBounds_toArray, List.set_cons_zero, List.set_cons_succ]
        refine takeH 8 45 (.agg #[.int .i64 0, .slice none 0 0, .string ⟨#[]⟩, .int .i64 0, .int .i64 0, .bool false, .string ⟨#[]⟩, .float .f64 0]) rfl rfl ⟨by kernel_rfl, by kernel_rfl, by kernel_rfl⟩ (fun _ _ _ h => h) (Or.inl ⟨by rfl, by (intro wz hSw; (try dsimp only at hSw); go_simp)⟩) (by assumption) ?_
        try simp only [Act.put, List.setIfInBounds_toArray, List.set_cons_zero, List.set_cons_succ]
        refine takeH 9 46 (.agg #[.int .i64 0, .slice none 0 0, .string ⟨#[]⟩, .int .i64 0, .int .i64 0, .bool false, .string ⟨#[]⟩, .float .f64 0]) rfl rfl ⟨by kernel_rfl, by kernel_rfl, by kernel_rfl⟩ (fun _ _ _ h => h) (Or.inl ⟨by rfl, by (intro wz hSw; (try dsimp only at hSw); go_simp)⟩) (by assumption) ?_
        try simp only [Act.put, List.setIfInBounds_toArray, List.set_cons_zero, List.set_cons_succ]
        refine wpAnyH_ready (rs := [10]) (by kernel_rfl) (by simp) ?_
        refine (AllReadyH.cons rfl (fun K hK => ?_) AllReadyH.nil)
        go_simp
        refine (HSM.out _ bW).mono ?_
        rintro x9 w9 ⟨rfl, hbw9⟩
        refine hK.out _ _ (KK.out _ bW) (fun hHeld => ?_)
        clear hK K
        try simp only [Act.put, List.setIfInBounds_toArray, List.set_cons_zero, List.set_cons_succ]
        refine takeH 11 48 (.bool true) rfl rfl ⟨by kernel_rfl, by kernel_rfl, by kernel_rfl⟩ (fun _ _ _ h => h) (Or.inl ⟨by rfl, by (intro wz hSw; (try dsimp only at hSw); go_simp)⟩) (by assumption) ?_
        try simp only [Act.put, List.setIfInBounds_toArray, List.set_cons_zero, List.set_cons_succ]
        refine takeH 12 49 (.bool true) rfl rfl ⟨by kernel_rfl, by kernel_rfl, by kernel_rfl⟩ (fun _ _ _ h => h) (Or.inl ⟨by rfl, by (intro wz hSw; (try dsimp only at hSw); go_simp)⟩) (by assumption) ?_
        try simp only [Act.put, List.setIfInBounds_toArray, List.set_cons_zero, List.set_cons_succ]
        refine takeH 13 50 (.int .i64 x) rfl rfl ⟨by kernel_rfl, by kernel_rfl, by kernel_rfl⟩ (fun _ _ _ h => h) (Or.inl ⟨by rfl, by (intro wz hSw; (try dsimp only at hSw); go_simp)⟩) (by assumption) ?_
        try simp only [Act.put, List.setIfInBounds_toArray, List.set_cons_zero, List.set_cons_succ]
        refine takeH 14 51 (.int .i64 x) rfl rfl ⟨by kernel_rfl, by kernel_rfl, by kernel_rfl⟩ (fun _ _ _ h => h) (Or.inl ⟨by rfl, by (intro wz hSw; (try dsimp only at hSw); go_simp)⟩) (by assumption) ?_
        try simp only [Act.put, List.setIfInBounds_toArray, List.set_cons_zero, List.set_cons_succ]
        refine takeH 15 52 (.bool true) rfl rfl ⟨by kernel_rfl, by kernel_rfl, by kernel_rfl⟩ (fun _ _ _ h => h) (Or.inl ⟨by rfl, by (intro wz hSw; (try dsimp only at hSw); go_simp)⟩) (by assumption) ?_
        try simp only [Act.put, List.setIfInBounds_toArray, List.set_cons_zero, List.set_cons_succ]
        refine takeH 16 53 (.bool true) rfl rfl ⟨by kernel_rfl, by kernel_rfl, by kernel_rfl⟩ (fun _ _ _ h => h) (Or.inl ⟨by rfl, by (intro wz hSw; (try dsimp only at hSw); go_simp)⟩) (by assumption) ?_
        try simp only [Act.put, List.setIfInBounds_toArray, List.set_cons_zero, List.set_cons_succ]
        refine takeH 17 54 (.bool true) rfl rfl ⟨by kernel_rfl, by kernel_rfl, by kernel_rfl⟩ (fun _ _ _ h => h) (Or.inl ⟨by rfl, by (intro wz hSw; (try dsimp only at hSw); go_simp)⟩) (by assumption) ?_
        try simp only [Act.put, List.setIfInBounds_toArray, List.set_cons_zero, List.set_cons_succ]
        refine takeH 18 55 (.int .i64 x) rfl rfl ⟨by kernel_rfl, by kernel_rfl, by kernel_rfl⟩ (fun _ _ _ h => h) (Or.inl ⟨by rfl, by (intro wz hSw; (try dsimp only at hSw); go_simp)⟩) (by assumption) ?_
        try simp only [Act.put, List.setIfInBounds_toArray, List.set_cons_zero, List.set_cons_succ]
        refine takeH 19 56 (.bool true) rfl rfl ⟨by kernel_rfl, by kernel_rfl, by kernel_rfl⟩ (fun _ _ _ h => h) (Or.inl ⟨by rfl, by (intro wz hSw; (try dsimp only at hSw); go_simp)⟩) (by assumption) ?_
        try simp only [Act.put, List.setIfInBounds_toArray, List.set_cons_zero, List.set_cons_succ]
        refine takeH 20 57 (.bool true) rfl rfl ⟨by kernel_rfl, by kernel_rfl, by kernel_rfl⟩ (fun _ _ _ h => h) (Or.inl ⟨by rfl, by (intro wz hSw; (try dsimp only at hSw); go_simp)⟩) (by assumption) ?_
        try simp only [Act.put, List.setIfInBounds_toArray, List.set_cons_zero, List.set_cons_succ]
        refine wpAnyH_take (i := 21) (v := undef) rfl (by kernel_rfl) (by kernel_rfl) (by kernel_rfl) (fun _ _ _ h => h) (Or.inr ⟨by rfl, rfl⟩) (by assumption) ?_
        try simp only [Act.put, List.setIfInBounds_toArray, List.set_cons_zero, List.set_cons_succ]
        refine wpAnyH_take (i := 22) (v := undef) rfl (by kernel_rfl) (by kernel_rfl) (by kernel_rfl) (fun _ _ _ h => h) (Or.inr ⟨by rfl, rfl⟩) (by assumption) ?_
        try simp only [Act.put, List.setIfInBounds_toArray, List.set_cons_zero, List.set_cons_succ]
        refine wpAnyH_take (i := 23) (v := undef) rfl (by kernel_rfl) (by kernel_rfl) (by kernel_rfl) (fun _ _ _ h => h) (Or.inr ⟨by rfl, rfl⟩) (by assumption) ?_
        try simp only [Act.put, List.setIfInBounds_toArray, List.set_cons_zero, List.set_cons_succ]
        refine wpAnyH_take (i := 24) (v := undef) rfl (by kernel_rfl) (by kernel_rfl) (by kernel_rfl) (fun _ _ _ h => h) (Or.inr ⟨by rfl, rfl⟩) (by assumption) ?_
        try simp only [Act.put, List.setIfInBounds_toArray, List.set_cons_zero, List.set_cons_succ]
        refine wpAnyH_take (i := 25) (v := undef) rfl (by kernel_rfl) (by kernel_rfl) (by kernel_rfl) (fun _ _ _ h => h) (Or.inr ⟨by rfl, rfl⟩) (by assumption) ?_
        try simp only [Act.put, List.setIfInBounds_toArray, List.set_cons_zero, List.set_cons_succ]
        refine takeH 26 63 (.bool true) rfl rfl ⟨by kernel_rfl, by kernel_rfl, by kernel_rfl⟩ (fun _ _ _ h => h) (Or.inl ⟨by rfl, by (intro wz hSw; (try dsimp only at hSw); go_simp)⟩) (by assumption) ?_
        try simp only [Act.put, List.setIfInBounds_toArray, List.set_cons_zero, List.set_cons_succ]
        refine takeH 27 64 (.bool true) rfl rfl ⟨by kernel_rfl, by kernel_rfl, by kernel_rfl⟩ (fun _ _ _ h => h) (Or.inl ⟨by rfl, by (intro wz hSw; (try dsimp only at hSw); go_simp)⟩) (by assumption) ?_
        try simp only [Act.put, List.setIfInBounds_toArray, List.set_cons_zero, List.set_cons_succ]
        refine takeH 28 65 (.bool true) rfl rfl ⟨by kernel_rfl, by kernel_rfl, by kernel_rfl⟩ (fun _ _ _ h => h) (Or.inl ⟨by rfl, by (intro wz hSw; (try dsimp only at hSw); go_simp)⟩) (by assumption) ?_
        try simp only [Act.put, List.setIfInBounds_toArray, List.set_cons_zero, List.set_cons_succ]
        refine wpAnyH_ready (rs := [29]) (by kernel_rfl) (by simp) ?_
        refine (AllReadyH.cons rfl (fun K hK => ?_) AllReadyH.nil)
        go_simp
        refine (awake_c).mono ?_
        rintro x9 wd ⟨rfl, hbwd⟩
        refine hK.out _ _ (KK.out _ bW) (fun hHeld => ?_)
        clear hK K
        try simp only [Act.put, List.setIfInBounds_toArray, List.set_cons_zero, List.set_cons_succ]
        refine takeH 30 67 (.bool true) rfl rfl ⟨by kernel_rfl, by kernel_rfl, by kernel_rfl⟩ (fun _ _ _ h => h) (Or.inl ⟨by rfl, by (intro wz hSw; (try dsimp only at hSw); go_simp)⟩) (by assumption) ?_
        try simp only [Act.put, List.setIfInBounds_toArray, List.set_cons_zero, List.set_cons_succ]
        refine takeH 31 4 (.bool true) rfl rfl ⟨by kernel_rfl, by kernel_rfl, by kernel_rfl⟩ (fun _ _ _ h => h) (Or.inl ⟨by rfl, by (intro wz hSw; (try dsimp only at hSw); go_simp)⟩) (by assumption) ?_
        try simp only [Act.put, List.setIfInBounds_toArray, List.set_cons_zero, List.set_cons_succ]
        refine wpAnyH_done (by kernel_rfl) ?_ _
        go_wp2_with fail
        go_ret
        exact ⟨rfl, bW⟩
      · skip
        go_simp
        refine hK.out _ _ (KK.out _ bW) (fun hHeld => ?_)
        clear hK K
        try simp only [Act.put, List.setIfInBounds_toArray, List.set_cons_zero, List.set_cons_succ]
        refine wpAnyH_ready (rs := [2]) (by kernel_rfl) (by simp) ?_
        refine (AllReadyH.cons rfl (fun K hK => ?_) AllReadyH.nil)
        go_simp
        refine (HP.out _ _ _ _ bW (sl_row (d := kU8) (ok := fun _ => True) (t := 5) (cs := [.int .u8 9]) (xs := [9]) ?_ trivial ⟨[_], [], rfl, rfl, rfl⟩ rfl maxL1)).mono ?_
        (focus (repeat (first | with_reducible assumption | (refine Loc1.newE _ _ _ ?_; simp; done) | with_reducible refine Loc1.al _ ?_ | with_reducible refine Loc1.dr ?_ | with_reducible refine Loc1.bel (by assumption) ?_)))
        rintro x9 wp2 ⟨v2, rfl, ho2, hb2⟩
        obtain ⟨P2, n2, e2, rfl, -⟩ := ho2.form'
        have HO2 := Lib.hid ho2.read
        clear ho2
        refine hK.out _ _ (KK.out _ bW) (fun hHeld => ?_)
        clear hK K
        try simp only [Act.put, List.setIfInBounds_toArray, List.set_cons_zero, List.set_cons_succ]
        refine wpAnyH_ready (rs := [5]) (by kernel_rfl) (by simp) ?_
        refine (AllReadyH.cons rfl (fun K hK => ?_) AllReadyH.nil)
        go_simp
        refine (HQ.out _ _ _ _ bW (sl_row (d := kU8) (ok := fun _ => True) (t := 5) (cs := [.int .u8 9]) (xs := [9]) ?_ trivial ⟨[_], [], rfl, rfl, rfl⟩ rfl maxL1)).mono ?_
        (focus (repeat (first | with_reducible assumption | (refine Loc1.newE _ _ _ ?_; simp; done) | with_reducible refine Loc1.al _ ?_ | with_reducible refine Loc1.dr ?_ | with_reducible refine Loc1.bel (by assumption) ?_)))
        rintro x9 wp3 ⟨v3, rfl, ho3, hb3⟩
        obtain ⟨P3, n3, e3, rfl, -⟩ := ho3.form'
        have HO3 := Lib.hid ho3.read
        clear ho3
        refine hK.out _ _ (KK.out _ bW) (fun hHeld => ?_)
        clear hK K
        try simp only [Act.put, List.setIfInBounds_toArray, List.set_cons_zero, List.set_cons_succ]
        refine wpAnyH_ready (rs := [6]) (by kernel_rfl) (by simp) ?_
        refine (AllReadyH.cons rfl (fun K hK => ?_) AllReadyH.nil)
        go_simp
        refine (same_uu (HO2.out.below bW) (HO3.out.below bW)).mono ?_
        rintro x9 w8 ⟨rfl, hbw8⟩
        refine hK.out _ _ (KK.out _ bW) (fun hHeld => ?_)
        clear hK K
        try simp only [Act.put, List.setIfInBounds_toArray, List.set_cons_zero, List.set_cons_succ]
        refine takeH 7 44 (.bool true) rfl rfl ⟨by kernel_rfl, by kernel_rfl, by kernel_rfl⟩ (fun _ _ _ h => h) (Or.inl ⟨by rfl, by (intro wz hSw; (try dsimp only at hSw); go_simp)⟩) (by assumption) ?_
        try simp only [Act.put, List.setIfInBounds_toArray, List.set_cons_zero, List.set_cons_succ]
        refine takeH 8 45 (.agg #[.int .i64 0, .slice none 0 0, .string ⟨#[]⟩, .int .i64 0, .int .i64 0, .bool false, .string ⟨#[]⟩, .float .f64 0]) rfl rfl ⟨by kernel_rfl, by kernel_rfl, by kernel_rfl⟩ (fun _ _ _ h => h) (Or.inl ⟨by rfl, by (intro wz hSw; (try dsimp only at hSw); go_simp)⟩) (by assumption) ?_
        try simp only [Act.put, List.setIfInBounds_toArray, List.set_cons_zero, List.set_cons_succ]
        refine takeH 9 46 (.agg #[.int .i64 0, .slice none 0 0, .string ⟨#[]⟩, .int .i64 0, .int .i64 0, .bool false, .string ⟨#[]⟩, .float .f64 0]) rfl rfl ⟨by kernel_rfl, by kernel_rfl, by kernel_rfl⟩ (fun _ _ _ h => h) (Or.inl ⟨by rfl, by (intro wz hSw; (try dsimp only at hSw); go_simp)⟩) (by assumption) ?_
        try simp only [Act.put, List.setIfInBounds_toArray, List.set_cons_zero, List.set_cons_succ]
        refine wpAnyH_ready (rs := [10]) (by kernel_rfl) (by simp) ?_
        refine (AllReadyH.cons rfl (fun K hK => ?_) AllReadyH.nil)
        go_simp
        refine (HSM.out _ bW).mono ?_
        rintro x9 w9 ⟨rfl, hbw9⟩
        refine hK.out _ _ (KK.out _ bW) (fun hHeld => ?_)
        clear hK K
        try simp only [Act.put, List.setIfInBounds_toArray, List.set_cons_zero, List.set_cons_succ]
        refine takeH 11 48 (.bool true) rfl rfl ⟨by kernel_rfl, by kernel_rfl, by kernel_rfl⟩ (fun _ _ _ h => h) (Or.inl ⟨by rfl, by (intro wz hSw; (try dsimp only at hSw); go_simp)⟩) (by assumption) ?_
        try simp only [Act.put, List.setIfInBounds_toArray, List.set_cons_zero, List.set_cons_succ]
        refine takeH 12 49 (.bool true) rfl rfl ⟨by kernel_rfl, by kernel_rfl, by kernel_rfl⟩ (fun _ _ _ h => h) (Or.inl ⟨by rfl, by (intro wz hSw; (try dsimp only at hSw); go_simp)⟩) (by assumption) ?_
        try simp only [Act.put, List.setIfInBounds_toArray, List.set_cons_zero, List.set_cons_succ]
        refine takeH 13 50 (.int .i64 x) rfl rfl ⟨by kernel_rfl, by kernel_rfl, by kernel_rfl⟩ (fun _ _ _ h => h) (Or.inl ⟨by rfl, by (intro wz hSw; (try dsimp only at hSw); go_simp)⟩) (by assumption) ?_
        try simp only [Act.put, List.setIfInBounds_toArray, List.set_cons_zero, List.set_cons_succ]
        refine takeH 14 51 (.int .i64 x) rfl rfl ⟨by kernel_rfl, by kernel_rfl, by kernel_rfl⟩ (fun _ _ _ h => h) (Or.inl ⟨by rfl, by (intro wz hSw; (try dsimp only at hSw); go_simp)⟩) (by assumption) ?_
        try simp only [Act.put, List.setIfInBounds_toArray, List.set_cons_zero, List.set_cons_succ]
        refine takeH 15 52 (.bool true) rfl rfl ⟨by kernel_rfl, by kernel_rfl, by kernel_rfl⟩ (fun _ _ _ h => h) (Or.inl ⟨by rfl, by (intro wz hSw; (try dsimp only at hSw); go_simp)⟩) (by assumption) ?_
        try simp only [Act.put, List.setIfInBounds_toArray, List.set_cons_zero, List.set_cons_succ]
        refine takeH 16 53 (.bool true) rfl rfl ⟨by kernel_rfl, by kernel_rfl, by kernel_rfl⟩ (fun _ _ _ h => h) (Or.inl ⟨by rfl, by (intro wz hSw; (try dsimp only at hSw); go_simp)⟩) (by assumption) ?_
        try simp only [Act.put, List.setIfInBounds_toArray, List.set_cons_zero, List.set_cons_succ]
        refine takeH 17 54 (.bool true) rfl rfl ⟨by kernel_rfl, by kernel_rfl, by kernel_rfl⟩ (fun _ _ _ h => h) (Or.inl ⟨by rfl, by (intro wz hSw; (try dsimp only at hSw); go_simp)⟩) (by assumption) ?_
        try simp only [Act.put, List.setIfInBounds_toArray, List.set_cons_zero, List.set_cons_succ]
        refine takeH 18 55 (.int .i64 x) rfl rfl ⟨by kernel_rfl, by kernel_rfl, by kernel_rfl⟩ (fun _ _ _ h => h) (Or.inl ⟨by rfl, by (intro wz hSw; (try dsimp only at hSw); go_simp)⟩) (by assumption) ?_
        try simp only [Act.put, List.setIfInBounds_toArray, List.set_cons_zero, List.set_cons_succ]
        refine takeH 19 56 (.bool true) rfl rfl ⟨by kernel_rfl, by kernel_rfl, by kernel_rfl⟩ (fun _ _ _ h => h) (Or.inl ⟨by rfl, by (intro wz hSw; (try dsimp only at hSw); go_simp)⟩) (by assumption) ?_
        try simp only [Act.put, List.setIfInBounds_toArray, List.set_cons_zero, List.set_cons_succ]
        refine takeH 20 57 (.bool true) rfl rfl ⟨by kernel_rfl, by kernel_rfl, by kernel_rfl⟩ (fun _ _ _ h => h) (Or.inl ⟨by rfl, by (intro wz hSw; (try dsimp only at hSw); go_simp)⟩) (by assumption) ?_
        try simp only [Act.put, List.setIfInBounds_toArray, List.set_cons_zero, List.set_cons_succ]
        refine wpAnyH_take (i := 21) (v := undef) rfl (by kernel_rfl) (by kernel_rfl) (by kernel_rfl) (fun _ _ _ h => h) (Or.inr ⟨by rfl, rfl⟩) (by assumption) ?_
        try simp only [Act.put, List.setIfInBounds_toArray, List.set_cons_zero, List.set_cons_succ]
        refine wpAnyH_take (i := 22) (v := undef) rfl (by kernel_rfl) (by kernel_rfl) (by kernel_rfl) (fun _ _ _ h => h) (Or.inr ⟨by rfl, rfl⟩) (by assumption) ?_
        try simp only [Act.put, List.setIfInBounds_toArray, List.set_cons_zero, List.set_cons_succ]
        refine wpAnyH_take (i := 23) (v := undef) rfl (by kernel_rfl) (by kernel_rfl) (by kernel_rfl) (fun _ _ _ h => h) (Or.inr ⟨by rfl, rfl⟩) (by assumption) ?_
        try simp only [Act.put, List.setIfInBounds_toArray, List.set_cons_zero, List.set_cons_succ]
        refine wpAnyH_take (i := 24) (v := undef) rfl (by kernel_rfl) (by kernel_rfl) (by kernel_rfl) (fun _ _ _ h => h) (Or.inr ⟨by rfl, rfl⟩) (by assumption) ?_
        try simp only [Act.put, List.setIfInBounds_toArray, List.set_cons_zero, List.set_cons_succ]
        refine wpAnyH_take (i := 25) (v := undef) rfl (by kernel_rfl) (by kernel_rfl) (by kernel_rfl) (fun _ _ _ h => h) (Or.inr ⟨by rfl, rfl⟩) (by assumption) ?_
        try simp only [Act.put, List.setIfInBounds_toArray, List.set_cons_zero, List.set_cons_succ]
        refine takeH 26 63 (.bool true) rfl rfl ⟨by kernel_rfl, by kernel_rfl, by kernel_rfl⟩ (fun _ _ _ h => h) (Or.inl ⟨by rfl, by (intro wz hSw; (try dsimp only at hSw); go_simp)⟩) (by assumption) ?_
        try simp only [Act.put, List.setIfInBounds_toArray, List.set_cons_zero, List.set_cons_succ]
        refine takeH 27 64 (.bool true) rfl rfl ⟨by kernel_rfl, by kernel_rfl, by kernel_rfl⟩ (fun _ _ _ h => h) (Or.inl ⟨by rfl, by (intro wz hSw; (try dsimp only at hSw); go_simp)⟩) (by assumption) ?_
        try simp only [Act.put, List.setIfInBounds_toArray, List.set_cons_zero, List.set_cons_succ]
        refine takeH 28 65 (.bool true) rfl rfl ⟨by kernel_rfl, by kernel_rfl, by kernel_rfl⟩ (fun _ _ _ h => h) (Or.inl ⟨by rfl, by (intro wz hSw; (try dsimp only at hSw); go_simp)⟩) (by assumption) ?_
        try simp only [Act.put, List.setIfInBounds_toArray, List.set_cons_zero, List.set_cons_succ]
        refine wpAnyH_ready (rs := [29]) (by kernel_rfl) (by simp) ?_
        refine (AllReadyH.cons rfl (fun K hK => ?_) AllReadyH.nil)
        go_simp
        refine (awake_c).mono ?_
        rintro x9 wd ⟨rfl, hbwd⟩
        refine hK.out _ _ (KK.out _ bW) (fun hHeld => ?_)
        clear hK K
        try simp only [Act.put, List.setIfInBounds_toArray, List.set_cons_zero, List.set_cons_succ]
        refine takeH 30 67 (.bool true) rfl rfl ⟨by kernel_rfl, by kernel_rfl, by kernel_rfl⟩ (fun _ _ _ h => h) (Or.inl ⟨by rfl, by (intro wz hSw; (try dsimp only at hSw); go_simp)⟩) (by assumption) ?_
        try simp only [Act.put, List.setIfInBounds_toArray, List.set_cons_zero, List.set_cons_succ]
        refine takeH 31 4 (.bool true) rfl rfl ⟨by kernel_rfl, by kernel_rfl, by kernel_rfl⟩ (fun _ _ _ h => h) (Or.inl ⟨by rfl, by (intro wz hSw; (try dsimp only at hSw); go_simp)⟩) (by assumption) ?_
        try simp only [Act.put, List.setIfInBounds_toArray, List.set_cons_zero, List.set_cons_succ]
        refine wpAnyH_done (by kernel_rfl) ?_ _
        go_wp2_with fail
        go_ret
        exact ⟨rfl, bW⟩
    · skip
      go_simp
      refine hK.out _ _ (KK.out _ bW) (fun hHeld => ?_)
      clear hK K
      try simp only [Act.put, List.setIfInBounds_toArray, List.set_cons_zero, List.set_cons_succ]
      refine wpAnyH_ready (rs := [0]) (by kernel_rfl) (by simp) ?_
      refine (AllReadyH.cons rfl (fun K hK => ?_) AllReadyH.nil)
      go_simp
      refine hK.out _ _ (KK.out _ bW) (fun hHeld => ?_)
      clear hK K
      try simp only [Act.put, List.setIfInBounds_toArray, List.set_cons_zero, List.set_cons_succ]
      refine wpAnyH_ready (rs := [2]) (by kernel_rfl) (by simp) ?_
      refine (AllReadyH.cons rfl (fun K hK => ?_) AllReadyH.nil)
      go_simp
      refine (HP.out _ _ _ _ bW (sl_row (d := kU8) (ok := fun _ => True) (t := 5) (cs := [.int .u8 9]) (xs := [9]) ?_ trivial ⟨[_], [], rfl, rfl, rfl⟩ rfl maxL1)).mono ?_
      (focus (repeat (first | with_reducible assumption | (refine Loc1.newE _ _ _ ?_; simp; done) | with_reducible refine Loc1.al _ ?_ | with_reducible refine Loc1.dr ?_ | with_reducible refine Loc1.bel (by assumption) ?_)))
      rintro x9 wp2 ⟨v2, rfl, ho2, hb2⟩
      obtain ⟨P2, n2, e2, rfl, -⟩ := ho2.form'
      have HO2 := Lib.hid ho2.read
      clear ho2
      refine hK.out _ _ (KK.out _ bW) (fun hHeld => ?_)
      clear hK K
      try simp only [Act.put, List.setIfInBounds_toArray, List.set_cons_zero, List.set_cons_succ]
      refine wpAnyH_ready (rs := [5]) (by kernel_rfl) (by simp) ?_
      refine (AllReadyH.cons rfl (fun K hK => ?_) AllReadyH.nil)
      go_simp
      refine (HQ.out _ _ _ _ bW (sl_row (d := kU8) (ok := fun _ => True) (t := 5) (cs := [.int .u8 9]) (xs := [9]) ?_ trivial ⟨[_], [], rfl, rfl, rfl⟩ rfl maxL1)).mono ?_
      (focus (repeat (first | with_reducible assumption | (refine Loc1.newE _ _ _ ?_; simp; done) | with_reducible refine Loc1.al _ ?_ | with_reducible refine Loc1.dr ?_ | with_reducible refine Loc1.bel (by assumption) ?_)))
      rintro x9 wp3 ⟨v3, rfl, ho3, hb3⟩
      obtain ⟨P3, n3, e3, rfl, -⟩ := ho3.form'
      have HO3 := Lib.hid ho3.read
      clear ho3
      refine hK.out _ _ (KK.out _ bW) (fun hHeld => ?_)
      clear hK K
      try simp only [Act.put, List.setIfInBounds_toArray, List.set_cons_zero, List.set_cons_succ]
      refine wpAnyH_ready (rs := [6]) (by kernel_rfl) (by simp) ?_
      refine (AllReadyH.cons rfl (fun K hK => ?_) AllReadyH.nil)
      go_simp
      refine (same_uu (HO2.out.below bW) (HO3.out.below bW)).mono ?_
      rintro x9 w8 ⟨rfl, hbw8⟩
      refine hK.out _ _ (KK.out _ bW) (fun hHeld => ?_)
      clear hK K
      try simp only [Act.put, List.setIfInBounds_toArray, List.set_cons_zero, List.set_cons_succ]
      refine takeH 7 44 (.bool true) rfl rfl ⟨by kernel_rfl, by kernel_rfl, by kernel_rfl⟩ (fun _ _ _ h => h) (Or.inl ⟨by rfl, by (intro wz hSw; (try dsimp only at hSw); go_simp)⟩) (by assumption) ?_
      try simp only [Act.put, List.setIfInBounds_toArray, List.set_cons_zero, List.set_cons_succ]
      refine takeH 8 45 (.agg #[.int .i64 0, .slice none 0 0, .string ⟨#[]⟩, .int .i64 0, .int .i64 0, .bool false, .string ⟨#[]⟩, .float .f64 0]) rfl rfl ⟨by kernel_rfl, by kernel_rfl, by kernel_rfl⟩ (fun _ _ _ h => h) (Or.inl ⟨by rfl, by (intro wz hSw; (try dsimp only at hSw); go_simp)⟩) (by assumption) ?_
      try simp only [Act.put, List.setIfInBounds_toArray, List.set_cons_zero, List.set_cons_succ]
      refine takeH 9 46 (.agg #[.int .i64 0, .slice none 0 0, .string ⟨#[]⟩, .int .i64 0, .int .i64 0, .bool false, .string ⟨#[]⟩, .float .f64 0]) rfl rfl ⟨by kernel_rfl, by kernel_rfl, by kernel_rfl⟩ (fun _ _ _ h => h) (Or.inl ⟨by rfl, by (intro wz hSw; (try dsimp only at hSw); go_simp)⟩) (by assumption) ?_
      try simp only [Act.put, List.setIfInBounds_toArray, List.set_cons_zero, List.set_cons_succ]
      refine wpAnyH_ready (rs := [10]) (by kernel_rfl) (by simp) ?_
      refine (AllReadyH.cons rfl (fun K hK => ?_) AllReadyH.nil)
      go_simp
      refine (HSM.out _ bW).mono ?_
      rintro x9 w9 ⟨rfl, hbw9⟩
      refine hK.out _ _ (KK.out _ bW) (fun hHeld => ?_)
      clear hK K
      try simp only [Act.put, List.setIfInBounds_toArray, List.set_cons_zero, List.set_cons_succ]
      refine takeH 11 48 (.bool true) rfl rfl ⟨by kernel_rfl, by kernel_rfl, by kernel_rfl⟩ (fun _ _ _ h => h) (Or.inl ⟨by rfl, by (intro wz hSw; (try dsimp only at hSw); go_simp)⟩) (by assumption) ?_
      try simp only [Act.put, List.setIfInBounds_toArray, List.set_cons_zero, List.set_cons_succ]
      refine takeH 12 49 (.bool true) rfl rfl ⟨by kernel_rfl, by kernel_rfl, by kernel_rfl⟩ (fun _ _ _ h => h) (Or.inl ⟨by rfl, by (intro wz hSw; (try dsimp only at hSw); go_simp)⟩) (by assumption) ?_
      try simp only [Act.put, List.setIfInBounds_toArray, List.set_cons_zero, List.set_cons_succ]
      refine takeH 13 50 (.int .i64 x) rfl rfl ⟨by kernel_rfl, by kernel_rfl, by kernel_rfl⟩ (fun _ _ _ h => h) (Or.inl ⟨by rfl, by (intro wz hSw; (try dsimp only at hSw); go_simp)⟩) (by assumption) ?_
      try simp only [Act.put, List.setIfInBounds_toArray, List.set_cons_zero, List.set_cons_succ]
      refine takeH 14 51 (.int .i64 x) rfl rfl ⟨by kernel_rfl, by kernel_rfl, by kernel_rfl⟩ (fun _ _ _ h => h) (Or.inl ⟨by rfl, by (intro wz hSw; (try dsimp only at hSw); go_simp)⟩) (by assumption) ?_
      try simp only [Act.put, List.setIfInBounds_toArray, List.set_cons_zero, List.set_cons_succ]
      refine takeH 15 52 (.bool true) rfl rfl ⟨by kernel_rfl, by kernel_rfl, by kernel_rfl⟩ (fun _ _ _ h => h) (Or.inl ⟨by rfl, by (intro wz hSw; (try dsimp only at hSw); go_simp)⟩) (by assumption) ?_
      try simp only [Act.put, List.setIfInBounds_toArray, List.set_cons_zero, List.set_cons_succ]
      refine takeH 16 53 (.bool true) rfl rfl ⟨by kernel_rfl, by kernel_rfl, by kernel_rfl⟩ (fun _ _ _ h => h) (Or.inl ⟨by rfl, by (intro wz hSw; (try dsimp only at hSw); go_simp)⟩) (by assumption) ?_
      try simp only [Act.put, List.setIfInBounds_toArray, List.set_cons_zero, List.set_cons_succ]
      refine takeH 17 54 (.bool true) rfl rfl ⟨by kernel_rfl, by kernel_rfl, by kernel_rfl⟩ (fun _ _ _ h => h) (Or.inl ⟨by rfl, by (intro wz hSw; (try dsimp only at hSw); go_simp)⟩) (by assumption) ?_
      try simp only [Act.put, List.setIfInBounds_toArray, List.set_cons_zero, List.set_cons_succ]
      refine takeH 18 55 (.int .i64 x) rfl rfl ⟨by kernel_rfl, by kernel_rfl, by kernel_rfl⟩ (fun _ _ _ h => h) (Or.inl ⟨by rfl, by (intro wz hSw; (try dsimp only at hSw); go_simp)⟩) (by assumption) ?_
      try simp only [Act.put, List.setIfInBounds_toArray, List.set_cons_zero, List.set_cons_succ]
      refine takeH 19 56 (.bool true) rfl rfl ⟨by kernel_rfl, by kernel_rfl, by kernel_rfl⟩ (fun _ _ _ h => h) (Or.inl ⟨by rfl, by (intro wz hSw; (try dsimp only at hSw); go_simp)⟩) (by assumption) ?_
      try simp only [Act.put, List.setIfInBounds_toArray, List.set_cons_zero, List.set_cons_succ]
      refine takeH 20 57 (.bool true) rfl rfl ⟨by kernel_rfl, by kernel_rfl, by kernel_rfl⟩ (fun _ _ _ h => h) (Or.inl ⟨by rfl, by (intro wz hSw; (try dsimp only at hSw); go_simp)⟩) (by assumption) ?_
      try simp only [Act.put, List.setIfInBounds_toArray, List.set_cons_zero, List.set_cons_succ]
      refine wpAnyH_take (i := 21) (v := undef) rfl (by kernel_rfl) (by kernel_rfl) (by kernel_rfl) (fun _ _ _ h => h) (Or.inr ⟨by rfl, rfl⟩) (by assumption) ?_
      try simp only [Act.put, List.setIfInBounds_toArray, List.set_cons_zero, List.set_cons_succ]
      refine wpAnyH_take (i := 22) (v := undef) rfl (by kernel_rfl) (by kernel_rfl) (by kernel_rfl) (fun _ _ _ h => h) (Or.inr ⟨by rfl, rfl⟩) (by assumption) ?_
      try simp only [Act.put, List.setIfInBounds_toArray, List.set_cons_zero, List.set_cons_succ]
      refine wpAnyH_take (i := 23) (v := undef) rfl (by kernel_rfl) (by kernel_rfl) (by kernel_rfl) (fun _ _ _ h => h) (Or.inr ⟨by rfl, rfl⟩) (by assumption) ?_
      try simp only [Act.put, List.setIfInBounds_toArray, List.set_cons_zero, List.set_cons_succ]
      refine wpAnyH_take (i := 24) (v := undef) rfl (by kernel_rfl) (by kernel_rfl) (by kernel_rfl) (fun _ _ _ h => h) (Or.inr ⟨by rfl, rfl⟩) (by assumption) ?_
      try simp only [Act.put, List.setIfInBounds_toArray, List.set_cons_zero, List.set_cons_succ]
      refine wpAnyH_take (i := 25) (v := undef) rfl (by kernel_rfl) (by kernel_rfl) (by kernel_rfl) (fun _ _ _ h => h) (Or.inr ⟨by rfl, rfl⟩) (by assumption) ?_
      try simp only [Act.put, List.setIfInBounds_toArray, List.set_cons_zero, List.set_cons_succ]
      refine takeH 26 63 (.bool true) rfl rfl ⟨by kernel_rfl, by kernel_rfl, by kernel_rfl⟩ (fun _ _ _ h => h) (Or.inl ⟨by rfl, by (intro wz hSw; (try dsimp only at hSw); go_simp)⟩) (by assumption) ?_
      try simp only [Act.put, List.setIfInBounds_toArray, List.set_cons_zero, List.set_cons_succ]
      refine takeH 27 64 (.bool true) rfl rfl ⟨by kernel_rfl, by kernel_rfl, by kernel_rfl⟩ (fun _ _ _ h => h) (Or.inl ⟨by rfl, by (intro wz hSw; (try dsimp only at hSw); go_simp)⟩) (by assumption) ?_
      try simp only [Act.put, List.setIfInBounds_toArray, List.set_cons_zero, List.set_cons_succ]
      refine takeH 28 65 (.bool true) rfl rfl ⟨by kernel_rfl, by kernel_rfl, by kernel_rfl⟩ (fun _ _ _ h => h) (Or.inl ⟨by rfl, by (intro wz hSw; (try dsimp only at hSw); go_simp)⟩) (by assumption) ?_
      try simp only [Act.put, List.setIfInBounds_toArray, List.set_cons_zero, List.set_cons_succ]
      refine wpAnyH_ready (rs := [29]) (by kernel_rfl) (by simp) ?_
      refine (AllReadyH.cons rfl (fun K hK => ?_) AllReadyH.nil)
      go_simp
      refine (awake_c).mono ?_
      rintro x9 wd ⟨rfl, hbwd⟩
      refine hK.out _ _ (KK.out _ bW) (fun hHeld => ?_)
      clear hK K
      try simp only [Act.put, List.setIfInBounds_toArray, List.set_cons_zero, List.set_cons_succ]
      refine takeH 30 67 (.bool true) rfl rfl ⟨by kernel_rfl, by kernel_rfl, by kernel_rfl⟩ (fun _ _ _ h => h) (Or.inl ⟨by rfl, by (intro wz hSw; (try dsimp only at hSw); go_simp)⟩) (by assumption) ?_
      try simp only [Act.put, List.setIfInBounds_toArray, List.set_cons_zero, List.set_cons_succ]
      refine takeH 31 4 (.bool true) rfl rfl ⟨by kernel_rfl, by kernel_rfl, by kernel_rfl⟩ (fun _ _ _ h => h) (Or.inl ⟨by rfl, by (intro wz hSw; (try dsimp only at hSw); go_simp)⟩) (by assumption) ?_
      try simp only [Act.put, List.setIfInBounds_toArray, List.set_cons_zero, List.set_cons_succ]
      refine wpAnyH_done (by kernel_rfl) ?_ _
      go_wp2_with fail
      go_ret
      exact ⟨rfl, bW⟩
  | ok p =>
    obtain ⟨x, s2⟩ := p
    rw [hG] at HG
    rw [hG] at HC
    clear hG
    go_wp2_with fail
    refine HG.out.mono ?_
    rintro x9 w4 ⟨⟨ds, rfl, hk4, hr4⟩, hx4⟩
    obtain ⟨k4, A1, c1, hk5, rfl, hs5⟩ := exp_open hk4
    obtain rfl : k4 = 5 := by omega
    have R4 := RQ.off hx4 ⟨by omega, fun k hk => by omega⟩
    have B4 := below_ext_ne BB hx4 (Nat.le_of_lt hgw) (Nat.le_refl _)
    have LE4 := loc_ext hx4 (by omega) LEE
    have hs4 := hx4.size
    clear RP RQ hx4 HG LEE hk4
    go_upto_region 5 with (fail)
    have BA : Below w4.heap.size w4 (w4.alloc (.cells #[.int .i64 x.op, .slice A1 x.kids.length c1, .string ⟨x.name.toArray⟩, .int .i64 x.val.kind, .int .i64 x.val.int, .bool x.val.bool, .string ⟨x.val.text.toArray⟩, .float .f64 x.val.num] 27)) := bW
    have LX : Loc1 w4.heap.size 27 #[.int .i64 x.op, .slice A1 x.kids.length c1, .string ⟨x.name.toArray⟩, .int .i64 x.val.kind, .int .i64 x.val.int, .bool x.val.bool, .string ⟨x.val.text.toArray⟩, .float .f64 x.val.num] (w4.alloc (.cells #[.int .i64 x.op, .slice A1 x.kids.length c1, .string ⟨x.name.toArray⟩, .int .i64 x.val.kind, .int .i64 x.val.int, .bool x.val.bool, .string ⟨x.val.text.toArray⟩, .float .f64 x.val.num] 27)) := Loc1.new _ _ _
    have R5 := R4.below BA
    have P5 := hr4.below BA
    have LE5 := LE4.bel BA
    replace hs5 := hs5.below BA
    have B5 := Below.trans B4 (BA.mono B4.size)
    clear R4 B4 BA LE4 hr4
    generalize hw5 : (w4.alloc (.cells #[.int .i64 x.op, .slice A1 x.kids.length c1, .string ⟨x.name.toArray⟩, .int .i64 x.val.kind, .int .i64 x.val.int, .bool x.val.bool, .string ⟨x.val.text.toArray⟩, .float .f64 x.val.num] 27)) = w5 at *
    clear hw5
    go_wp2_with fail
    refine (HC.out _ R5).mono ?_
    rintro x9 w5' ⟨⟨ds, rfl, hk6, hr6⟩, hx5⟩
    obtain ⟨k6, A2, c2, hk7, rfl, hs6⟩ := exp_open hk6
    obtain rfl : k6 = 5 := by omega
    have LX5 := loc_ext hx5 (by omega) LX
    have LE6 := loc_ext hx5 (by omega) LE5
    have B6 := below_ext_ne B5 hx5 (by omega : w.heap.size ≤ gq) (Nat.le_refl _)
    have P6 := rd_off P5 hx5 ⟨by omega, fun k hk => by have := hk.2; omega⟩
    replace hs5 := hs5.ext (hx5.weak fun k _ hk => by have : wr.heap.size ≤ k := hk; omega)
    clear hx5 HC R5 LX B5 LE5 P5 hk6
    go_upto_region 6 with (fail)
    have BA : Below w5'.heap.size w5' (w5'.alloc (.cells #[.int .i64 x.op, .slice A2 x.kids.length c2, .string ⟨x.name.toArray⟩, .int .i64 x.val.kind, .int .i64 x.val.int, .bool x.val.bool, .string ⟨x.val.text.toArray⟩, .float .f64 x.val.num] 27)) := bW
    have LY6 : Loc1 w5'.heap.size 27 #[.int .i64 x.op, .slice A2 x.kids.length c2, .string ⟨x.name.toArray⟩, .int .i64 x.val.kind, .int .i64 x.val.int, .bool x.val.bool, .string ⟨x.val.text.toArray⟩, .float .f64 x.val.num] (w5'.alloc (.cells #[.int .i64 x.op, .slice A2 x.kids.length c2, .string ⟨x.name.toArray⟩, .int .i64 x.val.kind, .int .i64 x.val.int, .bool x.val.bool, .string ⟨x.val.text.toArray⟩, .float .f64 x.val.num] 27)) := Loc1.new _ _ _
    have LX6 := LX5.bel BA
    replace LE6 := LE6.bel BA
    replace B6 := Below.trans B6 (BA.mono B6.size)
    replace hs5 := hs5.below BA
    replace hs6 := hs6.below BA
    replace P6 := P6.below BA
    have Q6 := hr6.below BA
    clear LX5 BA hr6
    generalize hw6 : (w5'.alloc (.cells #[.int .i64 x.op, .slice A2 x.kids.length c2, .string ⟨x.name.toArray⟩, .int .i64 x.val.kind, .int .i64 x.val.int, .bool x.val.bool, .string ⟨x.val.text.toArray⟩, .float .f64 x.val.num] 27)) = w6 at *
    clear hw6
    generalize w5'.heap.size = yb at *
    generalize w4.heap.size = xb at *
    have HSM := Lib.hid (show ∀ W : World, Below w6.heap.size w6 W → Calls Try.prog 27 #[.agg #[.int .i64 x.op, .slice A1 x.kids.length c1, .string ⟨x.name.toArray⟩, .int .i64 x.val.kind, .int .i64 x.val.int, .bool x.val.bool, .string ⟨x.val.text.toArray⟩, .float .f64 x.val.num], .agg #[.int .i64 x.op, .slice A2 x.kids.length c2, .string ⟨x.name.toArray⟩, .int .i64 x.val.kind, .int .i64 x.val.int, .bool x.val.bool, .string ⟨x.val.text.toArray⟩, .float .f64 x.val.num]] W (Ret W (.bool true)) from fun W hW => rsameX_c 6 6 W _ _ x x (exp_mk (hs5.below hW)) (exp_mk (hs6.below hW)) (eqX_self x))
    have KL := Lib.hid (fun (W : World) (hW : Below w6.heap.size w6 W) => left_c' g s2 (P6.below hW))
    have KQ := Lib.hid (fun (W : World) (hW : Below w6.heap.size w6 W) => qLeft_c gq s2 (Q6.below hW))
    have KK := Lib.hid (show ∀ W : World, Below w6.heap.size w6 W → (W.cell? ⟨w.heap.size, 0, none⟩ = some (.int .i64 e.op) ∧ W.cell? ⟨w.heap.size, 1, none⟩ = some (.slice A e.kids.length c) ∧ W.cell? ⟨w.heap.size, 2, none⟩ = some (.string ⟨e.name.toArray⟩) ∧ W.cell? ⟨w.heap.size, 3, none⟩ = some (.int .i64 e.val.kind) ∧ W.cell? ⟨w.heap.size, 4, none⟩ = some (.int .i64 e.val.int) ∧ W.cell? ⟨w.heap.size, 5, none⟩ = some (.bool e.val.bool) ∧ W.cell? ⟨w.heap.size, 6, none⟩ = some (.string ⟨e.val.text.toArray⟩) ∧ W.cell? ⟨w.heap.size, 7, none⟩ = some (.float .f64 e.val.num)) ∧ (W.cell? ⟨xb, 0, none⟩ = some (.int .i64 x.op) ∧ W.cell? ⟨xb, 1, none⟩ = some (.slice A1 x.kids.length c1) ∧ W.cell? ⟨xb, 2, none⟩ = some (.string ⟨x.name.toArray⟩) ∧ W.cell? ⟨xb, 3, none⟩ = some (.int .i64 x.val.kind) ∧ W.cell? ⟨xb, 4, none⟩ = some (.int .i64 x.val.int) ∧ W.cell? ⟨xb, 5, none⟩ = some (.bool x.val.bool) ∧ W.cell? ⟨xb, 6, none⟩ = some (.string ⟨x.val.text.toArray⟩) ∧ W.cell? ⟨xb, 7, none⟩ = some (.float .f64 x.val.num)) ∧ (W.cell? ⟨yb, 0, none⟩ = some (.int .i64 x.op) ∧ W.cell? ⟨yb, 1, none⟩ = some (.slice A2 x.kids.length c2) ∧ W.cell? ⟨yb, 2, none⟩ = some (.string ⟨x.name.toArray⟩) ∧ W.cell? ⟨yb, 3, none⟩ = some (.int .i64 x.val.kind) ∧ W.cell? ⟨yb, 4, none⟩ = some (.int .i64 x.val.int) ∧ W.cell? ⟨yb, 5, none⟩ = some (.bool x.val.bool) ∧ W.cell? ⟨yb, 6, none⟩ = some (.string ⟨x.val.text.toArray⟩) ∧ W.cell? ⟨yb, 7, none⟩ = some (.float .f64 x.val.num)) from fun W hW => ⟨⟨cell_of (LE6.bel hW) 0, cell_of (LE6.bel hW) 1, cell_of (LE6.bel hW) 2, cell_of (LE6.bel hW) 3, cell_of (LE6.bel hW) 4, cell_of (LE6.bel hW) 5, cell_of (LE6.bel hW) 6, cell_of (LE6.bel hW) 7⟩, ⟨cell_of (LX6.bel hW) 0, cell_of (LX6.bel hW) 1, cell_of (LX6.bel hW) 2, cell_of (LX6.bel hW) 3, cell_of (LX6.bel hW) 4, cell_of (LX6.bel hW) 5, cell_of (LX6.bel hW) 6, cell_of (LX6.bel hW) 7⟩, ⟨cell_of (LY6.bel hW) 0, cell_of (LY6.bel hW) 1, cell_of (LY6.bel hW) 2, cell_of (LY6.bel hW) 3, cell_of (LY6.bel hW) 4, cell_of (LY6.bel hW) 5, cell_of (LY6.bel hW) 6, cell_of (LY6.bel hW) 7⟩⟩)
    clear LX6 LY6 LE6 hs5 hs6 P6 Q6
    go_region_held3 (fun W => (W.cell? ⟨w.heap.size, 0, none⟩ = some (.int .i64 e.op) ∧ W.cell? ⟨w.heap.size, 1, none⟩ = some (.slice A e.kids.length c) ∧ W.cell? ⟨w.heap.size, 2, none⟩ = some (.string ⟨e.name.toArray⟩) ∧ W.cell? ⟨w.heap.size, 3, none⟩ = some (.int .i64 e.val.kind) ∧ W.cell? ⟨w.heap.size, 4, none⟩ = some (.int .i64 e.val.int) ∧ W.cell? ⟨w.heap.size, 5, none⟩ = some (.bool e.val.bool) ∧ W.cell? ⟨w.heap.size, 6, none⟩ = some (.string ⟨e.val.text.toArray⟩) ∧ W.cell? ⟨w.heap.size, 7, none⟩ = some (.float .f64 e.val.num)) ∧ (W.cell? ⟨xb, 0, none⟩ = some (.int .i64 x.op) ∧ W.cell? ⟨xb, 1, none⟩ = some (.slice A1 x.kids.length c1) ∧ W.cell? ⟨xb, 2, none⟩ = some (.string ⟨x.name.toArray⟩) ∧ W.cell? ⟨xb, 3, none⟩ = some (.int .i64 x.val.kind) ∧ W.cell? ⟨xb, 4, none⟩ = some (.int .i64 x.val.int) ∧ W.cell? ⟨xb, 5, none⟩ = some (.bool x.val.bool) ∧ W.cell? ⟨xb, 6, none⟩ = some (.string ⟨x.val.text.toArray⟩) ∧ W.cell? ⟨xb, 7, none⟩ = some (.float .f64 x.val.num)) ∧ (W.cell? ⟨yb, 0, none⟩ = some (.int .i64 x.op) ∧ W.cell? ⟨yb, 1, none⟩ = some (.slice A2 x.kids.length c2) ∧ W.cell? ⟨yb, 2, none⟩ = some (.string ⟨x.name.toArray⟩) ∧ W.cell? ⟨yb, 3, none⟩ = some (.int .i64 x.val.kind) ∧ W.cell? ⟨yb, 4, none⟩ = some (.int .i64 x.val.int) ∧ W.cell? ⟨yb, 5, none⟩ = some (.bool x.val.bool) ∧ W.cell? ⟨yb, 6, none⟩ = some (.string ⟨x.val.text.toArray⟩) ∧ W.cell? ⟨yb, 7, none⟩ = some (.float .f64 x.val.num))) (exact KK.out _ bW)
      (first
      | (go_at_call 25; refine (HP.out _ _ _ _ bW (sl_row (d := kU8) (ok := fun _ => True) (t := 5) (cs := [.int .u8 9]) (xs := [9]) ?_ trivial ⟨[_], [], rfl, rfl, rfl⟩ rfl maxL1)).mono ?_; (focus (repeat (first | with_reducible assumption | (refine Loc1.newE _ _ _ ?_; simp; done) | with_reducible refine Loc1.al _ ?_ | with_reducible refine Loc1.dr ?_ | with_reducible refine Loc1.bel (by assumption) ?_))); rintro x9 wp ⟨v2, rfl, ho2, hb2⟩; obtain ⟨P2, n2, e2, rfl, -⟩ := ho2.form'; have HO2 := Lib.hid ho2.read; clear ho2)
      | (go_at_call 26; refine (HQ.out _ _ _ _ bW (sl_row (d := kU8) (ok := fun _ => True) (t := 5) (cs := [.int .u8 9]) (xs := [9]) ?_ trivial ⟨[_], [], rfl, rfl, rfl⟩ rfl maxL1)).mono ?_; (focus (repeat (first | with_reducible assumption | (refine Loc1.newE _ _ _ ?_; simp; done) | with_reducible refine Loc1.al _ ?_ | with_reducible refine Loc1.dr ?_ | with_reducible refine Loc1.bel (by assumption) ?_))); rintro x9 wq ⟨v3, rfl, ho3, hb3⟩; obtain ⟨P3, n3, e3, rfl, -⟩ := ho3.form'; have HO3 := Lib.hid ho3.read; clear ho3)
      | (go_at_call 24; refine (same_uu (HO2.out.below bW) (HO3.out.below bW)).mono ?_; rintro x9 w8 ⟨rfl, hb8⟩)
      | (go_at_call 27; refine (HSM.out _ bW).mono ?_; rintro x9 w9 ⟨rfl, hb9⟩)
      | (go_at_call 11; refine awake_c.mono ?_; rintro x9 wd ⟨rfl, hbd⟩)
      | (go_at_call 28; refine (KL.out _ bW).mono ?_; rintro x9 wl ⟨rfl, rfl⟩)
      | (go_at_call 29; refine (KQ.out _ bW).mono ?_; rintro x9 wl ⟨rfl, hbl⟩))
    all_goals
      go_wp2_with fail
      go_ret
      exact ⟨rfl, bW⟩
end
end Go.Proofs.Ytijlamajcdekkaa
