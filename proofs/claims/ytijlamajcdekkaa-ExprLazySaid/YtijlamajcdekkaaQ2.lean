/- The law ExprLazy, walked. -/
import Derived.Test.YtijlamajcdekkaaQ3
import Derived.Test.YtijlamajcdekkaaQ1
namespace Go.Proofs.Ytijlamajcdekkaa
open Go.RowKit
set_option linter.unusedVariables false
/-- what the law holds on to -/
def JZ (w : World) (ce cs : Array Value) (g7 : Nat) (v : Val) (g9 : Nat) (zc : List Value) (n : Nat) (W : World) : Prop :=
  Below w.heap.size w W ∧ Loc2 w.heap.size (w.heap.size + 1) 27 31 ce cs W ∧ Loc1 g7 25 #[.int .i64 v.kind, .int .i64 v.int, .bool v.bool, .string ⟨v.text.toArray⟩, .float .f64 v.num] W ∧ Loc1 g9 27 zc.toArray W ∧ (kExp (n + 3)).R (fun _ => True) W zc zE
theorem JZ.bel {w : World} {ce cs : Array Value} {g7 : Nat} {v : Val} {g9 : Nat} {zc : List Value} {n : Nat} {W W' : World} (hb : Below W.heap.size W W') (h : JZ w ce cs g7 v g9 zc n W) : JZ w ce cs g7 v g9 zc n W' :=
  ⟨below_self h.1 hb, h.2.1.below hb, h.2.2.1.bel hb, h.2.2.2.1.bel hb, kR_below h.2.2.2.2 hb⟩
theorem JZ.al {w : World} {ce cs : Array Value} {g7 : Nat} {v : Val} {g9 : Nat} {zc : List Value} {n : Nat} {W : World} (o : Obj) (h : JZ w ce cs g7 v g9 zc n W) : JZ w ce cs g7 v g9 zc n (W.alloc o) := h.bel ((Below.refl _ _).alloc (Nat.le_refl _) _)
theorem JZ.dr {w : World} {ce cs : Array Value} {g7 : Nat} {v : Val} {g9 : Nat} {zc : List Value} {n : Nat} {W : World} (h : JZ w ce cs g7 v g9 zc n W) : JZ w ce cs g7 v g9 zc n W.drew := h.bel (Below.refl _ _).drew
section
variable {w : World}
set_option maxRecDepth 20000 in
set_option maxHeartbeats 8000000 in
theorem lazy_d {A A2 : Option Addr} {N N2 c c2 : Nat} {fl : List Fld} {vs : List Val} {n : Nat} {cs : List Value} {e : Exp} (h : (kExp (n + 3)).R (fun _ => True) w cs e) (hf : Sl kFld (fun _ => True) w (.slice A N c) fl) (hv : Sl kVal (fun _ => True) w (.slice A2 N2 c2) vs) :
    Calls Try.prog 4 #[.agg cs.toArray, .agg #[.slice A N c, .slice A2 N2 c2]] w (Ret w (.bool true)) := by
  have hdp := kR_dp h
  obtain ⟨k, B, d, hk, rfl, hs⟩ := exp_open h
  have SF := store_f64
  have B0 := Lib.hid (show Below w.heap.size w ((w.alloc (.cells #[.int .i64 e.op, .slice B e.kids.length d, .string ⟨e.name.toArray⟩, .int .i64 e.val.kind, .int .i64 e.val.int, .bool e.val.bool, .string ⟨e.val.text.toArray⟩, .float .f64 e.val.num] 27)).alloc (.cells #[.slice A N c, .slice A2 N2 c2] 31)) from ((Below.refl _ _).alloc (Nat.le_refl _) _).alloc (by simp) _)
  have L0 := Lib.hid (show Loc2 w.heap.size (w.heap.size + 1) 27 31 #[.int .i64 e.op, .slice B e.kids.length d, .string ⟨e.name.toArray⟩, .int .i64 e.val.kind, .int .i64 e.val.int, .bool e.val.bool, .string ⟨e.val.text.toArray⟩, .float .f64 e.val.num] #[.slice A N c, .slice A2 N2 c2] ((w.alloc (.cells #[.int .i64 e.op, .slice B e.kids.length d, .string ⟨e.name.toArray⟩, .int .i64 e.val.kind, .int .i64 e.val.int, .bool e.val.bool, .string ⟨e.val.text.toArray⟩, .float .f64 e.val.num] 27)).alloc (.cells #[.slice A N c, .slice A2 N2 c2] 31)) from
    ⟨(Below.heap_alloc _ _ _ (by simp)).trans (heap_new _ _), by have := heap_new (w.alloc (.cells #[.int .i64 e.op, .slice B e.kids.length d, .string ⟨e.name.toArray⟩, .int .i64 e.val.kind, .int .i64 e.val.int, .bool e.val.bool, .string ⟨e.val.text.toArray⟩, .float .f64 e.val.num] 27)) (.cells #[.slice A N c, .slice A2 N2 c2] 31); simpa using this⟩)
  have HH := Lib.hid (show ∀ W : World, Below w.heap.size w W → (kExp (n + 3)).R (fun _ => True) W [.int .i64 e.op, .slice B e.kids.length d, .string ⟨e.name.toArray⟩, .int .i64 e.val.kind, .int .i64 e.val.int, .bool e.val.bool, .string ⟨e.val.text.toArray⟩, .float .f64 e.val.num] e from fun W hW => (by rw [hk]; exact exp_mk (hs.below hW)))
  have HF := Lib.hid (show ∀ W : World, Below w.heap.size w W → Sl kFld (fun _ => True) W (.slice A N c) fl from fun W hW => hf.below hW)
  have HV := Lib.hid (show ∀ W : World, Below w.heap.size w W → Sl kVal (fun _ => True) W (.slice A2 N2 c2) vs from fun W hW => hv.below hW)
  have HD := Lib.hid hdp
  clear h hf hs hv hdp hk
  go_enter Try.func4, Try.ntmps4
  go_wp2_with fail
  generalize ((w.alloc (.cells #[.int .i64 e.op, .slice B e.kids.length d, .string ⟨e.name.toArray⟩, .int .i64 e.val.kind, .int .i64 e.val.int, .bool e.val.bool, .string ⟨e.val.text.toArray⟩, .float .f64 e.val.num] 27)).alloc (.cells #[.slice A N c, .slice A2 N2 c2] 31)) = w0 at *
  obtain ⟨e0, e1, e2, e3, e4, e5, e6, e7⟩ := cells8 L0.out.1
  have s0 := cell_of L0.out.2 0
  have s1 := cell_of L0.out.2 1
  simp only [List.getElem?_toArray, List.getElem?_cons_zero, List.getElem?_cons_succ] at s0 s1
  have hz := lt_of_heap L0.out.2
  refine (few_c (HF.out _ B0.out) (HV.out _ B0.out)).mono ?_
  rintro x9 w1 ⟨rfl, hb⟩
  have B1 := Lib.hid (below_self B0.out hb)
  have L1 := Lib.hid (L0.out.below hb)
  clear hb B0 L0
  clear e0 e1 e2 e3 e4 e5 e6 e7 s0 s1 hz
  cases hfw : fewS fl vs
  · go_wp2_with fail
    go_ret
    exact ⟨rfl, B1.out⟩
  obtain ⟨e0, e1, e2, e3, e4, e5, e6, e7⟩ := cells8 L1.out.1
  have s0 := cell_of L1.out.2 0
  have s1 := cell_of L1.out.2 1
  simp only [List.getElem?_toArray, List.getElem?_cons_zero, List.getElem?_cons_succ] at s0 s1
  have hz := lt_of_heap L1.out.2
  go_wp2_with fail
  refine (check_c (HH.out _ B1.out) (HF.out _ B1.out)).mono ?_
  rintro x9 w2 ⟨rfl, hb⟩
  have B2 := Lib.hid (below_self B1.out hb)
  have L2 := Lib.hid (L1.out.below hb)
  clear hb B1 L1
  clear e0 e1 e2 e3 e4 e5 e6 e7 s0 s1 hz
  obtain ⟨e0, e1, e2, e3, e4, e5, e6, e7⟩ := cells8 L2.out.1
  have s0 := cell_of L2.out.2 0
  have s1 := cell_of L2.out.2 1
  simp only [List.getElem?_toArray, List.getElem?_cons_zero, List.getElem?_cons_succ] at s0 s1
  have hz := lt_of_heap L2.out.2
  go_wp2_with fail
  refine (ev_c (HH.out _ B2.out) (HF.out _ B2.out) (HV.out _ B2.out)).mono ?_
  rintro x9 w3 ⟨rfl, hb⟩
  have B3 := Lib.hid (below_self B2.out hb)
  have L3 := Lib.hid (L2.out.below hb)
  clear hb B2 L2
  clear e0 e1 e2 e3 e4 e5 e6 e7 s0 s1 hz
  have HO := Lib.hid (fun (h1 : (chkE fl (n + 3) e).2 = 0) (h2 : (evalR fl vs (n + 3) e).2 = 0) => (⟨chkE_ok HD.out h1, evalR_ok HD.out h2⟩ : _ ∧ _))
  generalize hck : chkE fl (n + 3) e = ck at *
  generalize her : evalR fl vs (n + 3) e = er at *
  obtain ⟨kk, x⟩ := ck
  obtain ⟨v, y⟩ := er
  clear hck her
  by_cases hx : x = 0
  rotate_left
  · have hx' : (x != 0) = true := by simpa using hx
    clear hx
    go_wp2_with fail
    refine awake_c.mono ?_
    rintro x9 w4 ⟨rfl, hb⟩
    go_wp2_with fail
    go_ret
    exact ⟨rfl, below_self B3.out (below_self ((Below.refl _ _).alloc (Nat.le_refl _) _) hb)⟩
  by_cases hy : y = 0
  rotate_left
  · have hy' : (y != 0) = true := by simpa using hy
    subst hx
    clear hy
    go_wp2_with fail
    refine awake_c.mono ?_
    rintro x9 w4 ⟨rfl, hb⟩
    go_wp2_with fail
    go_ret
    exact ⟨rfl, below_self B3.out (below_self ((Below.refl _ _).alloc (Nat.le_refl _) _) hb)⟩
  by_cases hkk : kk = 2
  rotate_left
  · have hk' : (kk != 2) = true := by simpa using hkk
    subst hx hy
    clear hkk
    go_wp2_with fail
    refine awake_c.mono ?_
    rintro x9 w4 ⟨rfl, hb⟩
    go_wp2_with fail
    go_ret
    exact ⟨rfl, below_self B3.out (below_self ((Below.refl _ _).alloc (Nat.le_refl _) _) hb)⟩
  subst hx hy hkk
  obtain ⟨⟨-, hke⟩, k2, v2, -, hk2, hfit, hev, hee, hvk, hvg⟩ := HO.out rfl rfl
  clear HO
  obtain rfl : v2 = v := by injection hee with h1 h2; exact h1.symm
  have hk22 : k2 = 2 := by rw [hke] at hk2; injection hk2 with hk2; exact hk2.symm
  subst hk22
  have HLT := Lib.hid (fun (hb : v2.bool = true) => (show ∀ x : Exp, x = oE 13 [e, cE v2, zE] ∨ x = oE 11 [e, zE] → small x = true → evalR fl vs (n + 3 + 1) x = (v2, 0) from fun x hx hs => by
    rcases hx with rfl | rfl
    · exact lazy_ifT hke hfit hev hvg hvk hb hs
    · exact lazy_or hke hfit hev hb hs))
  have HLF := Lib.hid (fun (hb : v2.bool = false) => (show ∀ x : Exp, x = oE 13 [e, zE, cE v2] ∨ x = oE 10 [e, zE] → small x = true → evalR fl vs (n + 3 + 1) x = (v2, 0) from fun x hx hs => by
    rcases hx with rfl | rfl
    · exact lazy_ifF hke hfit hev hvg hvk hb hs
    · exact lazy_and hke hfit hev hb hs))
  clear hke hk2 hfit hev hee hvk hvg HD
  generalize v2 = v at *
  go_wp2_with fail
  refine (rInt_c 1).mono ?_
  rintro x9 w4 ⟨rfl, hb4⟩
  go_wp2_with fail
  refine (conI_c 1).mono ?_
  rintro x9 w5 ⟨rfl, hb5⟩
  go_wp2_with fail
  refine (rInt_c 0).mono ?_
  rintro x9 w6 ⟨rfl, hb6⟩
  go_wp2_with fail
  refine (conI_c 0).mono ?_
  rintro x9 w7 ⟨rfl, hb7⟩
  go_wp2_with fail
  refine Calls.mono (opk_c (n := 1) (ks := [cE (intV 1), cE (intV 0)]) ?_) ?_
  · exact two_R (t := 27) (by (focus (repeat (first | exact Loc1.newE _ _ _ (by simp) | with_reducible refine Loc1.al _ ?_ | with_reducible refine Loc1.dr ?_ | with_reducible refine Loc1.bel (by assumption) ?_)))) (con_R 0 _ (intV 1)) (con_R 0 _ (intV 0)) rfl
  rintro x9 w8 ⟨rfl, hr7, hb8⟩
  go_wp2_with fail
  refine (rInt_c 1).mono ?_
  rintro x9 w9 ⟨rfl, hb9⟩
  go_wp2_with fail
  refine (conI_c 1).mono ?_
  rintro x9 w10 ⟨rfl, hb10⟩
  go_wp2_with fail
  refine Calls.mono (opk_c (n := 2) (ks := [oE 7 [cE (intV 1), cE (intV 0)], cE (intV 1)]) ?_) ?_
  · exact two_R (t := 27) (by (focus (repeat (first | exact Loc1.newE _ _ _ (by simp) | with_reducible refine Loc1.al _ ?_ | with_reducible refine Loc1.dr ?_ | with_reducible refine Loc1.bel (by assumption) ?_)))) (kR_below hr7 (by (focus (repeat (first | with_reducible exact Below.refl _ _ | with_reducible assumption | with_reducible refine bel_al _ ?_ | with_reducible refine bel_dr ?_ | with_reducible refine bel_tr (by assumption) ?_))))) (con_R 1 _ (intV 1)) rfl
  rintro x9 w11 ⟨rfl, hrz, hb11⟩
  go_wp2_with fail
  have bj : Below w3.heap.size w3 (w11.alloc (.cells #[.int .i64 8, .slice (some ⟨w10.heap.size, 0, none⟩) 2 2, .string ⟨#[]⟩, .int .i64 0, .int .i64 0, .bool false, .string ⟨#[]⟩, .float .f64 0] 27)) := by (focus (repeat (first | with_reducible exact Below.refl _ _ | with_reducible assumption | with_reducible refine bel_al _ ?_ | with_reducible refine bel_dr ?_ | with_reducible refine bel_tr (by assumption) ?_)))
  have l7 : Loc1 w3.heap.size 25 #[.int .i64 v.kind, .int .i64 v.int, .bool v.bool, .string ⟨v.text.toArray⟩, .float .f64 v.num] (w11.alloc (.cells #[.int .i64 8, .slice (some ⟨w10.heap.size, 0, none⟩) 2 2, .string ⟨#[]⟩, .int .i64 0, .int .i64 0, .bool false, .string ⟨#[]⟩, .float .f64 0] 27)) := by (focus (repeat (first | exact Loc1.newE _ _ _ (by simp) | with_reducible refine Loc1.al _ ?_ | with_reducible refine Loc1.dr ?_ | with_reducible refine Loc1.bel (by assumption) ?_)))
  have HJ : JZ w #[.int .i64 e.op, .slice B e.kids.length d, .string ⟨e.name.toArray⟩, .int .i64 e.val.kind, .int .i64 e.val.int, .bool e.val.bool, .string ⟨e.val.text.toArray⟩, .float .f64 e.val.num] #[.slice A N c, .slice A2 N2 c2] w3.heap.size v w11.heap.size [.int .i64 8, .slice (some ⟨w10.heap.size, 0, none⟩) 2 2, .string ⟨#[]⟩, .int .i64 0, .int .i64 0, .bool false, .string ⟨#[]⟩, .float .f64 0] n (w11.alloc (.cells #[.int .i64 8, .slice (some ⟨w10.heap.size, 0, none⟩) 2 2, .string ⟨#[]⟩, .int .i64 0, .int .i64 0, .bool false, .string ⟨#[]⟩, .float .f64 0] 27)) :=
    ⟨below_self B3.out bj, L3.out.below bj, l7, Loc1.new _ _ _, exp_le (by omega) (kR_below hrz (by (focus (repeat (first | with_reducible exact Below.refl _ _ | with_reducible assumption | with_reducible refine bel_al _ ?_ | with_reducible refine bel_dr ?_ | with_reducible refine bel_tr (by assumption) ?_)))))⟩
  clear bj l7 hb4 hb5 hb6 hb7 hb8 hb9 hb10 hb11 hr7 hrz B3 L3
  generalize (w11.alloc (.cells #[.int .i64 8, .slice (some ⟨w10.heap.size, 0, none⟩) 2 2, .string ⟨#[]⟩, .int .i64 0, .int .i64 0, .bool false, .string ⟨#[]⟩, .float .f64 0] 27)) = wj at *
  generalize w11.heap.size = g9 at *
  generalize w10.heap.size = gz at *
  generalize w3.heap.size = g7 at *
  have KS := Lib.hid (show ∀ W : World, JZ w #[.int .i64 e.op, .slice B e.kids.length d, .string ⟨e.name.toArray⟩, .int .i64 e.val.kind, .int .i64 e.val.int, .bool e.val.bool, .string ⟨e.val.text.toArray⟩, .float .f64 e.val.num] #[.slice A N c, .slice A2 N2 c2] g7 v g9 [.int .i64 8, .slice (some ⟨gz, 0, none⟩) 2 2, .string ⟨#[]⟩, .int .i64 0, .int .i64 0, .bool false, .string ⟨#[]⟩, .float .f64 0] n W → W.cell? ⟨w.heap.size, 0, none⟩ = some (.int .i64 e.op) ∧ W.cell? ⟨w.heap.size, 1, none⟩ = some (.slice B e.kids.length d) ∧ W.cell? ⟨w.heap.size, 2, none⟩ = some (.string ⟨e.name.toArray⟩) ∧ W.cell? ⟨w.heap.size, 3, none⟩ = some (.int .i64 e.val.kind) ∧ W.cell? ⟨w.heap.size, 4, none⟩ = some (.int .i64 e.val.int) ∧ W.cell? ⟨w.heap.size, 5, none⟩ = some (.bool e.val.bool) ∧ W.cell? ⟨w.heap.size, 6, none⟩ = some (.string ⟨e.val.text.toArray⟩) ∧ W.cell? ⟨w.heap.size, 7, none⟩ = some (.float .f64 e.val.num) ∧ W.cell? ⟨g7, 0, none⟩ = some (.int .i64 v.kind) ∧ W.cell? ⟨g7, 1, none⟩ = some (.int .i64 v.int) ∧ W.cell? ⟨g7, 2, none⟩ = some (.bool v.bool) ∧ W.cell? ⟨g7, 3, none⟩ = some (.string ⟨v.text.toArray⟩) ∧ W.cell? ⟨g7, 4, none⟩ = some (.float .f64 v.num) ∧ W.cell? ⟨g9, 0, none⟩ = some (.int .i64 8) ∧ W.cell? ⟨g9, 1, none⟩ = some (.slice (some ⟨gz, 0, none⟩) 2 2) ∧ W.cell? ⟨g9, 2, none⟩ = some (.string ⟨#[]⟩) ∧ W.cell? ⟨g9, 3, none⟩ = some (.int .i64 0) ∧ W.cell? ⟨g9, 4, none⟩ = some (.int .i64 0) ∧ W.cell? ⟨g9, 5, none⟩ = some (.bool false) ∧ W.cell? ⟨g9, 6, none⟩ = some (.string ⟨#[]⟩) ∧ W.cell? ⟨g9, 7, none⟩ = some (.float .f64 0) from fun W hW => ⟨cell_of hW.2.1.1 0, cell_of hW.2.1.1 1, cell_of hW.2.1.1 2, cell_of hW.2.1.1 3, cell_of hW.2.1.1 4, cell_of hW.2.1.1 5, cell_of hW.2.1.1 6, cell_of hW.2.1.1 7, cell_of hW.2.2.1 0, cell_of hW.2.2.1 1, cell_of hW.2.2.1 2, cell_of hW.2.2.1 3, cell_of hW.2.2.1 4, cell_of hW.2.2.2.1 0, cell_of hW.2.2.2.1 1, cell_of hW.2.2.2.1 2, cell_of hW.2.2.2.1 3, cell_of hW.2.2.2.1 4, cell_of hW.2.2.2.1 5, cell_of hW.2.2.2.1 6, cell_of hW.2.2.2.1 7⟩)
  go_cut [10] from 54 (fun s10 W => ∃ al : Addr, s10 = .slice (some al) 2 2 ∧ Sl (kExp (n + 3 + 1)) (fun _ => True) W (.slice (some al) 2 2) [oE 13 [e, cE v, zE], oE 11 [e, zE]] ∧ JZ w #[.int .i64 e.op, .slice B e.kids.length d, .string ⟨e.name.toArray⟩, .int .i64 e.val.kind, .int .i64 e.val.int, .bool e.val.bool, .string ⟨e.val.text.toArray⟩, .float .f64 e.val.num] #[.slice A N c, .slice A2 N2 c2] g7 v g9 [.int .i64 8, .slice (some ⟨gz, 0, none⟩) 2 2, .string ⟨#[]⟩, .int .i64 0, .int .i64 0, .bool false, .string ⟨#[]⟩, .float .f64 0] n W)
  case first =>
    go_region_held3 (fun W => W.cell? ⟨w.heap.size, 0, none⟩ = some (.int .i64 e.op) ∧ W.cell? ⟨w.heap.size, 1, none⟩ = some (.slice B e.kids.length d) ∧ W.cell? ⟨w.heap.size, 2, none⟩ = some (.string ⟨e.name.toArray⟩) ∧ W.cell? ⟨w.heap.size, 3, none⟩ = some (.int .i64 e.val.kind) ∧ W.cell? ⟨w.heap.size, 4, none⟩ = some (.int .i64 e.val.int) ∧ W.cell? ⟨w.heap.size, 5, none⟩ = some (.bool e.val.bool) ∧ W.cell? ⟨w.heap.size, 6, none⟩ = some (.string ⟨e.val.text.toArray⟩) ∧ W.cell? ⟨w.heap.size, 7, none⟩ = some (.float .f64 e.val.num) ∧ W.cell? ⟨g7, 0, none⟩ = some (.int .i64 v.kind) ∧ W.cell? ⟨g7, 1, none⟩ = some (.int .i64 v.int) ∧ W.cell? ⟨g7, 2, none⟩ = some (.bool v.bool) ∧ W.cell? ⟨g7, 3, none⟩ = some (.string ⟨v.text.toArray⟩) ∧ W.cell? ⟨g7, 4, none⟩ = some (.float .f64 v.num) ∧ W.cell? ⟨g9, 0, none⟩ = some (.int .i64 8) ∧ W.cell? ⟨g9, 1, none⟩ = some (.slice (some ⟨gz, 0, none⟩) 2 2) ∧ W.cell? ⟨g9, 2, none⟩ = some (.string ⟨#[]⟩) ∧ W.cell? ⟨g9, 3, none⟩ = some (.int .i64 0) ∧ W.cell? ⟨g9, 4, none⟩ = some (.int .i64 0) ∧ W.cell? ⟨g9, 5, none⟩ = some (.bool false) ∧ W.cell? ⟨g9, 6, none⟩ = some (.string ⟨#[]⟩) ∧ W.cell? ⟨g9, 7, none⟩ = some (.float .f64 0)) (exact KS.out _ (by (focus (repeat (first | with_reducible assumption | with_reducible refine JZ.al _ ?_ | with_reducible refine JZ.dr ?_ | with_reducible refine JZ.bel (by assumption) ?_))))) (first
    | (go_at_call 15; refine (con_c v).mono ?_; rintro x9 wz ⟨rfl, hb⟩)
    | (go_at_call 14; (with_reducible refine at_op 13 ?_); refine Calls.mono (opk_c (n := n + 3) (ks := [e, cE v, zE]) ?_) ?_; (focus exact three_R (t := 27) (by (focus (repeat (first | exact Loc1.newE _ _ _ (by simp) | with_reducible refine Loc1.al _ ?_ | with_reducible refine Loc1.dr ?_ | with_reducible refine Loc1.bel (by assumption) ?_)))) (HH.out _ (show JZ w #[.int .i64 e.op, .slice B e.kids.length d, .string ⟨e.name.toArray⟩, .int .i64 e.val.kind, .int .i64 e.val.int, .bool e.val.bool, .string ⟨e.val.text.toArray⟩, .float .f64 e.val.num] #[.slice A N c, .slice A2 N2 c2] g7 v g9 [.int .i64 8, .slice (some ⟨gz, 0, none⟩) 2 2, .string ⟨#[]⟩, .int .i64 0, .int .i64 0, .bool false, .string ⟨#[]⟩, .float .f64 0] n _ from by (focus (repeat (first | with_reducible assumption | with_reducible refine JZ.al _ ?_ | with_reducible refine JZ.dr ?_ | with_reducible refine JZ.bel (by assumption) ?_)))).1) (con_R (n + 2) _ v) (show JZ w #[.int .i64 e.op, .slice B e.kids.length d, .string ⟨e.name.toArray⟩, .int .i64 e.val.kind, .int .i64 e.val.int, .bool e.val.bool, .string ⟨e.val.text.toArray⟩, .float .f64 e.val.num] #[.slice A N c, .slice A2 N2 c2] g7 v g9 [.int .i64 8, .slice (some ⟨gz, 0, none⟩) 2 2, .string ⟨#[]⟩, .int .i64 0, .int .i64 0, .bool false, .string ⟨#[]⟩, .float .f64 0] n _ from by (focus (repeat (first | with_reducible assumption | with_reducible refine JZ.al _ ?_ | with_reducible refine JZ.dr ?_ | with_reducible refine JZ.bel (by assumption) ?_)))).2.2.2.2 rfl); rintro x9 wz ⟨rfl, hr13, hb⟩)
    | (go_at_call 14; (with_reducible refine at_op 11 ?_); refine Calls.mono (opk_c (n := n + 3) (ks := [e, zE]) ?_) ?_; (focus exact two_R (t := 27) (by (focus (repeat (first | exact Loc1.newE _ _ _ (by simp) | with_reducible refine Loc1.al _ ?_ | with_reducible refine Loc1.dr ?_ | with_reducible refine Loc1.bel (by assumption) ?_)))) (HH.out _ (show JZ w #[.int .i64 e.op, .slice B e.kids.length d, .string ⟨e.name.toArray⟩, .int .i64 e.val.kind, .int .i64 e.val.int, .bool e.val.bool, .string ⟨e.val.text.toArray⟩, .float .f64 e.val.num] #[.slice A N c, .slice A2 N2 c2] g7 v g9 [.int .i64 8, .slice (some ⟨gz, 0, none⟩) 2 2, .string ⟨#[]⟩, .int .i64 0, .int .i64 0, .bool false, .string ⟨#[]⟩, .float .f64 0] n _ from by (focus (repeat (first | with_reducible assumption | with_reducible refine JZ.al _ ?_ | with_reducible refine JZ.dr ?_ | with_reducible refine JZ.bel (by assumption) ?_)))).1) (show JZ w #[.int .i64 e.op, .slice B e.kids.length d, .string ⟨e.name.toArray⟩, .int .i64 e.val.kind, .int .i64 e.val.int, .bool e.val.bool, .string ⟨e.val.text.toArray⟩, .float .f64 e.val.num] #[.slice A N c, .slice A2 N2 c2] g7 v g9 [.int .i64 8, .slice (some ⟨gz, 0, none⟩) 2 2, .string ⟨#[]⟩, .int .i64 0, .int .i64 0, .bool false, .string ⟨#[]⟩, .float .f64 0] n _ from by (focus (repeat (first | with_reducible assumption | with_reducible refine JZ.al _ ?_ | with_reducible refine JZ.dr ?_ | with_reducible refine JZ.bel (by assumption) ?_)))).2.2.2.2 rfl); rintro x9 wz ⟨rfl, hr2, hb⟩))
    all_goals (simp only [Exit.then]; apply_assumption; go_meet)
    all_goals exact ⟨_, rfl, two_R (t := 27) (by (focus (repeat (first | exact Loc1.newE _ _ _ (by simp) | with_reducible refine Loc1.al _ ?_ | with_reducible refine Loc1.dr ?_ | with_reducible refine Loc1.bel (by assumption) ?_)))) (kR_below hr13 (by (focus (repeat (first | with_reducible exact Below.refl _ _ | with_reducible assumption | with_reducible refine bel_al _ ?_ | with_reducible refine bel_dr ?_ | with_reducible refine bel_tr (by assumption) ?_))))) (kR_below hr2 (by (focus (repeat (first | with_reducible exact Below.refl _ _ | with_reducible assumption | with_reducible refine bel_al _ ?_ | with_reducible refine bel_dr ?_ | with_reducible refine bel_tr (by assumption) ?_))))) rfl, by (focus (repeat (first | with_reducible assumption | with_reducible refine JZ.al _ ?_ | with_reducible refine JZ.dr ?_ | with_reducible refine JZ.bel (by assumption) ?_)))⟩
  case rest =>
    clear HJ
    obtain ⟨al, rfl, HL, HJ⟩ := hcut
    cases hvb : v.bool
    · have HLZ := Lib.hid (HLF.out hvb)
      have a2 := cell_of HJ.2.2.1 2
      simp only [List.getElem?_toArray, List.getElem?_cons_zero, List.getElem?_cons_succ] at a2
      rw [hvb] at a2
      clear hvb
      go_wp2_with fail
      clear a2
      clear HL
      go_cut [10] from 68 (fun s10 W => ∃ al : Addr, s10 = .slice (some al) 2 2 ∧ Sl (kExp (n + 3 + 1)) (fun _ => True) W (.slice (some al) 2 2) [oE 13 [e, zE, cE v], oE 10 [e, zE]] ∧ JZ w #[.int .i64 e.op, .slice B e.kids.length d, .string ⟨e.name.toArray⟩, .int .i64 e.val.kind, .int .i64 e.val.int, .bool e.val.bool, .string ⟨e.val.text.toArray⟩, .float .f64 e.val.num] #[.slice A N c, .slice A2 N2 c2] g7 v g9 [.int .i64 8, .slice (some ⟨gz, 0, none⟩) 2 2, .string ⟨#[]⟩, .int .i64 0, .int .i64 0, .bool false, .string ⟨#[]⟩, .float .f64 0] n W)
      case first =>
        go_region_held3 (fun W => W.cell? ⟨w.heap.size, 0, none⟩ = some (.int .i64 e.op) ∧ W.cell? ⟨w.heap.size, 1, none⟩ = some (.slice B e.kids.length d) ∧ W.cell? ⟨w.heap.size, 2, none⟩ = some (.string ⟨e.name.toArray⟩) ∧ W.cell? ⟨w.heap.size, 3, none⟩ = some (.int .i64 e.val.kind) ∧ W.cell? ⟨w.heap.size, 4, none⟩ = some (.int .i64 e.val.int) ∧ W.cell? ⟨w.heap.size, 5, none⟩ = some (.bool e.val.bool) ∧ W.cell? ⟨w.heap.size, 6, none⟩ = some (.string ⟨e.val.text.toArray⟩) ∧ W.cell? ⟨w.heap.size, 7, none⟩ = some (.float .f64 e.val.num) ∧ W.cell? ⟨g7, 0, none⟩ = some (.int .i64 v.kind) ∧ W.cell? ⟨g7, 1, none⟩ = some (.int .i64 v.int) ∧ W.cell? ⟨g7, 2, none⟩ = some (.bool v.bool) ∧ W.cell? ⟨g7, 3, none⟩ = some (.string ⟨v.text.toArray⟩) ∧ W.cell? ⟨g7, 4, none⟩ = some (.float .f64 v.num) ∧ W.cell? ⟨g9, 0, none⟩ = some (.int .i64 8) ∧ W.cell? ⟨g9, 1, none⟩ = some (.slice (some ⟨gz, 0, none⟩) 2 2) ∧ W.cell? ⟨g9, 2, none⟩ = some (.string ⟨#[]⟩) ∧ W.cell? ⟨g9, 3, none⟩ = some (.int .i64 0) ∧ W.cell? ⟨g9, 4, none⟩ = some (.int .i64 0) ∧ W.cell? ⟨g9, 5, none⟩ = some (.bool false) ∧ W.cell? ⟨g9, 6, none⟩ = some (.string ⟨#[]⟩) ∧ W.cell? ⟨g9, 7, none⟩ = some (.float .f64 0)) (exact KS.out _ (by (focus (repeat (first | with_reducible assumption | with_reducible refine JZ.al _ ?_ | with_reducible refine JZ.dr ?_ | with_reducible refine JZ.bel (by assumption) ?_))))) (first
        | (go_at_call 15; refine (con_c v).mono ?_; rintro x9 wz ⟨rfl, hb⟩)
        | (go_at_call 14; (with_reducible refine at_op 13 ?_); refine Calls.mono (opk_c (n := n + 3) (ks := [e, zE, cE v]) ?_) ?_; (focus exact three_R (t := 27) (by (focus (repeat (first | exact Loc1.newE _ _ _ (by simp) | with_reducible refine Loc1.al _ ?_ | with_reducible refine Loc1.dr ?_ | with_reducible refine Loc1.bel (by assumption) ?_)))) (HH.out _ (show JZ w #[.int .i64 e.op, .slice B e.kids.length d, .string ⟨e.name.toArray⟩, .int .i64 e.val.kind, .int .i64 e.val.int, .bool e.val.bool, .string ⟨e.val.text.toArray⟩, .float .f64 e.val.num] #[.slice A N c, .slice A2 N2 c2] g7 v g9 [.int .i64 8, .slice (some ⟨gz, 0, none⟩) 2 2, .string ⟨#[]⟩, .int .i64 0, .int .i64 0, .bool false, .string ⟨#[]⟩, .float .f64 0] n _ from by (focus (repeat (first | with_reducible assumption | with_reducible refine JZ.al _ ?_ | with_reducible refine JZ.dr ?_ | with_reducible refine JZ.bel (by assumption) ?_)))).1) (show JZ w #[.int .i64 e.op, .slice B e.kids.length d, .string ⟨e.name.toArray⟩, .int .i64 e.val.kind, .int .i64 e.val.int, .bool e.val.bool, .string ⟨e.val.text.toArray⟩, .float .f64 e.val.num] #[.slice A N c, .slice A2 N2 c2] g7 v g9 [.int .i64 8, .slice (some ⟨gz, 0, none⟩) 2 2, .string ⟨#[]⟩, .int .i64 0, .int .i64 0, .bool false, .string ⟨#[]⟩, .float .f64 0] n _ from by (focus (repeat (first | with_reducible assumption | with_reducible refine JZ.al _ ?_ | with_reducible refine JZ.dr ?_ | with_reducible refine JZ.bel (by assumption) ?_)))).2.2.2.2 (con_R (n + 2) _ v) rfl); rintro x9 wz ⟨rfl, hr13, hb⟩)
        | (go_at_call 14; (with_reducible refine at_op 10 ?_); refine Calls.mono (opk_c (n := n + 3) (ks := [e, zE]) ?_) ?_; (focus exact two_R (t := 27) (by (focus (repeat (first | exact Loc1.newE _ _ _ (by simp) | with_reducible refine Loc1.al _ ?_ | with_reducible refine Loc1.dr ?_ | with_reducible refine Loc1.bel (by assumption) ?_)))) (HH.out _ (show JZ w #[.int .i64 e.op, .slice B e.kids.length d, .string ⟨e.name.toArray⟩, .int .i64 e.val.kind, .int .i64 e.val.int, .bool e.val.bool, .string ⟨e.val.text.toArray⟩, .float .f64 e.val.num] #[.slice A N c, .slice A2 N2 c2] g7 v g9 [.int .i64 8, .slice (some ⟨gz, 0, none⟩) 2 2, .string ⟨#[]⟩, .int .i64 0, .int .i64 0, .bool false, .string ⟨#[]⟩, .float .f64 0] n _ from by (focus (repeat (first | with_reducible assumption | with_reducible refine JZ.al _ ?_ | with_reducible refine JZ.dr ?_ | with_reducible refine JZ.bel (by assumption) ?_)))).1) (show JZ w #[.int .i64 e.op, .slice B e.kids.length d, .string ⟨e.name.toArray⟩, .int .i64 e.val.kind, .int .i64 e.val.int, .bool e.val.bool, .string ⟨e.val.text.toArray⟩, .float .f64 e.val.num] #[.slice A N c, .slice A2 N2 c2] g7 v g9 [.int .i64 8, .slice (some ⟨gz, 0, none⟩) 2 2, .string ⟨#[]⟩, .int .i64 0, .int .i64 0, .bool false, .string ⟨#[]⟩, .float .f64 0] n _ from by (focus (repeat (first | with_reducible assumption | with_reducible refine JZ.al _ ?_ | with_reducible refine JZ.dr ?_ | with_reducible refine JZ.bel (by assumption) ?_)))).2.2.2.2 rfl); rintro x9 wz ⟨rfl, hr2, hb⟩))
        all_goals (simp only [Exit.then]; apply_assumption; go_meet)
        all_goals exact ⟨_, rfl, two_R (t := 27) (by (focus (repeat (first | exact Loc1.newE _ _ _ (by simp) | with_reducible refine Loc1.al _ ?_ | with_reducible refine Loc1.dr ?_ | with_reducible refine Loc1.bel (by assumption) ?_)))) (kR_below hr13 (by (focus (repeat (first | with_reducible exact Below.refl _ _ | with_reducible assumption | with_reducible refine bel_al _ ?_ | with_reducible refine bel_dr ?_ | with_reducible refine bel_tr (by assumption) ?_))))) (kR_below hr2 (by (focus (repeat (first | with_reducible exact Below.refl _ _ | with_reducible assumption | with_reducible refine bel_al _ ?_ | with_reducible refine bel_dr ?_ | with_reducible refine bel_tr (by assumption) ?_))))) rfl, by (focus (repeat (first | with_reducible assumption | with_reducible refine JZ.al _ ?_ | with_reducible refine JZ.dr ?_ | with_reducible refine JZ.bel (by assumption) ?_)))⟩
      case rest =>
        clear HJ
        obtain ⟨al, rfl, HL, HJ⟩ := hcut
        go_wp2_with fail
        have HEV := Lib.hid (show ∀ x : Exp, x = oE 13 [e, zE, cE v] ∨ x = oE 10 [e, zE] → small x = true → evalR fl vs (n + 3 + 1) x = (v, 0) from HLZ.out)
        go_loopw [11] (fun v11 wr => ∃ i : Nat, i ≤ 2 ∧ v11 = .int .i64 i ∧ Sl (kExp (n + 3 + 1)) (fun _ => True) wr (.slice (some al) 2 2) [oE 13 [e, zE, cE v], oE 10 [e, zE]] ∧ JZ w #[.int .i64 e.op, .slice B e.kids.length d, .string ⟨e.name.toArray⟩, .int .i64 e.val.kind, .int .i64 e.val.int, .bool e.val.bool, .string ⟨e.val.text.toArray⟩, .float .f64 e.val.num] #[.slice A N c, .slice A2 N2 c2] g7 v g9 [.int .i64 8, .slice (some ⟨gz, 0, none⟩) 2 2, .string ⟨#[]⟩, .int .i64 0, .int .i64 0, .bool false, .string ⟨#[]⟩, .float .f64 0] n wr) (fun v11 _ => 2 - (intOf v11).toNat)
        case atStart => exact ⟨0, by omega, rfl, HL, HJ⟩
        case round =>
          clear HL HJ
          obtain ⟨i, hi, rfl, HL, HJ⟩ := hrel
          by_cases hlt : i < 2
          rotate_left
          · go_wp2_with fail
            refine awake_c.mono ?_
            rintro x9 wk ⟨rfl, hb⟩
            go_wp2_with fail
            go_ret
            exact ⟨rfl, below_self HJ.1 hb⟩
          obtain ⟨al', x, k', B', d', eal, hx, hk', hs', c0, c1, c2_, c3, c4, c5, c6, c7⟩ := exp_at HL hlt
          injection eal with eal
          subst eal
          have HXE := Lib.hid (show x = oE 13 [e, zE, cE v] ∨ x = oE 10 [e, zE] by
            match i, hlt, hx with
            | 0, _, hx => injection hx with hx; exact .inl hx.symm
            | 1, _, hx => injection hx with hx; exact .inr hx.symm)
          have HR := Lib.hid (show ∀ W : World, Below wr.heap.size wr W → (kExp (n + 3 + 1)).R (fun _ => True) W [.int .i64 x.op, .slice B' x.kids.length d', .string ⟨x.name.toArray⟩, .int .i64 x.val.kind, .int .i64 x.val.int, .bool x.val.bool, .string ⟨x.val.text.toArray⟩, .float .f64 x.val.num] x from fun W hW => by rw [hk']; exact exp_mk (hs'.below hW))
          have hi0 : (0 : Int) ≤ (i : Int) := by omega
          have hi2 : (i : Int) < 2 := by omega
          clear hx hk' hs'
          go_wp2_with fail
          refine (small4_c (HR.out _ (Below.refl _ _))).mono ?_
          rintro x9 w12 ⟨rfl, hb⟩
          cases hsm : small x
          · go_wp2_with fail
            go_roundw
            case rel => exact ⟨i + 1, by omega, by go_num, HL.below hb, HJ.bel hb⟩
            case measure => simp [intOf]; omega
          have HVX := Lib.hid (HEV.out x HXE.out hsm)
          clear HXE hsm
          go_wp2_with fail
          have KL := Lib.hid (show ∀ W : World, Below wr.heap.size wr W → W.cell? (al.add (i * 8)) = some (.int .i64 x.op) ∧ W.cell? ⟨(al.add (i * 8)).block, (al.add (i * 8)).off + 1, none⟩ = some (.slice B' x.kids.length d') ∧ W.cell? ⟨(al.add (i * 8)).block, (al.add (i * 8)).off + 2, none⟩ = some (.string ⟨x.name.toArray⟩) ∧ W.cell? ⟨(al.add (i * 8)).block, (al.add (i * 8)).off + 3, none⟩ = some (.int .i64 x.val.kind) ∧ W.cell? ⟨(al.add (i * 8)).block, (al.add (i * 8)).off + 4, none⟩ = some (.int .i64 x.val.int) ∧ W.cell? ⟨(al.add (i * 8)).block, (al.add (i * 8)).off + 5, none⟩ = some (.bool x.val.bool) ∧ W.cell? ⟨(al.add (i * 8)).block, (al.add (i * 8)).off + 6, none⟩ = some (.string ⟨x.val.text.toArray⟩) ∧ W.cell? ⟨(al.add (i * 8)).block, (al.add (i * 8)).off + 7, none⟩ = some (.float .f64 x.val.num) ∧ W.cell? ⟨w.heap.size + 1, 0, none⟩ = some (.slice A N c) ∧ W.cell? ⟨w.heap.size + 1, 1, none⟩ = some (.slice A2 N2 c2) from
            fun W hW => ⟨keepC c0 hW, keepC c1 hW, keepC c2_ hW, keepC c3 hW, keepC c4 hW, keepC c5 hW, keepC c6 hW, keepC c7 hW, cell_of (HJ.bel hW).2.1.2 0, cell_of (HJ.bel hW).2.1.2 1⟩)
          clear c0 c1 c2_ c3 c4 c5 c6 c7
          have zr := HJ.1.size
          have z7 := lt_of_heap HJ.2.2.1
          have zE1 := lt_of_heap HJ.2.1.2
          have zs := hb.size
          go_cut [12, 13] from 91 to 102 (fun s12 s13 W => ∃ g, s12 = .pointer (some ⟨g, 0, none⟩) ∧ s13 = .int .i64 0 ∧ Loc1 g 25 #[.int .i64 v.kind, .int .i64 v.int, .bool v.bool, .string ⟨v.text.toArray⟩, .float .f64 v.num] W ∧ Below wr.heap.size wr W)
          case first =>
            go_region_held3 (fun W => W.cell? (al.add (i * 8)) = some (.int .i64 x.op) ∧ W.cell? ⟨(al.add (i * 8)).block, (al.add (i * 8)).off + 1, none⟩ = some (.slice B' x.kids.length d') ∧ W.cell? ⟨(al.add (i * 8)).block, (al.add (i * 8)).off + 2, none⟩ = some (.string ⟨x.name.toArray⟩) ∧ W.cell? ⟨(al.add (i * 8)).block, (al.add (i * 8)).off + 3, none⟩ = some (.int .i64 x.val.kind) ∧ W.cell? ⟨(al.add (i * 8)).block, (al.add (i * 8)).off + 4, none⟩ = some (.int .i64 x.val.int) ∧ W.cell? ⟨(al.add (i * 8)).block, (al.add (i * 8)).off + 5, none⟩ = some (.bool x.val.bool) ∧ W.cell? ⟨(al.add (i * 8)).block, (al.add (i * 8)).off + 6, none⟩ = some (.string ⟨x.val.text.toArray⟩) ∧ W.cell? ⟨(al.add (i * 8)).block, (al.add (i * 8)).off + 7, none⟩ = some (.float .f64 x.val.num) ∧ W.cell? ⟨w.heap.size + 1, 0, none⟩ = some (.slice A N c) ∧ W.cell? ⟨w.heap.size + 1, 1, none⟩ = some (.slice A2 N2 c2)) (exact KL.out _ (by (focus (repeat (first | with_reducible exact Below.refl _ _ | with_reducible assumption | with_reducible refine bel_al _ ?_ | with_reducible refine bel_dr ?_ | with_reducible refine bel_tr (by assumption) ?_ | with_reducible refine bel_st (by omega) ?_)))))
              (first
              | (go_at_call 12; refine Calls.mono (evL_c HVX.out (HR.out _ (by (focus (repeat (first | with_reducible exact Below.refl _ _ | with_reducible assumption | with_reducible refine bel_al _ ?_ | with_reducible refine bel_dr ?_ | with_reducible refine bel_tr (by assumption) ?_))))) (HF.out _ (below_self HJ.1 (by (focus (repeat (first | with_reducible exact Below.refl _ _ | with_reducible assumption | with_reducible refine bel_al _ ?_ | with_reducible refine bel_dr ?_ | with_reducible refine bel_tr (by assumption) ?_)))))) (HV.out _ (below_self HJ.1 (by (focus (repeat (first | with_reducible exact Below.refl _ _ | with_reducible assumption | with_reducible refine bel_al _ ?_ | with_reducible refine bel_dr ?_ | with_reducible refine bel_tr (by assumption) ?_))))))) ?_; rintro x9 wz ⟨rfl, hb⟩; (first | (with_reducible have LV : Loc1 _ 25 #[.int .i64 0, .int .i64 0, .bool false, .string ⟨#[]⟩, .float .f64 0] wz := Loc1.bel hb (Loc1.new _ _ _)) | skip); try ((try simp only [World.size_alloc, World.size_drew] at LV); obtain ⟨m0, m1, m2, m3, m4⟩ := cells5 LV; obtain ⟨u0, u1, u2, u3, u4⟩ := frees5 LV; have hzn := lt_of_heap LV)))
            all_goals (simp only [Exit.then]; apply_assumption; go_meet)
            all_goals first
              | (have h5 := set5_heap (.int .i64 v.kind) (.int .i64 v.int) (.bool v.bool) (.string ⟨v.text.toArray⟩) (.float .f64 v.num) LV; unfold set5 at h5; exact ⟨_, rfl, rfl, h5, by (focus (repeat (first | with_reducible exact Below.refl _ _ | with_reducible assumption | with_reducible refine bel_al _ ?_ | with_reducible refine bel_dr ?_ | with_reducible refine bel_tr (by assumption) ?_ | with_reducible refine bel_st (by omega) ?_)))⟩)
              | (refine ⟨_, rfl, rfl, Loc1.new _ _ _, by (focus (repeat (first | with_reducible exact Below.refl _ _ | with_reducible assumption | with_reducible refine bel_al _ ?_ | with_reducible refine bel_dr ?_ | with_reducible refine bel_tr (by assumption) ?_)))⟩)
          case rest =>
            obtain ⟨g12, rfl, rfl, L12, B12⟩ := hcut
            generalize hwe : wc = we at *
            clear hwe
            have HL2 := HL.below B12
            have HJ2 := HJ.bel B12
            clear HL HJ B12 KL zs zr z7 zE1
            obtain ⟨a0, a1, a2, a3, a4⟩ := cells5 HJ2.2.2.1
            have hz2 := lt_of_heap HJ2.2.2.1
            obtain ⟨b0, b1, b2, b3, b4⟩ := cells5 L12
            have hz3 := lt_of_heap L12
            go_wp2_with fail
            refine (sameVV_c v).mono ?_
            rintro x9 w13 ⟨rfl, hbs⟩
            clear a0 a1 a2 a3 a4 hz2 b0 b1 b2 b3 b4 hz3
            go_wp2_with fail
            go_roundw
            case rel => exact ⟨i + 1, by omega, by go_num, HL2.below hbs, HJ2.bel hbs⟩
            case measure => simp [intOf]; omega
    · have HLZ := Lib.hid (HLT.out hvb)
      have a2 := cell_of HJ.2.2.1 2
      simp only [List.getElem?_toArray, List.getElem?_cons_zero, List.getElem?_cons_succ] at a2
      rw [hvb] at a2
      clear hvb
      go_wp2_with fail
      clear a2
      have HEV := Lib.hid (show ∀ x : Exp, x = oE 13 [e, cE v, zE] ∨ x = oE 11 [e, zE] → small x = true → evalR fl vs (n + 3 + 1) x = (v, 0) from HLZ.out)
      go_loopw [11] (fun v11 wr => ∃ i : Nat, i ≤ 2 ∧ v11 = .int .i64 i ∧ Sl (kExp (n + 3 + 1)) (fun _ => True) wr (.slice (some al) 2 2) [oE 13 [e, cE v, zE], oE 11 [e, zE]] ∧ JZ w #[.int .i64 e.op, .slice B e.kids.length d, .string ⟨e.name.toArray⟩, .int .i64 e.val.kind, .int .i64 e.val.int, .bool e.val.bool, .string ⟨e.val.text.toArray⟩, .float .f64 e.val.num] #[.slice A N c, .slice A2 N2 c2] g7 v g9 [.int .i64 8, .slice (some ⟨gz, 0, none⟩) 2 2, .string ⟨#[]⟩, .int .i64 0, .int .i64 0, .bool false, .string ⟨#[]⟩, .float .f64 0] n wr) (fun v11 _ => 2 - (intOf v11).toNat)
      case atStart => exact ⟨0, by omega, rfl, HL, HJ⟩
      case round =>
        clear HL HJ
        obtain ⟨i, hi, rfl, HL, HJ⟩ := hrel
        by_cases hlt : i < 2
        rotate_left
        · go_wp2_with fail
          refine awake_c.mono ?_
          rintro x9 wk ⟨rfl, hb⟩
          go_wp2_with fail
          go_ret
          exact ⟨rfl, below_self HJ.1 hb⟩
        obtain ⟨al', x, k', B', d', eal, hx, hk', hs', c0, c1, c2_, c3, c4, c5, c6, c7⟩ := exp_at HL hlt
        injection eal with eal
        subst eal
        have HXE := Lib.hid (show x = oE 13 [e, cE v, zE] ∨ x = oE 11 [e, zE] by
          match i, hlt, hx with
          | 0, _, hx => injection hx with hx; exact .inl hx.symm
          | 1, _, hx => injection hx with hx; exact .inr hx.symm)
        have HR := Lib.hid (show ∀ W : World, Below wr.heap.size wr W → (kExp (n + 3 + 1)).R (fun _ => True) W [.int .i64 x.op, .slice B' x.kids.length d', .string ⟨x.name.toArray⟩, .int .i64 x.val.kind, .int .i64 x.val.int, .bool x.val.bool, .string ⟨x.val.text.toArray⟩, .float .f64 x.val.num] x from fun W hW => by rw [hk']; exact exp_mk (hs'.below hW))
        have hi0 : (0 : Int) ≤ (i : Int) := by omega
        have hi2 : (i : Int) < 2 := by omega
        clear hx hk' hs'
        go_wp2_with fail
        refine (small4_c (HR.out _ (Below.refl _ _))).mono ?_
        rintro x9 w12 ⟨rfl, hb⟩
        cases hsm : small x
        · go_wp2_with fail
          go_roundw
          case rel => exact ⟨i + 1, by omega, by go_num, HL.below hb, HJ.bel hb⟩
          case measure => simp [intOf]; omega
        have HVX := Lib.hid (HEV.out x HXE.out hsm)
        clear HXE hsm
        go_wp2_with fail
        have KL := Lib.hid (show ∀ W : World, Below wr.heap.size wr W → W.cell? (al.add (i * 8)) = some (.int .i64 x.op) ∧ W.cell? ⟨(al.add (i * 8)).block, (al.add (i * 8)).off + 1, none⟩ = some (.slice B' x.kids.length d') ∧ W.cell? ⟨(al.add (i * 8)).block, (al.add (i * 8)).off + 2, none⟩ = some (.string ⟨x.name.toArray⟩) ∧ W.cell? ⟨(al.add (i * 8)).block, (al.add (i * 8)).off + 3, none⟩ = some (.int .i64 x.val.kind) ∧ W.cell? ⟨(al.add (i * 8)).block, (al.add (i * 8)).off + 4, none⟩ = some (.int .i64 x.val.int) ∧ W.cell? ⟨(al.add (i * 8)).block, (al.add (i * 8)).off + 5, none⟩ = some (.bool x.val.bool) ∧ W.cell? ⟨(al.add (i * 8)).block, (al.add (i * 8)).off + 6, none⟩ = some (.string ⟨x.val.text.toArray⟩) ∧ W.cell? ⟨(al.add (i * 8)).block, (al.add (i * 8)).off + 7, none⟩ = some (.float .f64 x.val.num) ∧ W.cell? ⟨w.heap.size + 1, 0, none⟩ = some (.slice A N c) ∧ W.cell? ⟨w.heap.size + 1, 1, none⟩ = some (.slice A2 N2 c2) from
          fun W hW => ⟨keepC c0 hW, keepC c1 hW, keepC c2_ hW, keepC c3 hW, keepC c4 hW, keepC c5 hW, keepC c6 hW, keepC c7 hW, cell_of (HJ.bel hW).2.1.2 0, cell_of (HJ.bel hW).2.1.2 1⟩)
        clear c0 c1 c2_ c3 c4 c5 c6 c7
        have zr := HJ.1.size
        have z7 := lt_of_heap HJ.2.2.1
        have zE1 := lt_of_heap HJ.2.1.2
        have zs := hb.size
        go_cut [12, 13] from 91 to 102 (fun s12 s13 W => ∃ g, s12 = .pointer (some ⟨g, 0, none⟩) ∧ s13 = .int .i64 0 ∧ Loc1 g 25 #[.int .i64 v.kind, .int .i64 v.int, .bool v.bool, .string ⟨v.text.toArray⟩, .float .f64 v.num] W ∧ Below wr.heap.size wr W)
        case first =>
          go_region_held3 (fun W => W.cell? (al.add (i * 8)) = some (.int .i64 x.op) ∧ W.cell? ⟨(al.add (i * 8)).block, (al.add (i * 8)).off + 1, none⟩ = some (.slice B' x.kids.length d') ∧ W.cell? ⟨(al.add (i * 8)).block, (al.add (i * 8)).off + 2, none⟩ = some (.string ⟨x.name.toArray⟩) ∧ W.cell? ⟨(al.add (i * 8)).block, (al.add (i * 8)).off + 3, none⟩ = some (.int .i64 x.val.kind) ∧ W.cell? ⟨(al.add (i * 8)).block, (al.add (i * 8)).off + 4, none⟩ = some (.int .i64 x.val.int) ∧ W.cell? ⟨(al.add (i * 8)).block, (al.add (i * 8)).off + 5, none⟩ = some (.bool x.val.bool) ∧ W.cell? ⟨(al.add (i * 8)).block, (al.add (i * 8)).off + 6, none⟩ = some (.string ⟨x.val.text.toArray⟩) ∧ W.cell? ⟨(al.add (i * 8)).block, (al.add (i * 8)).off + 7, none⟩ = some (.float .f64 x.val.num) ∧ W.cell? ⟨w.heap.size + 1, 0, none⟩ = some (.slice A N c) ∧ W.cell? ⟨w.heap.size + 1, 1, none⟩ = some (.slice A2 N2 c2)) (exact KL.out _ (by (focus (repeat (first | with_reducible exact Below.refl _ _ | with_reducible assumption | with_reducible refine bel_al _ ?_ | with_reducible refine bel_dr ?_ | with_reducible refine bel_tr (by assumption) ?_ | with_reducible refine bel_st (by omega) ?_)))))
            (first
            | (go_at_call 12; refine Calls.mono (evL_c HVX.out (HR.out _ (by (focus (repeat (first | with_reducible exact Below.refl _ _ | with_reducible assumption | with_reducible refine bel_al _ ?_ | with_reducible refine bel_dr ?_ | with_reducible refine bel_tr (by assumption) ?_))))) (HF.out _ (below_self HJ.1 (by (focus (repeat (first | with_reducible exact Below.refl _ _ | with_reducible assumption | with_reducible refine bel_al _ ?_ | with_reducible refine bel_dr ?_ | with_reducible refine bel_tr (by assumption) ?_)))))) (HV.out _ (below_self HJ.1 (by (focus (repeat (first | with_reducible exact Below.refl _ _ | with_reducible assumption | with_reducible refine bel_al _ ?_ | with_reducible refine bel_dr ?_ | with_reducible refine bel_tr (by assumption) ?_))))))) ?_; rintro x9 wz ⟨rfl, hb⟩; (first | (with_reducible have LV : Loc1 _ 25 #[.int .i64 0, .int .i64 0, .bool false, .string ⟨#[]⟩, .float .f64 0] wz := Loc1.bel hb (Loc1.new _ _ _)) | skip); try ((try simp only [World.size_alloc, World.size_drew] at LV); obtain ⟨m0, m1, m2, m3, m4⟩ := cells5 LV; obtain ⟨u0, u1, u2, u3, u4⟩ := frees5 LV; have hzn := lt_of_heap LV)))
          all_goals (simp only [Exit.then]; apply_assumption; go_meet)
          all_goals first
            | (have h5 := set5_heap (.int .i64 v.kind) (.int .i64 v.int) (.bool v.bool) (.string ⟨v.text.toArray⟩) (.float .f64 v.num) LV; unfold set5 at h5; exact ⟨_, rfl, rfl, h5, by (focus (repeat (first | with_reducible exact Below.refl _ _ | with_reducible assumption | with_reducible refine bel_al _ ?_ | with_reducible refine bel_dr ?_ | with_reducible refine bel_tr (by assumption) ?_ | with_reducible refine bel_st (by omega) ?_)))⟩)
            | (refine ⟨_, rfl, rfl, Loc1.new _ _ _, by (focus (repeat (first | with_reducible exact Below.refl _ _ | with_reducible assumption | with_reducible refine bel_al _ ?_ | with_reducible refine bel_dr ?_ | with_reducible refine bel_tr (by assumption) ?_)))⟩)
        case rest =>
          obtain ⟨g12, rfl, rfl, L12, B12⟩ := hcut
          generalize hwe : wc = we at *
          clear hwe
          have HL2 := HL.below B12
          have HJ2 := HJ.bel B12
          clear HL HJ B12 KL zs zr z7 zE1
          obtain ⟨a0, a1, a2, a3, a4⟩ := cells5 HJ2.2.2.1
          have hz2 := lt_of_heap HJ2.2.2.1
          obtain ⟨b0, b1, b2, b3, b4⟩ := cells5 L12
          have hz3 := lt_of_heap L12
          go_wp2_with fail
          refine (sameVV_c v).mono ?_
          rintro x9 w13 ⟨rfl, hbs⟩
          clear a0 a1 a2 a3 a4 hz2 b0 b1 b2 b3 b4 hz3
          go_wp2_with fail
          go_roundw
          case rel => exact ⟨i + 1, by omega, by go_num, HL2.below hbs, HJ2.bel hbs⟩
          case measure => simp [intOf]; omega
theorem lazy_c {A A2 : Option Addr} {N N2 c c2 : Nat} {fl : List Fld} {vs : List Val} {n : Nat} {cs : List Value} {e : Exp} (h : (kExp n).R (fun _ => True) w cs e) (hf : Sl kFld (fun _ => True) w (.slice A N c) fl) (hv : Sl kVal (fun _ => True) w (.slice A2 N2 c2) vs) :
    Calls Try.prog 4 #[.agg cs.toArray, .agg #[.slice A N c, .slice A2 N2 c2]] w (Ret w (.bool true)) := lazy_d (exp_le (show n ≤ n + 3 by omega) h) hf hv
end
end Go.Proofs.Ytijlamajcdekkaa
