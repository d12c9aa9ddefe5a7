/- The law ExprFields, walked. -/
import Derived.Test.YtijlamajcdekkaaH2
import Derived.Test.YtijlamajcdekkaaP6
import Derived.Deep.CutRange
namespace Go.Proofs.Ytijlamajcdekkaa
open Go.RowKit
set_option linter.unusedVariables false
set_option linter.unusedSimpArgs false
theorem infoFld : (Try.prog.info? 50).map (fun i => (i.zero, i.size, i.bytes)) = some (some (.agg #[.string ⟨#[]⟩, .int .i64 0, .slice none 0 0, .int .i64 0, .int .i64 0, .bool false, .string ⟨#[]⟩, .float .f64 0]), 8, 96) := by kernel_rfl
theorem infoVal : (Try.prog.info? 25).map (fun i => (i.zero, i.size, i.bytes)) = some (some (.agg #[.int .i64 0, .int .i64 0, .bool false, .string ⟨#[]⟩, .float .f64 0]), 5, 48) := by kernel_rfl
/-- an append, as one step of a region that draws -/
theorem step_append {P : Program} {C : Value → World → Prop} {ops : Array Oper} {o : Oper} {a : Act} {w : World} {K : Act → World → Prop} {Q : Exit → Act → World → Prop} {E : Prop} (hg : o.guard = none) (s x : Operand) (t tx : TypeId)
    (ho : o.op = .call { callee := .builtin .append, args := #[s, x], argTypes := #[t, tx] }) {vs vx : Value} (hs : a.eval s = vs) (hx : a.eval x = vx)
    (hrun : ∃ v' w', (Builtin.append_ #[t, tx] o.type #[vs, vx]).run P w = .ok v' w' ∧ C v' w') (hK : ∀ v' w', C v' w' → K (a.put o.dst v') w') : if Region.wanted o (yielded ops a.tmps) = true then Oper.wp P o a w K Q else E := by
  obtain ⟨v', w', hr, hc⟩ := hrun
  rw [if_pos (show Region.wanted o (yielded ops a.tmps) = true by simp [Region.wanted, hg])]
  unfold Oper.wp execOp
  simp only [ho, resolve, invoke, builtin, Sem.run_bind, Sem.run_pure, Result.andThen_ok, List.map_toArray, List.map_cons, List.map_nil, hs, hx, hr]
  exact hK _ _ hc
theorem loc_keep {W w' : World} {g g' : Nat} {t : TypeId} {cm : Array Value} (hgr : ∀ k, k < W.heap.size → k ≠ g → w'.heap[k]? = W.heap[k]?) (hL : Loc1 g' t cm W) (hne : g' ≠ g) : Loc1 g' t cm w' := (hgr _ (lt_of_heap hL) hne).trans hL
/-- onto a literal of nothing -/
theorem app_fresh {P : Program} {α : Type} {d : Kd α} {e t tx ty : TypeId} {W : World} {g b0 bytes : Nat} {z y : Value} {ys : List α} (ht : P.underlying t = some (.slice e)) (htx : P.underlying tx = some (.slice e)) (hi : (P.info? e).map (fun i => (i.zero, i.size, i.bytes)) = some (some z, d.sz, bytes)) (hzs : z.cells.size = d.sz)
    (hL : Loc1 g e #[] W) (hy : Sl d (fun k => k < b0) W y ys) (hb0 : b0 ≤ g) (hb : ys.length ≤ 100 ∧ bytes ≤ 100) :
    ∃ v' w', (Builtin.append_ #[t, tx] ty #[.slice (some ⟨g, 0, none⟩) 0 0, y]).run P W = .ok v' w' ∧ (Own d e (fun _ => True) w' b0 v' ys ∧ Below b0 W w' ∧ (∀ k, k < W.heap.size → k ≠ g → w'.heap[k]? = W.heap[k]?) ∧ ∀ k, v'.ownBlock = some k → k = g ∨ k = W.heap.size) := by
  obtain ⟨i0, hi0, hz0, hz1, hz2⟩ := info_parts hi
  have hg := lt_of_heap hL
  have h : Own d e (fun _ => True) W g (.slice (some ⟨g, 0, none⟩) 0 0) ([] : List α) :=
    ⟨[], ⟨by simp, .inr ⟨g, 0, #[], rfl, Nat.le_refl _, hL, Nat.le_refl _, Nat.zero_le _, by simp, by simp⟩⟩, rfl⟩
  obtain ⟨news, hn, hs⟩ := hy.src (P := P) htx
  have hmul : (0 + ys.length) * bytes ≤ 100 * 100 := Nat.mul_le_mul (by omega) hb.2
  obtain ⟨v', w', a, b, c, hat⟩ := run_append_own (ty := ty) (P := P) ht hi0 hz0 hz1 hz2 hzs h (Nat.le_of_lt hg) (hn.weak fun k hk => ⟨trivial, fun x => by injection x with x; have x : k = g := x; omega⟩) hs (by simp only [List.length_nil]; omega) (by simp only [List.length_nil]; omega)
  refine ⟨v', w', a, b.lower hb0, below_grown (Below.refl _ _) h hb0 (by omega) c, fun k hk hne => c.block k hk (by simpa [Value.ownBlock] using hne), fun k hk => ?_⟩
  rcases hat with hat | hat
  · rw [hat] at hk; exact .inl (by simpa [Value.ownBlock] using hk.symm)
  · rw [hat] at hk; exact .inr (by injection hk with hk; exact hk.symm)
/-- one more -/
theorem app_box {P : Program} {α : Type} {d : Kd α} {e t tx ty : TypeId} {W : World} {g b0 bytes : Nat} {z v : Value} {xs : List α} {x : α} {cs : List Value} (ht : P.underlying t = some (.slice e)) (htx : P.underlying tx = some (.slice e)) (hi : (P.info? e).map (fun i => (i.zero, i.size, i.bytes)) = some (some z, d.sz, bytes)) (hzs : z.cells.size = d.sz)
    (h : Own d e (fun _ => True) W b0 v xs) (hL : Loc1 g e cs.toArray W) (hr : ∀ ok, d.R ok W cs x) (hne : ∀ k, v.ownBlock = some k → k ≠ g) (hb : b0 ≤ W.heap.size ∧ xs.length ≤ 100 ∧ bytes ≤ 100) :
    ∃ v' w', (Builtin.append_ #[t, tx] ty #[v, .slice (some ⟨g, 0, none⟩) 1 1]).run P W = .ok v' w' ∧ (Own d e (fun _ => True) w' b0 v' (xs ++ [x]) ∧ Below b0 W w') := by
  obtain ⟨i0, hi0, hz0, hz1, hz2⟩ := info_parts hi
  have hmul : (xs.length + 1) * bytes ≤ 101 * 100 := Nat.mul_le_mul (by omega) hb.2.2
  obtain ⟨v', w', a, b, c, hat⟩ := run_append_own (ys := [x]) (news := cs) (y := .slice (some ⟨g, 0, none⟩) 1 1) (ty := ty) (P := P) ht hi0 hz0 hz1 hz2 hzs h hb.1 (Rps.single (hr _)) (Src.ofSlice _ htx _ 1 1 cs (by rw [d.len (hr fun _ => True), Nat.one_mul]) (fun j u hu => by
    have ha : (⟨g, 0, none⟩ : Addr).add j = ⟨g, j, none⟩ := by unfold Addr.add; split <;> simp_all
    rw [ha, cell_of hL, ← hu]; simp) (d.one (hr fun _ => True))) (by simp only [List.length_singleton]; omega) (by simp only [List.length_singleton]; omega)
  exact ⟨v', w', a, b, below_grown (Below.refl _ _) h (Nat.le_refl _) hb.1 c⟩
theorem sameVV_c {w : World} (v : Val) : Calls Try.prog 18 #[.agg #[.int .i64 v.kind, .int .i64 v.int, .bool v.bool, .string ⟨v.text.toArray⟩, .float .f64 v.num], .agg #[.int .i64 v.kind, .int .i64 v.int, .bool v.bool, .string ⟨v.text.toArray⟩, .float .f64 v.num]] w (Ret w (.bool true)) := by
  have H := same4_c (w := w) v v
  rw [show sameV v v = true by unfold sameV; simp] at H
  exact H
theorem evL_c {w : World} {A A2 : Option Addr} {N N2 c c2 : Nat} {fl : List Fld} {vs : List Val} {n : Nat} {cs : List Value} {e : Exp} {va : Val} {x : Int} (hv : evalR fl vs n e = (va, x)) (h : (kExp n).R (fun _ => True) w cs e) (hf : Sl kFld (fun _ => True) w (.slice A N c) fl) (hs : Sl kVal (fun _ => True) w (.slice A2 N2 c2) vs) :
    Calls Try.prog 12 #[.agg cs.toArray, .slice A N c, .slice A2 N2 c2] w (Ret w (.tuple #[.agg #[.int .i64 va.kind, .int .i64 va.int, .bool va.bool, .string ⟨va.text.toArray⟩, .float .f64 va.num], .int .i64 x])) := by
  have H := ev_c h hf hs
  rw [hv] at H
  exact H
section
variable {w : World}
set_option maxRecDepth 20000 in
set_option maxHeartbeats 8000000 in
theorem fields_c {A A2 : Option Addr} {N N2 c c2 : Nat} {fl : List Fld} {vs : List Val} {n : Nat} {cs ds : List Value} {e : Exp} {v : Val} (h : (kExp n).R (fun _ => True) w cs e) (hf : Sl kFld (fun _ => True) w (.slice A N c) fl) (hv : Sl kVal (fun _ => True) w (.slice A2 N2 c2) vs) (hd : kVal.R (fun _ => True) w ds v) :
    Calls Try.prog 5 #[.agg cs.toArray, .agg #[.slice A N c, .slice A2 N2 c2], .agg ds.toArray] w (Ret w (.bool true)) := by
  obtain ⟨k, B, d, hk, rfl, hs⟩ := exp_open h
  obtain rfl := val_open hd
  have SF := store_f64
  have HH := Lib.hid (show ∀ W : World, Below w.heap.size w W → (kExp n).R (fun _ => True) W [.int .i64 e.op, .slice B e.kids.length d, .string ⟨e.name.toArray⟩, .int .i64 e.val.kind, .int .i64 e.val.int, .bool e.val.bool, .string ⟨e.val.text.toArray⟩, .float .f64 e.val.num] e from fun W hW => (by rw [hk]; exact exp_mk (hs.below hW)))
  have HF := Lib.hid (show ∀ W : World, Below w.heap.size w W → Sl kFld (fun _ => True) W (.slice A N c) fl from fun W hW => hf.below hW)
  have HV := Lib.hid (show ∀ W : World, Below w.heap.size w W → Sl kVal (fun _ => True) W (.slice A2 N2 c2) vs from fun W hW => hv.below hW)
  have hlf := Lib.hid hf.len.1
  have hlv := Lib.hid hv.len.1
  have hN1 := hf.len.2.1
  have hN2 := hf.len.2.2.1
  have hM1 := hv.len.2.1
  have hM2 := hv.len.2.2.1
  have B0 : Below w.heap.size w (((w.alloc (.cells #[.int .i64 e.op, .slice B e.kids.length d, .string ⟨e.name.toArray⟩, .int .i64 e.val.kind, .int .i64 e.val.int, .bool e.val.bool, .string ⟨e.val.text.toArray⟩, .float .f64 e.val.num] 27)).alloc (.cells #[.slice A N c, .slice A2 N2 c2] 31)).alloc (.cells #[.int .i64 v.kind, .int .i64 v.int, .bool v.bool, .string ⟨v.text.toArray⟩, .float .f64 v.num] 25)) := by (focus (repeat (first | with_reducible exact Below.refl _ _ | with_reducible assumption | with_reducible refine bel_al _ ?_ | with_reducible refine bel_dr ?_ | with_reducible refine bel_tr (by assumption) ?_)))
  have KK := Lib.hid (show ∀ W : World, Below (((w.alloc (.cells #[.int .i64 e.op, .slice B e.kids.length d, .string ⟨e.name.toArray⟩, .int .i64 e.val.kind, .int .i64 e.val.int, .bool e.val.bool, .string ⟨e.val.text.toArray⟩, .float .f64 e.val.num] 27)).alloc (.cells #[.slice A N c, .slice A2 N2 c2] 31)).alloc (.cells #[.int .i64 v.kind, .int .i64 v.int, .bool v.bool, .string ⟨v.text.toArray⟩, .float .f64 v.num] 25)).heap.size (((w.alloc (.cells #[.int .i64 e.op, .slice B e.kids.length d, .string ⟨e.name.toArray⟩, .int .i64 e.val.kind, .int .i64 e.val.int, .bool e.val.bool, .string ⟨e.val.text.toArray⟩, .float .f64 e.val.num] 27)).alloc (.cells #[.slice A N c, .slice A2 N2 c2] 31)).alloc (.cells #[.int .i64 v.kind, .int .i64 v.int, .bool v.bool, .string ⟨v.text.toArray⟩, .float .f64 v.num] 25)) W → W.cell? ⟨w.heap.size, 0, none⟩ = some (.int .i64 e.op) ∧ W.cell? ⟨w.heap.size, 1, none⟩ = some (.slice B e.kids.length d) ∧ W.cell? ⟨w.heap.size, 2, none⟩ = some (.string ⟨e.name.toArray⟩) ∧ W.cell? ⟨w.heap.size, 3, none⟩ = some (.int .i64 e.val.kind) ∧ W.cell? ⟨w.heap.size, 4, none⟩ = some (.int .i64 e.val.int) ∧ W.cell? ⟨w.heap.size, 5, none⟩ = some (.bool e.val.bool) ∧ W.cell? ⟨w.heap.size, 6, none⟩ = some (.string ⟨e.val.text.toArray⟩) ∧ W.cell? ⟨w.heap.size, 7, none⟩ = some (.float .f64 e.val.num) ∧ W.cell? ⟨w.heap.size + 1, 0, none⟩ = some (.slice A N c) ∧ W.cell? ⟨w.heap.size + 1, 1, none⟩ = some (.slice A2 N2 c2) ∧ W.cell? ⟨w.heap.size + 1 + 1, 0, none⟩ = some (.int .i64 v.kind) ∧ W.cell? ⟨w.heap.size + 1 + 1, 1, none⟩ = some (.int .i64 v.int) ∧ W.cell? ⟨w.heap.size + 1 + 1, 2, none⟩ = some (.bool v.bool) ∧ W.cell? ⟨w.heap.size + 1 + 1, 3, none⟩ = some (.string ⟨v.text.toArray⟩) ∧ W.cell? ⟨w.heap.size + 1 + 1, 4, none⟩ = some (.float .f64 v.num) ∧ w.heap.size + 1 + 1 < W.heap.size from fun W hW => by
    have hE : Loc1 w.heap.size 27 #[.int .i64 e.op, .slice B e.kids.length d, .string ⟨e.name.toArray⟩, .int .i64 e.val.kind, .int .i64 e.val.int, .bool e.val.bool, .string ⟨e.val.text.toArray⟩, .float .f64 e.val.num] (((w.alloc (.cells #[.int .i64 e.op, .slice B e.kids.length d, .string ⟨e.name.toArray⟩, .int .i64 e.val.kind, .int .i64 e.val.int, .bool e.val.bool, .string ⟨e.val.text.toArray⟩, .float .f64 e.val.num] 27)).alloc (.cells #[.slice A N c, .slice A2 N2 c2] 31)).alloc (.cells #[.int .i64 v.kind, .int .i64 v.int, .bool v.bool, .string ⟨v.text.toArray⟩, .float .f64 v.num] 25)) := by (focus (repeat (first | with_reducible assumption | ((with_reducible refine Loc1.newE _ _ _ ?_); (simp; done)) | with_reducible refine Loc1.al _ ?_ | with_reducible refine Loc1.dr ?_ | with_reducible refine Loc1.bel (by assumption) ?_)))
    have hS : Loc1 (w.heap.size + 1) 31 #[.slice A N c, .slice A2 N2 c2] (((w.alloc (.cells #[.int .i64 e.op, .slice B e.kids.length d, .string ⟨e.name.toArray⟩, .int .i64 e.val.kind, .int .i64 e.val.int, .bool e.val.bool, .string ⟨e.val.text.toArray⟩, .float .f64 e.val.num] 27)).alloc (.cells #[.slice A N c, .slice A2 N2 c2] 31)).alloc (.cells #[.int .i64 v.kind, .int .i64 v.int, .bool v.bool, .string ⟨v.text.toArray⟩, .float .f64 v.num] 25)) := by (focus (repeat (first | with_reducible assumption | ((with_reducible refine Loc1.newE _ _ _ ?_); (simp; done)) | with_reducible refine Loc1.al _ ?_ | with_reducible refine Loc1.dr ?_ | with_reducible refine Loc1.bel (by assumption) ?_)))
    have hV : Loc1 (w.heap.size + 1 + 1) 25 #[.int .i64 v.kind, .int .i64 v.int, .bool v.bool, .string ⟨v.text.toArray⟩, .float .f64 v.num] (((w.alloc (.cells #[.int .i64 e.op, .slice B e.kids.length d, .string ⟨e.name.toArray⟩, .int .i64 e.val.kind, .int .i64 e.val.int, .bool e.val.bool, .string ⟨e.val.text.toArray⟩, .float .f64 e.val.num] 27)).alloc (.cells #[.slice A N c, .slice A2 N2 c2] 31)).alloc (.cells #[.int .i64 v.kind, .int .i64 v.int, .bool v.bool, .string ⟨v.text.toArray⟩, .float .f64 v.num] 25)) := by (focus (repeat (first | with_reducible assumption | ((with_reducible refine Loc1.newE _ _ _ ?_); (simp; done)) | with_reducible refine Loc1.al _ ?_ | with_reducible refine Loc1.dr ?_ | with_reducible refine Loc1.bel (by assumption) ?_)))
    exact ⟨cell_of (hE.bel hW) 0, cell_of (hE.bel hW) 1, cell_of (hE.bel hW) 2, cell_of (hE.bel hW) 3, cell_of (hE.bel hW) 4, cell_of (hE.bel hW) 5, cell_of (hE.bel hW) 6, cell_of (hE.bel hW) 7, cell_of (hS.bel hW) 0, cell_of (hS.bel hW) 1, cell_of (hV.bel hW) 0, cell_of (hV.bel hW) 1, cell_of (hV.bel hW) 2, cell_of (hV.bel hW) 3, cell_of (hV.bel hW) 4, lt_of_heap (hV.bel hW)⟩)
  clear h hf hs hv hd hk
  go_enter Try.func5, Try.ntmps5
  go_wp2_with fail
  generalize (((w.alloc (.cells #[.int .i64 e.op, .slice B e.kids.length d, .string ⟨e.name.toArray⟩, .int .i64 e.val.kind, .int .i64 e.val.int, .bool e.val.bool, .string ⟨e.val.text.toArray⟩, .float .f64 e.val.num] 27)).alloc (.cells #[.slice A N c, .slice A2 N2 c2] 31)).alloc (.cells #[.int .i64 v.kind, .int .i64 v.int, .bool v.bool, .string ⟨v.text.toArray⟩, .float .f64 v.num] 25)) = w0 at *
  obtain ⟨e0, e1, e2, e3, e4, e5, e6, e7, s0, s1, v0, v1, v2, v3, v4, hz⟩ := KK.out w0 (by (focus (repeat (first | with_reducible exact Below.refl _ _ | with_reducible assumption | with_reducible refine bel_al _ ?_ | with_reducible refine bel_dr ?_ | with_reducible refine bel_tr (by assumption) ?_))))
  go_wp2_with fail
  refine (few_c (HF.out _ (by (focus (repeat (first | with_reducible exact Below.refl _ _ | with_reducible assumption | with_reducible refine bel_al _ ?_ | with_reducible refine bel_dr ?_ | with_reducible refine bel_tr (by assumption) ?_))))) (HV.out _ (by (focus (repeat (first | with_reducible exact Below.refl _ _ | with_reducible assumption | with_reducible refine bel_al _ ?_ | with_reducible refine bel_dr ?_ | with_reducible refine bel_tr (by assumption) ?_)))))).mono ?_
  rintro x9 w1 ⟨rfl, hb1⟩
  clear e0 e1 e2 e3 e4 e5 e6 e7 s0 s1 v0 v1 v2 v3 v4 hz
  obtain ⟨e0, e1, e2, e3, e4, e5, e6, e7, s0, s1, v0, v1, v2, v3, v4, hz⟩ := KK.out w1 (by (focus (repeat (first | with_reducible exact Below.refl _ _ | with_reducible assumption | with_reducible refine bel_al _ ?_ | with_reducible refine bel_dr ?_ | with_reducible refine bel_tr (by assumption) ?_))))
  have HFW := Lib.hid (show fewS fl vs = true → fl.length ≤ 20 ∧ vs.length ≤ 20 from fun hh => by unfold fewS at hh; simp only [Bool.and_eq_true, decide_eq_true_eq] at hh; exact hh.1)
  cases hfw : fewS fl vs
  · go_wp2_with fail
    go_ret
    exact ⟨rfl, by (focus (repeat (first | with_reducible exact Below.refl _ _ | with_reducible assumption | with_reducible refine bel_al _ ?_ | with_reducible refine bel_dr ?_ | with_reducible refine bel_tr (by assumption) ?_)))⟩
  by_cases ht : (v.text.length : Int) > 200
  · go_wp2_with fail
    go_ret
    exact ⟨rfl, by (focus (repeat (first | with_reducible exact Below.refl _ _ | with_reducible assumption | with_reducible refine bel_al _ ?_ | with_reducible refine bel_dr ?_ | with_reducible refine bel_tr (by assumption) ?_)))⟩
  by_cases hn : (N : Int) = 20
  · have hn' : ((N : Int) == 20) = true := by simpa using hn
    clear hn
    go_wp2_with fail
    go_ret
    exact ⟨rfl, by (focus (repeat (first | with_reducible exact Below.refl _ _ | with_reducible assumption | with_reducible refine bel_al _ ?_ | with_reducible refine bel_dr ?_ | with_reducible refine bel_tr (by assumption) ?_)))⟩
  have hn' : ((N : Int) == 20) = false := by simpa using hn
  have hlen := Lib.hid (show fl.length ≤ 19 ∧ vs.length ≤ 20 ∧ fl.length = N ∧ vs.length = N2 by have h1 := HFW.out hfw; have h2 := hlf.out; have h3 := hlv.out; omega)
  clear hn HFW
  go_wp2_with fail
  generalize her : evalR fl vs n e = er
  obtain ⟨va, x⟩ := er
  refine (evL_c her (HH.out _ (by (focus (repeat (first | with_reducible exact Below.refl _ _ | with_reducible assumption | with_reducible refine bel_al _ ?_ | with_reducible refine bel_dr ?_ | with_reducible refine bel_tr (by assumption) ?_))))) (HF.out _ (by (focus (repeat (first | with_reducible exact Below.refl _ _ | with_reducible assumption | with_reducible refine bel_al _ ?_ | with_reducible refine bel_dr ?_ | with_reducible refine bel_tr (by assumption) ?_))))) (HV.out _ (by (focus (repeat (first | with_reducible exact Below.refl _ _ | with_reducible assumption | with_reducible refine bel_al _ ?_ | with_reducible refine bel_dr ?_ | with_reducible refine bel_tr (by assumption) ?_)))))).mono ?_
  rintro x9 w2 ⟨rfl, hb2⟩
  have HL := Lib.hid (fun (nm : List UInt8) (hg : goodV v = true) (h1 : ¬ x = 1) (hu : small e = true → usE nm n e = false) => (show evalR (fl ++ [(⟨nm, v.kind, [], zeroV⟩ : Fld)]) (vs ++ [v]) n e = (va, x) by rw [fields_law (f := (⟨nm, v.kind, [], zeroV⟩ : Fld)) hg rfl (by rw [her]; exact h1) hu, her]))
  clear her
  clear e0 e1 e2 e3 e4 e5 e6 e7 s0 s1 v0 v1 v2 v3 v4 hz
  obtain ⟨e0, e1, e2, e3, e4, e5, e6, e7, s0, s1, v0, v1, v2, v3, v4, hz⟩ := KK.out w2 (by (focus (repeat (first | with_reducible exact Below.refl _ _ | with_reducible assumption | with_reducible refine bel_al _ ?_ | with_reducible refine bel_dr ?_ | with_reducible refine bel_tr (by assumption) ?_))))
  clear hfw ht hn'
  go_upto_region 5 with (fail)
  generalize ([97, 32, 110, 97, 109, 101, 32, 116, 104, 97, 116, 32, 105, 115, 32, 98, 101, 121, 111, 110, 100, 32, 115, 105, 120, 116, 101, 101, 110, 32, 98, 121, 116, 101, 115].append [44, 32, 97, 110, 100, 32, 105, 110, 32, 110, 111, 32, 101, 120, 112, 114, 101, 115, 115, 105, 111, 110, 32, 116, 104, 97, 116, 32, 105, 115, 32, 114, 101, 97, 100] : List UInt8) = nm at *
  have hb3 : Below w2.heap.size w2 (w2.alloc (.cells #[.int .i64 va.kind, .int .i64 va.int, .bool va.bool, .string ⟨va.text.toArray⟩, .float .f64 va.num] 25)) := by (focus (repeat (first | with_reducible exact Below.refl _ _ | with_reducible assumption | with_reducible refine bel_al _ ?_ | with_reducible refine bel_dr ?_ | with_reducible refine bel_tr (by assumption) ?_)))
  have KA := Lib.hid (show ∀ W : World, Below (w2.alloc (.cells #[.int .i64 va.kind, .int .i64 va.int, .bool va.bool, .string ⟨va.text.toArray⟩, .float .f64 va.num] 25)).heap.size (w2.alloc (.cells #[.int .i64 va.kind, .int .i64 va.int, .bool va.bool, .string ⟨va.text.toArray⟩, .float .f64 va.num] 25)) W → W.cell? ⟨w2.heap.size, 0, none⟩ = some (.int .i64 va.kind) ∧ W.cell? ⟨w2.heap.size, 1, none⟩ = some (.int .i64 va.int) ∧ W.cell? ⟨w2.heap.size, 2, none⟩ = some (.bool va.bool) ∧ W.cell? ⟨w2.heap.size, 3, none⟩ = some (.string ⟨va.text.toArray⟩) ∧ W.cell? ⟨w2.heap.size, 4, none⟩ = some (.float .f64 va.num) ∧ w2.heap.size < W.heap.size from fun W hW => by
    have hV : Loc1 w2.heap.size 25 #[.int .i64 va.kind, .int .i64 va.int, .bool va.bool, .string ⟨va.text.toArray⟩, .float .f64 va.num] (w2.alloc (.cells #[.int .i64 va.kind, .int .i64 va.int, .bool va.bool, .string ⟨va.text.toArray⟩, .float .f64 va.num] 25)) := by (focus (repeat (first | with_reducible assumption | ((with_reducible refine Loc1.newE _ _ _ ?_); (simp; done)) | with_reducible refine Loc1.al _ ?_ | with_reducible refine Loc1.dr ?_ | with_reducible refine Loc1.bel (by assumption) ?_)))
    exact ⟨cell_of (hV.bel hW) 0, cell_of (hV.bel hW) 1, cell_of (hV.bel hW) 2, cell_of (hV.bel hW) 3, cell_of (hV.bel hW) 4, lt_of_heap (hV.bel hW)⟩)
  generalize (w2.alloc (.cells #[.int .i64 va.kind, .int .i64 va.int, .bool va.bool, .string ⟨va.text.toArray⟩, .float .f64 va.num] 25)) = w3 at *
  clear e0 e1 e2 e3 e4 e5 e6 e7 s0 s1 v0 v1 v2 v3 v4 hz
  obtain ⟨e0, e1, e2, e3, e4, e5, e6, e7, s0, s1, v0, v1, v2, v3, v4, hz⟩ := KK.out w3 (by (focus (repeat (first | with_reducible exact Below.refl _ _ | with_reducible assumption | with_reducible refine bel_al _ ?_ | with_reducible refine bel_dr ?_ | with_reducible refine bel_tr (by assumption) ?_))))
  have HN := Lib.hid (HL.out nm)
  clear HL
  go_cut [53] from 38 to 52 (fun s W => ∃ b, s = .bool b ∧ (b = false → evalR (fl ++ [(⟨nm, v.kind, [], zeroV⟩ : Fld)]) (vs ++ [v]) n e = (va, x)) ∧ Below w3.heap.size w3 W)
  case first =>
    go_wp2_with fail
    refine (good4_c v).mono ?_
    rintro x9 w4 ⟨rfl, hb4⟩
    clear e0 e1 e2 e3 e4 e5 e6 e7 s0 s1 v0 v1 v2 v3 v4 hz
    obtain ⟨e0, e1, e2, e3, e4, e5, e6, e7, s0, s1, v0, v1, v2, v3, v4, hz⟩ := KK.out w4 (by (focus (repeat (first | with_reducible exact Below.refl _ _ | with_reducible assumption | with_reducible refine bel_al _ ?_ | with_reducible refine bel_dr ?_ | with_reducible refine bel_tr (by assumption) ?_))))
    cases hg : goodV v
    · go_wp2_with fail
      go_meet
      case rel => exact ⟨true, rfl, (fun h => by cases h), by (focus (repeat (first | with_reducible exact Below.refl _ _ | with_reducible assumption | with_reducible refine bel_al _ ?_ | with_reducible refine bel_dr ?_ | with_reducible refine bel_tr (by assumption) ?_)))⟩
    by_cases hx : x = 1
    · subst hx
      go_wp2_with fail
      go_meet
      case rel => exact ⟨true, rfl, (fun h => by cases h), by (focus (repeat (first | with_reducible exact Below.refl _ _ | with_reducible assumption | with_reducible refine bel_al _ ?_ | with_reducible refine bel_dr ?_ | with_reducible refine bel_tr (by assumption) ?_)))⟩
    have hx' : (x == 1) = false := by simpa using hx
    go_wp2_with fail
    refine (small4_c (HH.out _ (by (focus (repeat (first | with_reducible exact Below.refl _ _ | with_reducible assumption | with_reducible refine bel_al _ ?_ | with_reducible refine bel_dr ?_ | with_reducible refine bel_tr (by assumption) ?_)))))).mono ?_
    rintro x9 w5 ⟨rfl, hb5⟩
    clear e0 e1 e2 e3 e4 e5 e6 e7 s0 s1 v0 v1 v2 v3 v4 hz
    obtain ⟨e0, e1, e2, e3, e4, e5, e6, e7, s0, s1, v0, v1, v2, v3, v4, hz⟩ := KK.out w5 (by (focus (repeat (first | with_reducible exact Below.refl _ _ | with_reducible assumption | with_reducible refine bel_al _ ?_ | with_reducible refine bel_dr ?_ | with_reducible refine bel_tr (by assumption) ?_))))
    cases hs : small e
    · have HE := Lib.hid (HN.out hg hx (fun h => by rw [hs] at h; cases h))
      go_wp2_with fail
      go_meet
      case rel => exact ⟨false, rfl, (fun h => HE.out), by (focus (repeat (first | with_reducible exact Below.refl _ _ | with_reducible assumption | with_reducible refine bel_al _ ?_ | with_reducible refine bel_dr ?_ | with_reducible refine bel_tr (by assumption) ?_)))⟩
    go_wp2_with fail
    refine (uses_c nm n _ _ e (HH.out _ (by (focus (repeat (first | with_reducible exact Below.refl _ _ | with_reducible assumption | with_reducible refine bel_al _ ?_ | with_reducible refine bel_dr ?_ | with_reducible refine bel_tr (by assumption) ?_)))))).mono ?_
    rintro x9 w6 ⟨rfl, hb6⟩
    cases hu : usE nm n e
    · have HE := Lib.hid (HN.out hg hx (fun _ => hu))
      go_wp2_with fail
      go_meet
      case rel => exact ⟨false, rfl, (fun h => HE.out), by (focus (repeat (first | with_reducible exact Below.refl _ _ | with_reducible assumption | with_reducible refine bel_al _ ?_ | with_reducible refine bel_dr ?_ | with_reducible refine bel_tr (by assumption) ?_)))⟩
    · go_wp2_with fail
      go_meet
      case rel => exact ⟨true, rfl, (fun h => by cases h), by (focus (repeat (first | with_reducible exact Below.refl _ _ | with_reducible assumption | with_reducible refine bel_al _ ?_ | with_reducible refine bel_dr ?_ | with_reducible refine bel_tr (by assumption) ?_)))⟩
  case rest =>
  obtain ⟨b, rfl, hev, hb5⟩ := hcut
  generalize hw5 : wc = w5 at *
  clear hw5
  cases b
  rotate_left
  · go_wp2_with fail
    refine awake_c.mono ?_
    rintro x9 wk ⟨rfl, hbk⟩
    go_wp2_with fail
    go_ret
    exact ⟨rfl, by (focus (repeat (first | with_reducible exact Below.refl _ _ | with_reducible assumption | with_reducible refine bel_al _ ?_ | with_reducible refine bel_dr ?_ | with_reducible refine bel_tr (by assumption) ?_)))⟩
  have HE := Lib.hid (hev rfl)
  clear hev HN
  clear e0 e1 e2 e3 e4 e5 e6 e7 s0 s1 v0 v1 v2 v3 v4 hz
  go_upto_region 7 with (fail)
  go_cut [10] from 55 to 64 (fun s W => ∃ A' n' c', s = .slice A' n' c' ∧ Sl kFld (fun _ => True) W (.slice A' n' c') (fl ++ [(⟨nm, v.kind, [], zeroV⟩ : Fld)]) ∧ Below w5.heap.size w5 W)
  case first =>
    have HSb := Lib.hid (show ∀ W : World, Below w5.heap.size w5 W → Sl kFld (fun k => k < w5.heap.size) W (.slice A N c) fl from fun W hW => (Sl.below (Sl.bound (HF.out _ (by (focus (repeat (first | with_reducible exact Below.refl _ _ | with_reducible assumption | with_reducible refine bel_al _ ?_ | with_reducible refine bel_dr ?_ | with_reducible refine bel_tr (by assumption) ?_)))))) hW).weak fun k hk => hk.2)
    have hS7 := Lib.hid (show ∀ W : World, Below w5.heap.size w5 W → W.cell? ⟨w.heap.size + 1, 0, none⟩ = some (.slice A N c) ∧ W.cell? ⟨w.heap.size + 1 + 1, 0, none⟩ = some (.int .i64 v.kind) from fun W hW => (by have := KK.out W (by (focus (repeat (first | with_reducible exact Below.refl _ _ | with_reducible assumption | with_reducible refine bel_al _ ?_ | with_reducible refine bel_dr ?_ | with_reducible refine bel_tr (by assumption) ?_)))); simp only [and_true, true_and, and_self, this]))
    go_region_held3 (fun W => W.cell? ⟨w.heap.size + 1, 0, none⟩ = some (.slice A N c) ∧ W.cell? ⟨w.heap.size + 1 + 1, 0, none⟩ = some (.int .i64 v.kind)) (exact hS7.out _ (by (focus (repeat (first | with_reducible exact Below.refl _ _ | with_reducible assumption | with_reducible refine bel_al _ ?_ | with_reducible refine bel_dr ?_ | with_reducible refine bel_tr (by assumption) ?_))))) (first
      | (refine step_append rfl (.tmp 55) (.tmp 57) 28 28 rfl rfl rfl (app_fresh (P := Try.prog) Try.underlying28 Try.underlying28 infoFld rfl (by (focus (repeat (first | with_reducible assumption | ((with_reducible refine Loc1.newE _ _ _ ?_); (simp; done)) | with_reducible refine Loc1.al _ ?_ | with_reducible refine Loc1.dr ?_ | with_reducible refine Loc1.bel (by assumption) ?_)))) (HSb.out _ (by (focus (repeat (first | with_reducible exact Below.refl _ _ | with_reducible assumption | with_reducible refine bel_al _ ?_ | with_reducible refine bel_dr ?_ | with_reducible refine bel_tr (by assumption) ?_))))) (by (simp; done)) (by have := hlen.out; omega)) ?_; rintro u1 wa ⟨ho, hB, hgr, hat⟩; have hb5 : Below w5.heap.size w5 wa := Below.trans (by (focus (repeat (first | with_reducible exact Below.refl _ _ | with_reducible assumption | with_reducible refine bel_al _ ?_ | with_reducible refine bel_dr ?_ | with_reducible refine bel_tr (by assumption) ?_)))) hB; have hz5 : w5.heap.size ≤ wa.heap.size := hb5.size
         (first
           | (have LB : Loc1 (w5.heap.size + 1) 50 #[.string ⟨nm.toArray⟩, .int .i64 v.kind, .slice none 0 0, .int .i64 0, .int .i64 0, .bool false, .string ⟨#[]⟩, .float .f64 0] wa := loc_keep hgr (show Loc1 (w5.heap.size + 1) 50 #[.string ⟨nm.toArray⟩, .int .i64 v.kind, .slice none 0 0, .int .i64 0, .int .i64 0, .bool false, .string ⟨#[]⟩, .float .f64 0] (World.drew ((w5.alloc (.cells #[] 50)).alloc (.cells #[.string ⟨nm.toArray⟩, .int .i64 v.kind, .slice none 0 0, .int .i64 0, .int .i64 0, .bool false, .string ⟨#[]⟩, .float .f64 0] 50))) from Loc1.dr (Loc1.newE _ _ _ (by simp))) (by simp)
              have LN : ∀ k, u1.ownBlock = some k → k ≠ w5.heap.size + 1 := fun k hk => (by rcases hat k hk with h | h <;> ((try simp at h); omega)))
           | (have LB : Loc1 w5.heap.size 50 #[.string ⟨nm.toArray⟩, .int .i64 v.kind, .slice none 0 0, .int .i64 0, .int .i64 0, .bool false, .string ⟨#[]⟩, .float .f64 0] wa := loc_keep hgr (show Loc1 w5.heap.size 50 #[.string ⟨nm.toArray⟩, .int .i64 v.kind, .slice none 0 0, .int .i64 0, .int .i64 0, .bool false, .string ⟨#[]⟩, .float .f64 0] (World.drew ((w5.alloc (.cells #[.string ⟨nm.toArray⟩, .int .i64 v.kind, .slice none 0 0, .int .i64 0, .int .i64 0, .bool false, .string ⟨#[]⟩, .float .f64 0] 50)).alloc (.cells #[] 50))) from Loc1.dr (Loc1.al _ (Loc1.new _ _ _))) (by simp)
              have LN : ∀ k, u1.ownBlock = some k → k ≠ w5.heap.size := fun k hk => (by rcases hat k hk with h | h <;> ((try simp at h); omega)))
           | (have LN : ∀ k, u1.ownBlock = some k → k ≠ wa.heap.size := fun k hk => (by have := (ho.lt k hk).2; omega)))
         obtain ⟨A1, n1, c1, rfl, -⟩ := ho.form'; have HO := Lib.hid ho; clear ho hat hgr hB)
      | (refine step_append rfl (.tmp 58) (.tmp 63) 28 28 rfl rfl rfl (app_box (P := Try.prog) (cs := [.string ⟨nm.toArray⟩, .int .i64 v.kind, .slice none 0 0, .int .i64 0, .int .i64 0, .bool false, .string ⟨#[]⟩, .float .f64 0]) Try.underlying28 Try.underlying28 infoFld rfl (by exact HO.out.below (by (focus (repeat (first | with_reducible exact Below.refl _ _ | with_reducible assumption | with_reducible refine bel_al _ ?_ | with_reducible refine bel_dr ?_ | with_reducible refine bel_tr (by assumption) ?_))))) (by (focus (repeat (first | with_reducible assumption | ((with_reducible refine Loc1.newE _ _ _ ?_); (simp; done)) | with_reducible refine Loc1.al _ ?_ | with_reducible refine Loc1.dr ?_ | with_reducible refine Loc1.bel (by assumption) ?_)))) (fun ok => fld_mk (f := (⟨nm, v.kind, [], zeroV⟩ : Fld)) (Sl.nil _ _ _)) (by exact LN) (by have := hlen.out; (try simp only [World.size_alloc, World.size_drew]); omega)) ?_; rintro u2 wb ⟨ho, hB⟩; obtain ⟨A2', n2', c2', rfl, -⟩ := ho.form'; have hb6 : Below w5.heap.size w5 wb := Below.trans (by (focus (repeat (first | with_reducible exact Below.refl _ _ | with_reducible assumption | with_reducible refine bel_al _ ?_ | with_reducible refine bel_dr ?_ | with_reducible refine bel_tr (by assumption) ?_)))) hB))
    all_goals (simp only [Exit.then]; apply_assumption; go_meet)
    all_goals exact ⟨_, _, _, rfl, ho.sl (fun _ _ => trivial), hb6⟩
  case rest =>
  obtain ⟨A6, n6, c6, rfl, hsF, hb6⟩ := hcut
  have HF2 := Lib.hid (show ∀ W : World, Below wc.heap.size wc W → Sl kFld (fun _ => True) W (.slice A6 n6 c6) (fl ++ [(⟨nm, v.kind, [], zeroV⟩ : Fld)]) from fun W hW => hsF.below hW)
  clear hsF
  generalize hw6 : wc = w6 at *
  clear hw6
  go_upto_region 8 with (fail)
  go_cut [11] from 65 to 71 (fun s W => ∃ A' n' c', s = .slice A' n' c' ∧ Sl kVal (fun _ => True) W (.slice A' n' c') (vs ++ [v]) ∧ Below w6.heap.size w6 W)
  case first =>
    have HSb := Lib.hid (show ∀ W : World, Below w6.heap.size w6 W → Sl kVal (fun k => k < w6.heap.size) W (.slice A2 N2 c2) vs from fun W hW => (Sl.below (Sl.bound (HV.out _ (by (focus (repeat (first | with_reducible exact Below.refl _ _ | with_reducible assumption | with_reducible refine bel_al _ ?_ | with_reducible refine bel_dr ?_ | with_reducible refine bel_tr (by assumption) ?_)))))) hW).weak fun k hk => hk.2)
    have hS7 := Lib.hid (show ∀ W : World, Below w6.heap.size w6 W → W.cell? ⟨w.heap.size + 1, 1, none⟩ = some (.slice A2 N2 c2) ∧ W.cell? ⟨w.heap.size + 1 + 1, 0, none⟩ = some (.int .i64 v.kind) ∧ W.cell? ⟨w.heap.size + 1 + 1, 1, none⟩ = some (.int .i64 v.int) ∧ W.cell? ⟨w.heap.size + 1 + 1, 2, none⟩ = some (.bool v.bool) ∧ W.cell? ⟨w.heap.size + 1 + 1, 3, none⟩ = some (.string ⟨v.text.toArray⟩) ∧ W.cell? ⟨w.heap.size + 1 + 1, 4, none⟩ = some (.float .f64 v.num) from fun W hW => (by have := KK.out W (by (focus (repeat (first | with_reducible exact Below.refl _ _ | with_reducible assumption | with_reducible refine bel_al _ ?_ | with_reducible refine bel_dr ?_ | with_reducible refine bel_tr (by assumption) ?_)))); simp only [and_true, true_and, and_self, this]))
    go_region_held3 (fun W => W.cell? ⟨w.heap.size + 1, 1, none⟩ = some (.slice A2 N2 c2) ∧ W.cell? ⟨w.heap.size + 1 + 1, 0, none⟩ = some (.int .i64 v.kind) ∧ W.cell? ⟨w.heap.size + 1 + 1, 1, none⟩ = some (.int .i64 v.int) ∧ W.cell? ⟨w.heap.size + 1 + 1, 2, none⟩ = some (.bool v.bool) ∧ W.cell? ⟨w.heap.size + 1 + 1, 3, none⟩ = some (.string ⟨v.text.toArray⟩) ∧ W.cell? ⟨w.heap.size + 1 + 1, 4, none⟩ = some (.float .f64 v.num)) (exact hS7.out _ (by (focus (repeat (first | with_reducible exact Below.refl _ _ | with_reducible assumption | with_reducible refine bel_al _ ?_ | with_reducible refine bel_dr ?_ | with_reducible refine bel_tr (by assumption) ?_))))) (first
      | (refine step_append rfl (.tmp 65) (.tmp 67) 29 29 rfl rfl rfl (app_fresh (P := Try.prog) Try.underlying29 Try.underlying29 infoVal rfl (by (focus (repeat (first | with_reducible assumption | ((with_reducible refine Loc1.newE _ _ _ ?_); (simp; done)) | with_reducible refine Loc1.al _ ?_ | with_reducible refine Loc1.dr ?_ | with_reducible refine Loc1.bel (by assumption) ?_)))) (HSb.out _ (by (focus (repeat (first | with_reducible exact Below.refl _ _ | with_reducible assumption | with_reducible refine bel_al _ ?_ | with_reducible refine bel_dr ?_ | with_reducible refine bel_tr (by assumption) ?_))))) (by (simp; done)) (by have := hlen.out; omega)) ?_; rintro u1 wa ⟨ho, hB, hgr, hat⟩; have hb5 : Below w6.heap.size w6 wa := Below.trans (by (focus (repeat (first | with_reducible exact Below.refl _ _ | with_reducible assumption | with_reducible refine bel_al _ ?_ | with_reducible refine bel_dr ?_ | with_reducible refine bel_tr (by assumption) ?_)))) hB; have hz5 : w6.heap.size ≤ wa.heap.size := hb5.size
         (first
           | (have LB : Loc1 (w6.heap.size + 1) 25 #[.int .i64 v.kind, .int .i64 v.int, .bool v.bool, .string ⟨v.text.toArray⟩, .float .f64 v.num] wa := loc_keep hgr (show Loc1 (w6.heap.size + 1) 25 #[.int .i64 v.kind, .int .i64 v.int, .bool v.bool, .string ⟨v.text.toArray⟩, .float .f64 v.num] (World.drew ((w6.alloc (.cells #[] 25)).alloc (.cells #[.int .i64 v.kind, .int .i64 v.int, .bool v.bool, .string ⟨v.text.toArray⟩, .float .f64 v.num] 25))) from Loc1.dr (Loc1.newE _ _ _ (by simp))) (by simp)
              have LN : ∀ k, u1.ownBlock = some k → k ≠ w6.heap.size + 1 := fun k hk => (by rcases hat k hk with h | h <;> ((try simp at h); omega)))
           | (have LB : Loc1 w6.heap.size 25 #[.int .i64 v.kind, .int .i64 v.int, .bool v.bool, .string ⟨v.text.toArray⟩, .float .f64 v.num] wa := loc_keep hgr (show Loc1 w6.heap.size 25 #[.int .i64 v.kind, .int .i64 v.int, .bool v.bool, .string ⟨v.text.toArray⟩, .float .f64 v.num] (World.drew ((w6.alloc (.cells #[.int .i64 v.kind, .int .i64 v.int, .bool v.bool, .string ⟨v.text.toArray⟩, .float .f64 v.num] 25)).alloc (.cells #[] 25))) from Loc1.dr (Loc1.al _ (Loc1.new _ _ _))) (by simp)
              have LN : ∀ k, u1.ownBlock = some k → k ≠ w6.heap.size := fun k hk => (by rcases hat k hk with h | h <;> ((try simp at h); omega)))
           | (have LN : ∀ k, u1.ownBlock = some k → k ≠ wa.heap.size := fun k hk => (by have := (ho.lt k hk).2; omega)))
         obtain ⟨A1, n1, c1, rfl, -⟩ := ho.form'; have HO := Lib.hid ho; clear ho hat hgr hB)
      | (refine step_append rfl (.tmp 68) (.tmp 70) 29 29 rfl rfl rfl (app_box (P := Try.prog) (cs := [.int .i64 v.kind, .int .i64 v.int, .bool v.bool, .string ⟨v.text.toArray⟩, .float .f64 v.num]) Try.underlying29 Try.underlying29 infoVal rfl (by exact HO.out.below (by (focus (repeat (first | with_reducible exact Below.refl _ _ | with_reducible assumption | with_reducible refine bel_al _ ?_ | with_reducible refine bel_dr ?_ | with_reducible refine bel_tr (by assumption) ?_))))) (by (focus (repeat (first | with_reducible assumption | ((with_reducible refine Loc1.newE _ _ _ ?_); (simp; done)) | with_reducible refine Loc1.al _ ?_ | with_reducible refine Loc1.dr ?_ | with_reducible refine Loc1.bel (by assumption) ?_)))) (fun ok => val_mk _ _ v) (by exact LN) (by have := hlen.out; (try simp only [World.size_alloc, World.size_drew]); omega)) ?_; rintro u2 wb ⟨ho, hB⟩; obtain ⟨A2', n2', c2', rfl, -⟩ := ho.form'; have hb6 : Below w6.heap.size w6 wb := Below.trans (by (focus (repeat (first | with_reducible exact Below.refl _ _ | with_reducible assumption | with_reducible refine bel_al _ ?_ | with_reducible refine bel_dr ?_ | with_reducible refine bel_tr (by assumption) ?_)))) hB))
    all_goals (simp only [Exit.then]; apply_assumption; go_meet)
    all_goals exact ⟨_, _, _, rfl, ho.sl (fun _ _ => trivial), hb6⟩
  case rest =>
  obtain ⟨A7, n7, c7, rfl, hsV, hb7⟩ := hcut
  have HV2 := Lib.hid (show ∀ W : World, Below wc.heap.size wc W → Sl kVal (fun _ => True) W (.slice A7 n7 c7) (vs ++ [v]) from fun W hW => hsV.below hW)
  clear hsV
  generalize hw7 : wc = w7 at *
  clear hw7
  obtain ⟨e0, e1, e2, e3, e4, e5, e6, e7, s0, s1, v0, v1, v2, v3, v4, hz⟩ := KK.out w7 (by (focus (repeat (first | with_reducible exact Below.refl _ _ | with_reducible assumption | with_reducible refine bel_al _ ?_ | with_reducible refine bel_dr ?_ | with_reducible refine bel_tr (by assumption) ?_))))
  go_wp2_with fail
  refine (evL_c HE.out (HH.out _ (by (focus (repeat (first | with_reducible exact Below.refl _ _ | with_reducible assumption | with_reducible refine bel_al _ ?_ | with_reducible refine bel_dr ?_ | with_reducible refine bel_tr (by assumption) ?_))))) (HF2.out _ (by (focus (repeat (first | with_reducible exact Below.refl _ _ | with_reducible assumption | with_reducible refine bel_al _ ?_ | with_reducible refine bel_dr ?_ | with_reducible refine bel_tr (by assumption) ?_))))) (HV2.out _ (by (focus (repeat (first | with_reducible exact Below.refl _ _ | with_reducible assumption | with_reducible refine bel_al _ ?_ | with_reducible refine bel_dr ?_ | with_reducible refine bel_tr (by assumption) ?_)))))).mono ?_
  rintro x9 w8 ⟨rfl, hb8⟩
  clear e0 e1 e2 e3 e4 e5 e6 e7 s0 s1 v0 v1 v2 v3 v4 hz
  obtain ⟨e0, e1, e2, e3, e4, e5, e6, e7, s0, s1, v0, v1, v2, v3, v4, hz⟩ := KK.out w8 (by (focus (repeat (first | with_reducible exact Below.refl _ _ | with_reducible assumption | with_reducible refine bel_al _ ?_ | with_reducible refine bel_dr ?_ | with_reducible refine bel_tr (by assumption) ?_))))
  obtain ⟨a0, a1, a2, a3, a4, ha⟩ := KA.out w8 (by (focus (repeat (first | with_reducible exact Below.refl _ _ | with_reducible assumption | with_reducible refine bel_al _ ?_ | with_reducible refine bel_dr ?_ | with_reducible refine bel_tr (by assumption) ?_))))
  have hzz := hb8.size
  go_upto_region 10 with (fail)
  have hb9 : Below w8.heap.size w8 (w8.alloc (.cells #[.int .i64 va.kind, .int .i64 va.int, .bool va.bool, .string ⟨va.text.toArray⟩, .float .f64 va.num] 25)) := by (focus (repeat (first | with_reducible exact Below.refl _ _ | with_reducible assumption | with_reducible refine bel_al _ ?_ | with_reducible refine bel_dr ?_ | with_reducible refine bel_tr (by assumption) ?_)))
  have hV : Loc1 w8.heap.size 25 #[.int .i64 va.kind, .int .i64 va.int, .bool va.bool, .string ⟨va.text.toArray⟩, .float .f64 va.num] (w8.alloc (.cells #[.int .i64 va.kind, .int .i64 va.int, .bool va.bool, .string ⟨va.text.toArray⟩, .float .f64 va.num] 25)) := by (focus (repeat (first | with_reducible assumption | ((with_reducible refine Loc1.newE _ _ _ ?_); (simp; done)) | with_reducible refine Loc1.al _ ?_ | with_reducible refine Loc1.dr ?_ | with_reducible refine Loc1.bel (by assumption) ?_)))
  generalize (w8.alloc (.cells #[.int .i64 va.kind, .int .i64 va.int, .bool va.bool, .string ⟨va.text.toArray⟩, .float .f64 va.num] 25)) = w9 at *
  obtain ⟨f0, f1, f2, f3, f4⟩ := cells5 hV
  have hf := lt_of_heap hV
  clear e0 e1 e2 e3 e4 e5 e6 e7 s0 s1 v0 v1 v2 v3 v4 hz
  clear a0 a1 a2 a3 a4
  obtain ⟨a0, a1, a2, a3, a4, ha⟩ := KA.out w9 (by (focus (repeat (first | with_reducible exact Below.refl _ _ | with_reducible assumption | with_reducible refine bel_al _ ?_ | with_reducible refine bel_dr ?_ | with_reducible refine bel_tr (by assumption) ?_))))
  go_wp2_with fail
  refine (sameVV_c va).mono ?_
  rintro x9 w10 ⟨rfl, hb10⟩
  clear a0 a1 a2 a3 a4 f0 f1 f2 f3 f4
  go_wp2_with fail
  refine awake_c.mono ?_
  rintro x9 wk ⟨rfl, hbk⟩
  go_wp2_with fail
  go_ret
  exact ⟨rfl, by (focus (repeat (first | with_reducible exact Below.refl _ _ | with_reducible assumption | with_reducible refine bel_al _ ?_ | with_reducible refine bel_dr ?_ | with_reducible refine bel_tr (by assumption) ?_)))⟩
end
end Go.Proofs.Ytijlamajcdekkaa
