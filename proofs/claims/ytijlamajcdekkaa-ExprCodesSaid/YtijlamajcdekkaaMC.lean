/- Texts that go together. -/
import Derived.Test.YtijlamajcdekkaaMB
import Derived.Test.YtijlamajcdekkaaE12
import Derived.Test.YtijlamajcdekkaaMA
/- What a block holds, carried from world to world. -/
namespace Go.Proofs.Ytijlamajcdekkaa
open Go.RowKit
set_option linter.unusedVariables false
theorem Loc1.new (w : World) (t : TypeId) (cm : Array Value) : Loc1 w.heap.size t cm (w.alloc (.cells cm t)) := heap_new _ _
theorem Loc1.newE (w : World) (t : TypeId) (cm : Array Value) {g : Nat} (hg : g = w.heap.size) : Loc1 g t cm (w.alloc (.cells cm t)) := by subst hg; exact heap_new _ _
theorem Loc1.al {g : Nat} {t : TypeId} {cm : Array Value} {w : World} (o : Obj) (h : Loc1 g t cm w) : Loc1 g t cm (w.alloc o) := h.below ((Below.refl _ _).alloc (Nat.le_refl _) _)
theorem Loc1.st {g b i : Nat} {t : TypeId} {cm : Array Value} {w : World} {v : Value} (hne : g ≠ b) (h : Loc1 g t cm w) : Loc1 g t cm (w.setCell ⟨b, i, none⟩ v) := heap_set_ne' h hne i v
theorem bel_st {w W : World} {b i : Nat} {v : Value} (hb : w.heap.size ≤ b) (h : Below w.heap.size w W) : Below w.heap.size w (W.setCell ⟨b, i, none⟩ v) := below_ext_ne h (ext_set_ne (Ext.refl (fun k => k ≠ b) W) i v) hb (Nat.le_refl _)
theorem Loc1.dr {g : Nat} {t : TypeId} {cm : Array Value} {w : World} (h : Loc1 g t cm w) : Loc1 g t cm w.drew := h
theorem Loc1.bel {g : Nat} {t : TypeId} {cm : Array Value} {w w' : World} (hb : Below w.heap.size w w') (h : Loc1 g t cm w) : Loc1 g t cm w' := h.below hb
theorem bel_al {w W : World} (o : Obj) (h : Below w.heap.size w W) : Below w.heap.size w (W.alloc o) := below_alloc h (Nat.le_refl _) o
theorem bel_dr {w W : World} (h : Below w.heap.size w W) : Below w.heap.size w W.drew := h.drew
theorem bel_dn {w W : World} (n : Nat) (h : Below w.heap.size w W) : Below w.heap.size w (W.drewN n) := below_drewN h n
theorem bel_tr {w W W' : World} (hb : Below W.heap.size W W') (h : Below w.heap.size w W) : Below w.heap.size w W' := below_self h hb
/-- a row of a block of its own -/
theorem sl_row {α : Type} {d : Kd α} {ok : Nat → Prop} {w : World} {g : Nat} {t : TypeId} {cs : List Value} {xs : List α} {n : Nat} (h : Loc1 g t cs.toArray w) (hk : ok g) (hx : Rps d ok w xs cs) (hn : xs.length = n) (hmax : n ≤ maxLen) : Sl d ok w (.slice (some ⟨g, 0, none⟩) n n) xs := by
  refine ⟨_, _, n, rfl, hn, Nat.le_refl _, hmax, (fun x => nomatch x), fun i x hi => ?_⟩
  obtain ⟨c, hr, hu⟩ := hx.at_ hi
  refine ⟨_, c, rfl, hk, hr, fun j u hj => ?_⟩
  have h1 := hu j u hj
  have ha : (⟨g, 0, none⟩ : Addr).add (i * d.sz + j) = ⟨g, i * d.sz + j, none⟩ := by unfold Addr.add; split <;> simp_all
  rw [ha, cell_of h]
  simpa using h1
/-- an append, as one step of a region that draws -/
theorem step_append {P : Program} {C : Value → World → Prop} {ops : Array Oper} {o : Oper} {a : Act} {w : World} {K : Act → World → Prop} {Q : Exit → Act → World → Prop} {E : Prop} (hg : o.guard = none) (s x : Operand) (t tx : TypeId)
    (ho : o.op = .call { callee := .builtin .append, args := #[s, x], argTypes := #[t, tx] }) {vs vx : Value} (hs : a.eval s = vs) (hx : a.eval x = vx)
    (hrun : ∃ v' w', (Builtin.append_ #[t, tx] o.type #[vs, vx]).run P w = .ok v' w' ∧ C v' w') (hK : ∀ v' w', C v' w' → K (a.put o.dst v') w') : if Region.wanted o (yielded ops a.tmps) = true then Oper.wp P o a w K Q else E := by
  obtain ⟨v', w', hr, hc⟩ := hrun
  rw [if_pos (show Region.wanted o (yielded ops a.tmps) = true by simp [Region.wanted, hg])]
  unfold Oper.wp execOp
  simp only [ho, resolve, invoke, builtin, Sem.run_bind, Sem.run_pure, Result.andThen_ok, List.map_toArray, List.map_cons, List.map_nil, hs, hx, hr]
  exact hK _ _ hc
theorem loc_keep {W w' : World} {g g' : Nat} {t : TypeId} {cm : Array Value} (hgr : ∀ k, k < W.heap.size → k ≠ g → w'.heap[k]? = W.heap[k]?) (hL : Loc1 g' t cm W) (hne : g' ≠ g) : Loc1 g' t cm w' := (hgr _ (lt_of_heap hL) hne).trans hL
/-- onto a literal of nothing -/
theorem app_fresh {P : Program} {α : Type} {d : Kd α} {e t tx ty : TypeId} {W : World} {g b0 bytes : Nat} {z y : Value} {ys : List α} (ht : P.underlying t = some (.slice e)) (htx : P.underlying tx = some (.slice e)) (hi : (P.info? e).map (fun i => (i.zero, i.size, i.bytes)) = some (some z, d.sz, bytes)) (hzs : z.cells.size = d.sz)
    (hL : Loc1 g e #[] W) (hy : Sl d (fun k => k < b0) W y ys) (hb0 : b0 ≤ g) (hb : ys.length ≤ 100 ∧ bytes ≤ 100) :
    ∃ v' w', (Builtin.append_ #[t, tx] ty #[.slice (some ⟨g, 0, none⟩) 0 0, y]).run P W = .ok v' w' ∧ (Own d e (fun _ => True) w' b0 v' ys ∧ Below b0 W w' ∧ (∀ k, k < W.heap.size → k ≠ g → w'.heap[k]? = W.heap[k]?) ∧ ∀ k, v'.ownBlock = some k → k = g ∨ k = W.heap.size) := by
  obtain ⟨i0, hi0, hz0, hz1, hz2⟩ := info_parts hi
  have hg := lt_of_heap hL
  have h : Own d e (fun _ => True) W g (.slice (some ⟨g, 0, none⟩) 0 0) ([] : List α) :=
    ⟨[], ⟨by simp, .inr ⟨g, 0, #[], rfl, Nat.le_refl _, hL, Nat.le_refl _, Nat.zero_le _, by simp, by simp⟩⟩, rfl⟩
  obtain ⟨news, hn, hs⟩ := hy.src (P := P) htx
  have hmul : (0 + ys.length) * bytes ≤ 100 * 100 := Nat.mul_le_mul (by omega) hb.2
  obtain ⟨v', w', a, b, c, hat⟩ := run_append_own (ty := ty) (P := P) ht hi0 hz0 hz1 hz2 hzs h (Nat.le_of_lt hg) (hn.weak fun k hk => ⟨trivial, fun x => by injection x with x; have x : k = g := x; omega⟩) hs (by simp only [List.length_nil]; omega) (by simp only [List.length_nil]; omega)
  refine ⟨v', w', a, b.lower hb0, below_grown (Below.refl _ _) h hb0 (by omega) c, fun k hk hne => c.block k hk (by simpa [Value.ownBlock] using hne), fun k hk => ?_⟩
  rcases hat with hat | hat
  · rw [hat] at hk; exact .inl (by simpa [Value.ownBlock] using hk.symm)
  · rw [hat] at hk; exact .inr (by injection hk with hk; exact hk.symm)
/-- one more -/
theorem app_box {P : Program} {α : Type} {d : Kd α} {e t tx ty : TypeId} {W : World} {g b0 bytes : Nat} {z v : Value} {xs : List α} {x : α} {cs : List Value} (ht : P.underlying t = some (.slice e)) (htx : P.underlying tx = some (.slice e)) (hi : (P.info? e).map (fun i => (i.zero, i.size, i.bytes)) = some (some z, d.sz, bytes)) (hzs : z.cells.size = d.sz)
    (h : Own d e (fun _ => True) W b0 v xs) (hL : Loc1 g e cs.toArray W) (hr : ∀ ok, d.R ok W cs x) (hne : ∀ k, v.ownBlock = some k → k ≠ g) (hb : b0 ≤ W.heap.size ∧ xs.length ≤ 100 ∧ bytes ≤ 100) :
    ∃ v' w', (Builtin.append_ #[t, tx] ty #[v, .slice (some ⟨g, 0, none⟩) 1 1]).run P W = .ok v' w' ∧ (Own d e (fun _ => True) w' b0 v' (xs ++ [x]) ∧ Below b0 W w') := by
  obtain ⟨i0, hi0, hz0, hz1, hz2⟩ := info_parts hi
  have hmul : (xs.length + 1) * bytes ≤ 101 * 100 := Nat.mul_le_mul (by omega) hb.2.2
  obtain ⟨v', w', a, b, c, hat⟩ := run_append_own (ys := [x]) (news := cs) (y := .slice (some ⟨g, 0, none⟩) 1 1) (ty := ty) (P := P) ht hi0 hz0 hz1 hz2 hzs h hb.1 (Rps.single (hr _)) (Src.ofSlice _ htx _ 1 1 cs (by rw [d.len (hr fun _ => True), Nat.one_mul]) (fun j u hu => by
    have ha : (⟨g, 0, none⟩ : Addr).add j = ⟨g, j, none⟩ := by unfold Addr.add; split <;> simp_all
    rw [ha, cell_of hL, ← hu]; simp) (d.one (hr fun _ => True))) (by simp only [List.length_singleton]; omega) (by simp only [List.length_singleton]; omega)
  exact ⟨v', w', a, b, below_grown (Below.refl _ _) h (Nat.le_refl _) hb.1 c⟩
/-- searched where it is used -/
theorem bW {n : Nat} {w W : World} (h : Below n w W := by (focus (repeat (first | with_reducible exact Below.refl _ _ | with_reducible assumption | with_reducible refine bel_al _ ?_ | with_reducible refine bel_dr ?_ | with_reducible refine bel_dn _ ?_ | with_reducible refine bel_tr (by assumption) ?_)))) : Below n w W := h
end Go.Proofs.Ytijlamajcdekkaa

/- No kind's error is nought. -/
namespace Go.Proofs.Ytijlamajcdekkaa
open Go.RowKit
set_option linter.unusedVariables false
/-- so many stories are enough -/
def Dp : Nat → Exp → Prop
  | 0, _ => False
  | n + 1, e => ∀ x ∈ e.kids, Dp n x
theorem kR_dp : ∀ {n : Nat} {ok : Nat → Prop} {w : World} {cs : List Value} {e : Exp}, (kExp n).R ok w cs e → Dp n e
  | 0, _, _, _, _, h => h.elim
  | n + 1, _, _, _, e, h => by
    obtain ⟨k, A, c, hk, rfl, hs⟩ := exp_open h
    obtain rfl : n = k := by omega
    intro x hx
    obtain ⟨i, hi, rfl⟩ := List.getElem_of_mem hx
    obtain ⟨ad, cs', _, _, hr, _⟩ := hs.at_ (List.getElem?_eq_getElem hi)
    exact kR_dp hr
/-- no error is 0 -/
theorem ne_ite {c : Prop} [Decidable c] {a b : Except Int Int} (ha : ¬ a = .error 0) (hb : ¬ b = .error 0) : ¬ (if c then a else b) = .error 0 := by split <;> assumption
theorem ne_err {x : Int} (h : ¬ x = 0) : ¬ (.error x : Except Int Int) = .error 0 := fun e => by injection e with e; exact h e
theorem ne_ok {x : Int} : ¬ (.ok x : Except Int Int) = .error 0 := fun e => by cases e
theorem kind3_err (fl : List Fld) (e : Exp) (a0 a1 a2 : Int) : ¬ kind3 fl e a0 a1 a2 = .error 0 := by
  unfold kind3
  repeat' first
    | exact ne_err (by decide)
    | exact ne_ok
    | apply ne_ite
  split
  · exact ne_ite ne_ok (ne_err (by decide))
  · exact ne_err (by decide)
theorem manyK_err0 {p : Exp → Except Int Int} : ∀ {l : List Exp}, (∀ x ∈ l, ¬ p x = .error 0) → ¬ manyK p l = .error 0
  | [], _, h => by cases h
  | x :: l, hp, h => by
    rw [manyK] at h
    cases hx : p x with
    | error y =>
      rw [hx] at h
      have h : Except.error y = .error 0 := h
      injection h with h
      subst h
      exact hp x (by simp) hx
    | ok k =>
      rw [hx] at h
      simp only at h
      cases hl : manyK p l with
      | error y =>
        rw [hl] at h
        have h : Except.error y = .error 0 := h
        injection h with h
        subst h
        exact manyK_err0 (fun z hz => hp z (by simp [hz])) hl
      | ok ks => rw [hl] at h; cases h
theorem kE_err {fl : List Fld} : ∀ (n : Nat) (e : Exp), Dp n e → ¬ kE fl n e = .error 0
  | 0, _, h, _ => h
  | n + 1, e, hd, h => by
    rw [kE] at h
    cases hm : manyK (kE fl n) e.kids with
    | error x =>
      rw [hm] at h
      have h : Except.error x = .error 0 := h
      injection h with h
      subst h
      exact manyK_err0 (fun x hx => kE_err n x (hd x hx)) hm
    | ok ks => rw [hm] at h; exact kind3_err _ _ _ _ _ h
end Go.Proofs.Ytijlamajcdekkaa

/- Package expr, walked: Check. -/
namespace Go.Proofs.Ytijlamajcdekkaa
open Go.RowKit
set_option linter.unusedVariables false
/-- an expression's kind and 0; or 0 and the error -/
def chkE (fl : List Fld) (n : Nat) (e : Exp) : Int × Int := if small e then match kE fl n e with | .ok k => (k, 0) | .error x => (0, x) else (0, 51)
set_option maxRecDepth 20000 in
theorem leaves_caught {fn : Func} {tmps : Array Value} {R : Ending → World → Prop} {p : Addr} {x err : Int} {w : World} {v : Value} (hc : w.cell? p = some (.int .i64 x)) (hz : w.frozen? p = false)
    (hv : (results fn tmps).run Try.prog (w.setCell p (.int .i64 err)) = .ok v (w.setCell p (.int .i64 err))) (hR : R (.returned v) (w.setCell p (.int .i64 err))) :
    Leaves Try.prog fn tmps R [{ target := .fn (.func 30) #[], args := #[.pointer (some p)] }] (.panicking [{ v := .iface 89 (.int .i64 err), recovered := false }]) w := by
  refine leaves_cons (f := 30) (args := #[.pointer (some p)]) (by simp) (by simp [invoke, go_sem]) (CallsD.mono (caught_bad p x err [] w hc hz) ?_)
  rintro e u' w' ⟨rfl, rfl, rfl⟩
  exact ⟨v, hv, hR⟩
set_option maxRecDepth 20000 in
theorem leaves_idle {fn : Func} {tmps : Array Value} {R : Ending → World → Prop} {p : Addr} {w : World} {v : Value}
    (hv : (results fn tmps).run Try.prog w = .ok v w) (hR : R (.returned v) w) :
    Leaves Try.prog fn tmps R [{ target := .fn (.func 30) #[], args := #[.pointer (some p)] }] .returning w := by
  refine leaves_cons (f := 30) (args := #[.pointer (some p)]) (by simp) (by simp [invoke, go_sem]) (CallsD.mono (caught_idle p w) ?_)
  rintro e u' w' ⟨rfl, rfl, rfl⟩
  exact ⟨v, hv, hR⟩
section
variable {w : World}
set_option maxRecDepth 20000 in
theorem check_c {A : Option Addr} {N c : Nat} {fl : List Fld} {n : Nat} {cs : List Value} {e : Exp} (h : (kExp n).R (fun _ => True) w cs e) (hf : Sl kFld (fun _ => True) w (.slice A N c) fl) :
    Calls Try.prog 9 #[.agg cs.toArray, .slice A N c] w (Ret w (.tuple #[.int .i64 (chkE fl n e).1, .int .i64 (chkE fl n e).2])) := by
  obtain ⟨k, B, d, hk, rfl, hs⟩ := exp_open h
  have SF := store_f64
  have B0 := Lib.hid (show Below w.heap.size w ((w.alloc (.cells #[.int .i64 e.op, .slice B e.kids.length d, .string ⟨e.name.toArray⟩, .int .i64 e.val.kind, .int .i64 e.val.int, .bool e.val.bool, .string ⟨e.val.text.toArray⟩, .float .f64 e.val.num] 27)).alloc (.cells #[.int .i64 0] 33)) from ((Below.refl _ _).alloc (Nat.le_refl _) _).alloc (by simp) _)
  have L0 := Lib.hid (show Loc2 w.heap.size (w.heap.size + 1) 27 33 #[.int .i64 e.op, .slice B e.kids.length d, .string ⟨e.name.toArray⟩, .int .i64 e.val.kind, .int .i64 e.val.int, .bool e.val.bool, .string ⟨e.val.text.toArray⟩, .float .f64 e.val.num] #[.int .i64 0] ((w.alloc (.cells #[.int .i64 e.op, .slice B e.kids.length d, .string ⟨e.name.toArray⟩, .int .i64 e.val.kind, .int .i64 e.val.int, .bool e.val.bool, .string ⟨e.val.text.toArray⟩, .float .f64 e.val.num] 27)).alloc (.cells #[.int .i64 0] 33)) from
    ⟨(Below.heap_alloc _ _ _ (by simp)).trans (heap_new _ _), by have := heap_new (w.alloc (.cells #[.int .i64 e.op, .slice B e.kids.length d, .string ⟨e.name.toArray⟩, .int .i64 e.val.kind, .int .i64 e.val.int, .bool e.val.bool, .string ⟨e.val.text.toArray⟩, .float .f64 e.val.num] 27)) (.cells #[.int .i64 0] 33); simpa using this⟩)
  have HH := Lib.hid (show ∀ W : World, Below w.heap.size w W → (kExp n).R (fun _ => True) W [.int .i64 e.op, .slice B e.kids.length d, .string ⟨e.name.toArray⟩, .int .i64 e.val.kind, .int .i64 e.val.int, .bool e.val.bool, .string ⟨e.val.text.toArray⟩, .float .f64 e.val.num] e from fun W hW => (by rw [hk]; exact exp_mk (hs.below hW)))
  have HF := Lib.hid (show ∀ W : World, Below w.heap.size w W → Sl kFld (fun _ => True) W (.slice A N c) fl from fun W hW => hf.below hW)
  have E := Lib.hid (show chkE fl n e = if small e then match kE fl n e with | .ok k => (k, 0) | .error x => (0, x) else (0, 51) from rfl)
  generalize chkE fl n e = r at *
  clear h hf hs
  go_enter_defers Try.func9, Try.ntmps9
  go_wp2_with fail
  refine (small_c (HH.out _ B0.out)).mono ?_
  rintro e1 w1 ⟨rfl, hb⟩
  have B1 := Lib.hid (below_self B0.out hb)
  have L1 := Lib.hid (L0.out.below hb)
  clear hb B0 L0
  obtain ⟨e0, e1, e2, e3, e4, e5, e6, e7⟩ := cells8 L1.out.1
  cases hsm : small e
  · have E1 := Lib.hid (show r = (0, 51) by rw [E.out, hsm]; rfl)
    go_wp2_with fail
    refine (must_no 51).mono ?_
    rintro x9 w9 ⟨hbd, rfl⟩
    have hbd : x9 = .panicked [{ v := .iface 89 (.int .i64 51), recovered := false }] := hbd
    subst hbd
    go_wp2_with fail
    have q0 := cell_of L1.out.2 0
    have q1 := free_of L1.out.2 0
    simp only [List.getElem?_toArray, List.getElem?_cons_zero] at q0
    have KC := cell_of (heap_set L1.out.2 0 (.int .i64 51)) 0
    simp only [List.setIfInBounds_toArray, List.set_cons_zero, List.getElem?_toArray, List.getElem?_cons_zero] at KC
    rw [E1.out]
    exact leaves_caught (v := .tuple #[.int .i64 0, .int .i64 51]) (x := 0) q0 q1 (by simp [results, Try.results9, go_sem, KC]) ⟨rfl, below_ext_ne B1.out (ext_set_ne (Ext.refl (fun b => b ≠ w.heap.size + 1) _) 0 _) (Nat.le_succ _) (Nat.le_refl _)⟩
  · have E1 := Lib.hid (show r = match kE fl n e with | .ok k => (k, 0) | .error x => (0, x) by rw [E.out, hsm]; rfl)
    clear E
    go_wp2_with fail
    refine (must_ok 51).mono ?_
    rintro x9 w9 ⟨rfl, rfl⟩
    go_wp2_with fail
    refine (kind_c n _ _ e (HH.out _ B1.out) (HF.out _ B1.out)).mono ?_
    rintro x9 w2 ⟨hret, hb⟩
    have B2 := Lib.hid (below_self B1.out hb)
    have L2 := Lib.hid (L1.out.below hb)
    cases hr : kE fl n e with
    | error y =>
      rw [hr] at hret
      have hret : x9 = .panicked [{ v := .iface 89 (.int .i64 y), recovered := false }] := hret
      subst hret
      have E2 := Lib.hid (show r = (0, y) by rw [E1.out, hr])
      go_wp2_with fail
      have q0 := cell_of L2.out.2 0
      have q1 := free_of L2.out.2 0
      simp only [List.getElem?_toArray, List.getElem?_cons_zero] at q0
      have KC := cell_of (heap_set L2.out.2 0 (.int .i64 y)) 0
      simp only [List.setIfInBounds_toArray, List.set_cons_zero, List.getElem?_toArray, List.getElem?_cons_zero] at KC
      rw [E2.out]
      exact leaves_caught (v := .tuple #[.int .i64 0, .int .i64 y]) (x := 0) q0 q1 (by simp [results, Try.results9, go_sem, KC]) ⟨rfl, below_ext_ne B2.out (ext_set_ne (Ext.refl (fun b => b ≠ w.heap.size + 1) _) 0 _) (Nat.le_succ _) (Nat.le_refl _)⟩
    | ok k =>
      rw [hr] at hret
      have hret : x9 = .returned (.int .i64 k) := hret
      subst hret
      have E2 := Lib.hid (show r = (k, 0) by rw [E1.out, hr])
      have q0 := cell_of L2.out.2 0
      have q1 := free_of L2.out.2 0
      simp only [List.getElem?_toArray, List.getElem?_cons_zero] at q0
      go_wp2_with fail
      have KC := cell_of (heap_set L2.out.2 0 (.int .i64 0)) 0
      simp only [List.setIfInBounds_toArray, List.set_cons_zero, List.getElem?_toArray, List.getElem?_cons_zero] at KC
      rw [E2.out]
      exact leaves_idle (v := .tuple #[.int .i64 k, .int .i64 0]) (by simp [results, Try.results9, go_sem, KC]) ⟨rfl, below_ext_ne B2.out (ext_set_ne (Ext.refl (fun b => b ≠ w.heap.size + 1) _) 0 _) (Nat.le_succ _) (Nat.le_refl _)⟩
end
end Go.Proofs.Ytijlamajcdekkaa

/- The references' values, walked: Bits, Same, Good, Int, Num, Truth. -/
namespace Go.Proofs.Ytijlamajcdekkaa
open Go.RowKit
set_option linter.unusedVariables false
section
variable {w : World}
theorem bits_c (b : Nat) : Calls Try.prog 38 #[.float .f64 b] w fun e w' => e = .returned (.int .u64 (codeB b : Nat)) ∧ w = w' := by
  have FB := f64bits_run
  have E := Lib.hid (show codeB b = if nanB b then 9221120237041090561 else b from rfl)
  cases hn : nanB b
  · have hn' : (FloatKind.f64.format.order b b != some Ordering.eq) = false := hn
    go_enter Try.func38, Try.ntmps38
    go_wp2_with fail
    all_goals go_ret
    all_goals rw [E.out, hn]
    all_goals exact ⟨rfl, rfl⟩
  · have hn' : (FloatKind.f64.format.order b b != some Ordering.eq) = true := hn
    go_enter Try.func38, Try.ntmps38
    go_wp2_with fail
    all_goals go_ret
    all_goals rw [E.out, hn]
    all_goals exact ⟨rfl, rfl⟩
theorem rInt_c (n : Int) : Calls Try.prog 16 #[.int .i64 n] w (Ret w (.agg #[.int .i64 1, .int .i64 n, .bool false, .string ⟨#[]⟩, .float .f64 0])) := by
  have SF := store_f64
  go_enter Try.func16, Try.ntmps16
  go_wp2_with fail
  exact bodyPost_ret (v := .agg #[.int .i64 1, .int .i64 n, .bool false, .string ⟨#[]⟩, .float .f64 0]) (by simp [results, Try.results16, go_sem]) rfl ⟨rfl, (Below.refl _ _).alloc (Nat.le_refl _) _⟩
theorem rTruth_c (b : Bool) : Calls Try.prog 35 #[.bool b] w (Ret w (.agg #[.int .i64 2, .int .i64 0, .bool b, .string ⟨#[]⟩, .float .f64 0])) := by
  have SF := store_f64
  go_enter Try.func35, Try.ntmps35
  go_wp2_with fail
  exact bodyPost_ret (v := .agg #[.int .i64 2, .int .i64 0, .bool b, .string ⟨#[]⟩, .float .f64 0]) (by simp [results, Try.results35, go_sem]) rfl ⟨rfl, (Below.refl _ _).alloc (Nat.le_refl _) _⟩
theorem rNum_c (n : Nat) (hn : nanB n = false) : Calls Try.prog 34 #[.float .f64 n] w (Ret w (.agg #[.int .i64 4, .int .i64 0, .bool false, .string ⟨#[]⟩, .float .f64 n])) := by
  have SF := store_f64
  have hn' : (FloatKind.f64.format.order n n != some Ordering.eq) = false := hn
  go_enter Try.func34, Try.ntmps34
  go_wp2_with fail
  all_goals exact bodyPost_ret (v := .agg #[.int .i64 4, .int .i64 0, .bool false, .string ⟨#[]⟩, .float .f64 n]) (by simp [results, Try.results34, go_sem]) rfl ⟨rfl, (Below.refl _ _).alloc (Nat.le_refl _) _⟩
set_option maxRecDepth 20000 in
set_option maxHeartbeats 2000000 in
theorem same4_c (x y : Val) : Calls Try.prog 18 #[.agg #[.int .i64 x.kind, .int .i64 x.int, .bool x.bool, .string ⟨x.text.toArray⟩, .float .f64 x.num], .agg #[.int .i64 y.kind, .int .i64 y.int, .bool y.bool, .string ⟨y.text.toArray⟩, .float .f64 y.num]] w (Ret w (.bool (sameV x y))) := by
  have SF := store_f64
  have E : sameV x y = ((x.kind == y.kind && x.int == y.int && x.bool == y.bool && x.text == y.text) && (codeB x.num == codeB y.num)) := rfl
  obtain ⟨k, i, b, t, n⟩ := x
  obtain ⟨k', i', b', t', n'⟩ := y
  simp only at *
  by_cases h1 : k = k'
  · subst h1
    by_cases h2 : i = i'
    · subst h2
      by_cases h3 : b = b'
      · subst h3
        by_cases h4 : t = t'
        · subst h4
          simp only [beq_self_eq_true, Bool.true_and] at E
          replace E := Lib.hid E
          go_enter Try.func18, Try.ntmps18
          go_wp2_with fail
          go_quiet ((first | (go_at_call 38; exact quiet_left (bits_c _))))
          generalize codeB n = ca at *
          generalize codeB n' = cb at *
          go_wp2_with fail
          go_ret
          rw [E.out, show ((ca : Int) == (cb : Int)) = (ca == cb) by rw [Bool.eq_iff_iff, beq_iff_eq, beq_iff_eq]; omega]
          exact ⟨rfl, by (go_grown; try exact below_drewN (by go_grown) _)⟩
        · replace E := Lib.hid (show sameV ⟨k, i, b, t, n⟩ ⟨k, i, b, t', n'⟩ = false by rw [E, show (t == t') = false by simpa using h4]; simp)
          have h5 : (t == t') = false := by simpa using h4
          clear h4
          go_enter Try.func18, Try.ntmps18
          go_wp2_with fail
          go_quiet ((first | (go_at_call 38; exact quiet_left (bits_c _))))
          go_wp2_with fail
          go_ret
          rw [E.out]
          exact ⟨rfl, by (go_grown; try exact below_drewN (by go_grown) _)⟩
      · replace E := Lib.hid (show sameV ⟨k, i, b, t, n⟩ ⟨k, i, b', t', n'⟩ = false by rw [E, show (b == b') = false by simpa using h3]; simp)
        have h5 : (b == b') = false := by simpa using h3
        clear h3
        go_enter Try.func18, Try.ntmps18
        go_wp2_with fail
        go_quiet ((first | (go_at_call 38; exact quiet_left (bits_c _))))
        go_wp2_with fail
        go_ret
        rw [E.out]
        exact ⟨rfl, by (go_grown; try exact below_drewN (by go_grown) _)⟩
    · replace E := Lib.hid (show sameV ⟨k, i, b, t, n⟩ ⟨k, i', b', t', n'⟩ = false by rw [E, show (i == i') = false by simpa using h2]; simp)
      have h5 : (i == i') = false := by simpa using h2
      clear h2
      go_enter Try.func18, Try.ntmps18
      go_wp2_with fail
      go_quiet ((first | (go_at_call 38; exact quiet_left (bits_c _))))
      go_wp2_with fail
      go_ret
      rw [E.out]
      exact ⟨rfl, by (go_grown; try exact below_drewN (by go_grown) _)⟩
  · replace E := Lib.hid (show sameV ⟨k, i, b, t, n⟩ ⟨k', i', b', t', n'⟩ = false by rw [E, show (k == k') = false by simpa using h1]; simp)
    have h5 : (k == k') = false := by simpa using h1
    clear h1
    go_enter Try.func18, Try.ntmps18
    go_wp2_with fail
    go_quiet ((first | (go_at_call 38; exact quiet_left (bits_c _))))
    go_wp2_with fail
    go_ret
    rw [E.out]
    exact ⟨rfl, by (go_grown; try exact below_drewN (by go_grown) _)⟩
end
end Go.Proofs.Ytijlamajcdekkaa

/- The references' Good and Fit, walked. -/
namespace Go.Proofs.Ytijlamajcdekkaa
open Go.RowKit
set_option linter.unusedVariables false
set_option linter.unusedSimpArgs false
theorem codeB_0 : codeB 0 = 0 := by decide +kernel
/-- good, as the reference says it -/
theorem goodV_eq (k i : Int) (b : Bool) (t : List UInt8) (n : Nat) : goodV ⟨k, i, b, t, n⟩ =
    (decide (1 ≤ k ∧ k ≤ 4 ∧ (t.length : Int) ≤ 32) && (decide (k = 1 ∨ i = 0) && decide (k = 2 ∨ b = false) && decide (k = 3 ∨ t = [])) && decide (k = 4 ∨ codeB n = 0)) := by
  unfold goodV isK sameV partV
  rw [Bool.eq_iff_iff]
  by_cases h1 : k = 1
  · subst h1; simp [codeB_0]; grind
  · by_cases h2 : k = 2
    · subst h2; simp [codeB_0]; grind
    · by_cases h3 : k = 3
      · subst h3; simp [codeB_0]; grind
      · by_cases h4 : k = 4
        · subst h4; simp [codeB_0]; grind
        · simp [h1, h2, h3, h4, codeB_0]; omega
section
variable {w : World}
set_option maxHeartbeats 4000000 in
theorem good4_c (v : Val) : Calls Try.prog 13 #[.agg #[.int .i64 v.kind, .int .i64 v.int, .bool v.bool, .string ⟨v.text.toArray⟩, .float .f64 v.num]] w (Ret w (.bool (goodV v))) := by
  have SF := store_f64
  obtain ⟨k, i, b, t, n⟩ := v
  have E := goodV_eq k i b t n
  simp only
  by_cases hk : 1 ≤ k ∧ k ≤ 4 ∧ (t.length : Int) ≤ 32
  · obtain ⟨hk1, hk4, hlen⟩ := hk
    rcases (show k = 1 ∨ k = 2 ∨ k = 3 ∨ k = 4 by omega) with rfl | rfl | rfl | rfl
    · skip
      cases b
      · skip
        by_cases ht : t = []
        · subst ht
          replace E := Lib.hid (E.trans (by simp [hlen] : _ = decide (codeB n = 0)))
          go_enter Try.func13, Try.ntmps13
          go_wp2_with fail
          refine (bits_c n).mono ?_
          rintro e w1 ⟨rfl, rfl⟩
          generalize codeB n = cn at *
          go_wp2_with fail
          go_ret
          rw [E.out, show ((cn : Int) == 0) = decide (cn = 0) by rw [Bool.eq_iff_iff, beq_iff_eq, decide_eq_true_iff]; omega]
          exact ⟨rfl, by go_grown⟩
        · replace E := Lib.hid (E.trans (by simp [ht] : _ = false))
          have hte : t.isEmpty = false := by simpa using ht
          go_enter Try.func13, Try.ntmps13
          go_wp2_with fail
          go_ret
          rw [E.out]
          exact ⟨rfl, by go_grown⟩
      · replace E := Lib.hid (E.trans (by simp : _ = false))
        go_enter Try.func13, Try.ntmps13
        go_wp2_with fail
        go_ret
        rw [E.out]
        exact ⟨rfl, by go_grown⟩
    · skip
      by_cases hi : i = 0
      · subst hi
        by_cases ht : t = []
        · subst ht
          replace E := Lib.hid (E.trans (by simp [hlen] : _ = decide (codeB n = 0)))
          go_enter Try.func13, Try.ntmps13
          go_wp2_with fail
          refine (bits_c n).mono ?_
          rintro e w1 ⟨rfl, rfl⟩
          generalize codeB n = cn at *
          go_wp2_with fail
          go_ret
          rw [E.out, show ((cn : Int) == 0) = decide (cn = 0) by rw [Bool.eq_iff_iff, beq_iff_eq, decide_eq_true_iff]; omega]
          exact ⟨rfl, by go_grown⟩
        · replace E := Lib.hid (E.trans (by simp [ht] : _ = false))
          have hte : t.isEmpty = false := by simpa using ht
          go_enter Try.func13, Try.ntmps13
          go_wp2_with fail
          go_ret
          rw [E.out]
          exact ⟨rfl, by go_grown⟩
      · replace E := Lib.hid (E.trans (by simp [hi] : _ = false))
        go_enter Try.func13, Try.ntmps13
        go_wp2_with fail
        go_ret
        rw [E.out]
        exact ⟨rfl, by go_grown⟩
    · skip
      by_cases hi : i = 0
      · subst hi
        cases b
        · skip
          replace E := Lib.hid (E.trans (by simp [hlen] : _ = decide (codeB n = 0)))
          go_enter Try.func13, Try.ntmps13
          go_wp2_with fail
          refine (bits_c n).mono ?_
          rintro e w1 ⟨rfl, rfl⟩
          generalize codeB n = cn at *
          go_wp2_with fail
          go_ret
          rw [E.out, show ((cn : Int) == 0) = decide (cn = 0) by rw [Bool.eq_iff_iff, beq_iff_eq, decide_eq_true_iff]; omega]
          exact ⟨rfl, by go_grown⟩
        · replace E := Lib.hid (E.trans (by simp : _ = false))
          go_enter Try.func13, Try.ntmps13
          go_wp2_with fail
          go_ret
          rw [E.out]
          exact ⟨rfl, by go_grown⟩
      · replace E := Lib.hid (E.trans (by simp [hi] : _ = false))
        go_enter Try.func13, Try.ntmps13
        go_wp2_with fail
        go_ret
        rw [E.out]
        exact ⟨rfl, by go_grown⟩
    · skip
      by_cases hi : i = 0
      · subst hi
        cases b
        · skip
          by_cases ht : t = []
          · subst ht
            replace E := Lib.hid (E.trans (by simp [hlen] : _ = true))
            go_enter Try.func13, Try.ntmps13
            go_wp2_with fail
            go_ret
            rw [E.out]
            exact ⟨rfl, by go_grown⟩
          · replace E := Lib.hid (E.trans (by simp [ht] : _ = false))
            have hte : t.isEmpty = false := by simpa using ht
            go_enter Try.func13, Try.ntmps13
            go_wp2_with fail
            go_ret
            rw [E.out]
            exact ⟨rfl, by go_grown⟩
        · replace E := Lib.hid (E.trans (by simp : _ = false))
          go_enter Try.func13, Try.ntmps13
          go_wp2_with fail
          go_ret
          rw [E.out]
          exact ⟨rfl, by go_grown⟩
      · replace E := Lib.hid (E.trans (by simp [hi] : _ = false))
        go_enter Try.func13, Try.ntmps13
        go_wp2_with fail
        go_ret
        rw [E.out]
        exact ⟨rfl, by go_grown⟩
  · rw [decide_eq_false hk] at E
    simp only [Bool.false_and] at E
    replace E := Lib.hid E
    by_cases h1 : k < 1
    · go_enter Try.func13, Try.ntmps13
      go_wp2_with fail
      go_ret
      rw [E.out]
      exact ⟨rfl, by go_grown⟩
    · by_cases h2 : k > 4
      · go_enter Try.func13, Try.ntmps13
        go_wp2_with fail
        go_ret
        rw [E.out]
        exact ⟨rfl, by go_grown⟩
      · have h3 : (t.length : Int) > 32 := by omega
        clear hk
        go_enter Try.func13, Try.ntmps13
        go_wp2_with fail
        go_ret
        rw [E.out]
        exact ⟨rfl, by go_grown⟩
end
end Go.Proofs.Ytijlamajcdekkaa

/- The reference's Small, walked; the laws' uses. -/
namespace Go.Proofs.Ytijlamajcdekkaa
open Go.RowKit
set_option linter.unusedVariables false
/-- the reference's count: below 0: it is not small -/
def lfE : Nat → Exp → Int → Int
  | 0, _, _ => -1
  | d + 1, e, n => e.kids.foldl (fun n k => if 0 ≤ n then lfE d k n else n) (n - 1)
abbrev lfF (d : Nat) (n : Int) (k : Exp) : Int := if 0 ≤ n then lfE d k n else n
theorem lfF_no (d : Nat) : ∀ (l : List Exp) (n : Int), n < 0 → l.foldl (lfF d) n = n
  | [], _, _ => rfl
  | k :: l, n, h => by
    rw [List.foldl_cons, show lfF d n k = n from if_neg (by omega)]
    exact lfF_no d l n h
theorem lfE_bd : ∀ (d : Nat) (e : Exp) (n : Int), 0 ≤ n → -1 ≤ lfE d e n ∧ lfE d e n ≤ n - 1
  | 0, e, n, h => by rw [lfE]; omega
  | d + 1, e, n, h => by
    have go : ∀ (l : List Exp) (n : Int), -1 ≤ n → -1 ≤ l.foldl (lfF d) n ∧ l.foldl (lfF d) n ≤ n := by
      intro l
      induction l with
      | nil => intro n h; exact ⟨h, Int.le_refl _⟩
      | cons k l ih =>
        intro n h
        rw [List.foldl_cons]
        by_cases hn : 0 ≤ n
        · rw [show lfF d n k = lfE d k n from if_pos hn]
          have h1 := lfE_bd d k n hn
          have h2 := ih (lfE d k n) h1.1
          omega
        · rw [show lfF d n k = n from if_neg hn]
          exact ih n h
    exact go e.kids (n - 1) (by omega)
theorem lfF_next {d : Nat} {l : List Exp} {i : Nat} {x : Exp} {a n : Int} (h : (l.take i).foldl (lfF d) a = n) (hx : l[i]? = some x) (hn : 0 ≤ n) : (l.take (i + 1)).foldl (lfF d) a = lfE d x n := by
  rw [List.take_add_one, hx, List.foldl_append, h]
  exact if_pos hn
theorem lfF_stop {d : Nat} {l : List Exp} {i : Nat} {a n : Int} (h : (l.take i).foldl (lfF d) a = n) (hn : n < 0) : l.foldl (lfF d) a = n := by
  rw [← List.take_append_drop i l, List.foldl_append, h, lfF_no d _ n hn]
/-- the program's count and the reference's -/
theorem sp_lf : ∀ (d : Nat) (e : Exp) (n : Int), 0 ≤ n → (spD d e n).1 = decide (0 ≤ lfE d e n) ∧ ((spD d e n).1 = true → (spD d e n).2 = lfE d e n)
  | 0, e, n, h => by
    rw [lfE, spD]
    exact ⟨rfl, fun h => by cases h⟩
  | d + 1, e, n, h => by
    rw [lfE, spD]
    by_cases hn : n - 1 < 0
    · rw [if_pos hn]
      have := lfF_no d e.kids (n - 1) hn
      rw [this, decide_eq_false (by omega)]
      exact ⟨rfl, fun h => by cases h⟩
    · rw [if_neg hn]
      have go : ∀ (l : List Exp) (n : Int), 0 ≤ n → (l.foldl (spF d) (true, n)).1 = decide (0 ≤ l.foldl (lfF d) n) ∧ ((l.foldl (spF d) (true, n)).1 = true → (l.foldl (spF d) (true, n)).2 = l.foldl (lfF d) n) := by
        intro l
        induction l with
        | nil => intro n h; exact ⟨by simp [h], fun _ => rfl⟩
        | cons k l ih =>
          intro n h
          rw [List.foldl_cons, List.foldl_cons, show spF d (true, n) k = spD d k n from rfl, show lfF d n k = lfE d k n from if_pos h]
          have h1 := sp_lf d k n h
          cases hq : spD d k n with
          | mk b q =>
            rw [hq] at h1
            cases b with
            | false =>
              have h2 : ¬ 0 ≤ lfE d k n := of_decide_eq_false h1.1.symm
              rw [spF_no, lfF_no d l _ (by omega), decide_eq_false h2]
              exact ⟨rfl, fun h => by cases h⟩
            | true =>
              have h2 : 0 ≤ lfE d k n := of_decide_eq_true h1.1.symm
              have h3 : q = lfE d k n := h1.2 rfl
              rw [h3]
              exact ih _ h2
      exact go e.kids (n - 1) (by omega)
theorem small_lf (e : Exp) : small e = decide (0 ≤ lfE 6 e 24) := (sp_lf 6 e 24 (by decide)).1
section
variable {w : World}
set_option maxHeartbeats 2000000 in
theorem left_c {ok : Nat → Prop} : ∀ (d n : Nat) (w : World) (cs : List Value) (e : Exp) (N : Int), d ≤ 6 → (kExp n).R ok w cs e → 0 ≤ N → N ≤ 24 →
    Calls Try.prog 39 #[.agg cs.toArray, .int .i64 (d : Int), .int .i64 N] w (Ret w (.int .i64 (lfE d e N))) := by
  intro d
  induction d with
  | zero =>
    intro n w cs e N hd h h0 h1
    obtain ⟨k, A, c, rfl, rfl, hs⟩ := exp_open h
    have SF := store_f64
    have E := Lib.hid (show lfE 0 e N = -1 from rfl)
    clear h hs
    go_enter Try.func39, Try.ntmps39
    go_wp2_with fail
    go_ret
    rw [E.out]
    exact ⟨rfl, by go_grown⟩
  | succ d ih =>
    intro n w cs e N hd h h0 h1
    obtain ⟨k, A, c, rfl, rfl, hs⟩ := exp_open h
    have SF := store_f64
    have hdd : ((d + 1 : Nat) : Int) = (d : Int) + 1 := by omega
    have hd1 : ¬ ((d : Int) + 1 < 1) := by omega
    have hd6 : (d : Int) ≤ 5 := by omega
    have E := Lib.hid (show lfE (d + 1) e N = e.kids.foldl (lfF d) (N - 1) from rfl)
    have IH := Lib.hid ih
    clear ih
    have hmax := hs.len.2.2.1
    have hnc := hs.len.2.1
    have B0 := Lib.hid (show Below w.heap.size w (w.alloc (.cells #[.int .i64 e.op, .slice A e.kids.length c, .string ⟨e.name.toArray⟩, .int .i64 e.val.kind, .int .i64 e.val.int, .bool e.val.bool, .string ⟨e.val.text.toArray⟩, .float .f64 e.val.num] 27)) from (Below.refl _ _).alloc (Nat.le_refl _) _)
    have L0 := Lib.hid (show Loc1 w.heap.size 27 #[.int .i64 e.op, .slice A e.kids.length c, .string ⟨e.name.toArray⟩, .int .i64 e.val.kind, .int .i64 e.val.int, .bool e.val.bool, .string ⟨e.val.text.toArray⟩, .float .f64 e.val.num] (w.alloc (.cells #[.int .i64 e.op, .slice A e.kids.length c, .string ⟨e.name.toArray⟩, .int .i64 e.val.kind, .int .i64 e.val.int, .bool e.val.bool, .string ⟨e.val.text.toArray⟩, .float .f64 e.val.num] 27)) from heap_new _ _)
    have HS := Lib.hid hs
    clear h hs
    rw [hdd]
    go_enter Try.func39, Try.ntmps39
    go_wp2_with fail
    go_loopw [2, 7] (fun v2 v7 wr => ∃ (i : Nat) (N' : Int), i ≤ e.kids.length ∧ v7 = .int .i64 i ∧ v2 = .int .i64 N' ∧ (e.kids.take i).foldl (lfF d) (N - 1) = N' ∧ -1 ≤ N' ∧ N' ≤ 24 ∧ Below w.heap.size w wr ∧ Loc1 w.heap.size 27 #[.int .i64 e.op, .slice A e.kids.length c, .string ⟨e.name.toArray⟩, .int .i64 e.val.kind, .int .i64 e.val.int, .bool e.val.bool, .string ⟨e.val.text.toArray⟩, .float .f64 e.val.num] wr) (fun _ v7 _ => e.kids.length - (intOf v7).toNat)
    case atStart => exact ⟨0, N - 1, Nat.zero_le _, rfl, rfl, rfl, by omega, by omega, B0.out, L0.out⟩
    case round =>
      obtain ⟨i, N', hi, rfl, rfl, hf, hn0, hn1, hb, hl⟩ := hrel
      have HF := Lib.hid hf
      have HB := Lib.hid hb
      have HL := Lib.hid hl
      clear hf hb hl B0 L0
      obtain ⟨q0, q1, -⟩ := cells8 HL.out
      have hzl := lt_of_heap HL.out
      by_cases hlt : i < e.kids.length
      · by_cases hn : 0 ≤ N'
        · obtain ⟨ad, x, k', B, d', rfl, he, rfl, hs', c0, c1, c2, c3, c4, c5, c6, c7⟩ := exp_at (HS.out.below HB.out) hlt
          have HE := Lib.hid he
          have BK := Lib.hid (show Below wr.heap.size wr (wr.alloc (.cells #[.int .i64 x.op, .slice B x.kids.length d', .string ⟨x.name.toArray⟩, .int .i64 x.val.kind, .int .i64 x.val.int, .bool x.val.bool, .string ⟨x.val.text.toArray⟩, .float .f64 x.val.num] 27)) from (Below.refl _ _).alloc (Nat.le_refl _) _)
          have HC := Lib.hid (IH.out (k' + 1) wr _ x N' (by omega) (exp_mk hs') hn hn1)
          have hbd := lfE_bd d x N' hn
          have HF2 := Lib.hid (lfF_next HF.out HE.out hn)
          clear he hs'
          go_wp2_with fail
          refine HC.out.mono ?_
          rintro e1 w2 ⟨rfl, hb⟩
          have B2 := Lib.hid (below_self HB.out hb)
          have L2 := Lib.hid (HL.out.below hb)
          clear HC hb c0 c1 c2 c3 c4 c5 c6 c7
          go_wp2_with fail
          go_roundw
          case rel => exact ⟨i + 1, _, by omega, by go_num, rfl, HF2.out, by omega, by omega, B2.out, L2.out⟩
          case measure => simp [intOf]; omega
        · have E2 := Lib.hid (show lfE (d + 1) e N = N' from E.out.trans (lfF_stop HF.out (by omega)))
          have hn' : ¬ (N' ≥ 0) := by omega
          go_wp2_with fail
          go_ret
          rw [E2.out]
          exact ⟨rfl, HB.out⟩
      · have E2 := Lib.hid (show lfE (d + 1) e N = N' from E.out.trans (by have h := HF.out; rw [List.take_of_length_le (show e.kids.length ≤ i by omega)] at h; exact h))
        go_wp2_with fail
        go_ret
        rw [E2.out]
        exact ⟨rfl, HB.out⟩
theorem small4_c {ok : Nat → Prop} {n : Nat} {cs : List Value} {e : Exp} (h : (kExp n).R ok w cs e) : Calls Try.prog 17 #[.agg cs.toArray] w (Ret w (.bool (small e))) := by
  obtain ⟨k, A, c, rfl, rfl, hs⟩ := exp_open h
  have SF := store_f64
  have B0 := Lib.hid (show Below w.heap.size w (w.alloc (.cells #[.int .i64 e.op, .slice A e.kids.length c, .string ⟨e.name.toArray⟩, .int .i64 e.val.kind, .int .i64 e.val.int, .bool e.val.bool, .string ⟨e.val.text.toArray⟩, .float .f64 e.val.num] 27)) from (Below.refl _ _).alloc (Nat.le_refl _) _)
  have HC := Lib.hid (left_c 6 (k + 1) (w.alloc (.cells #[.int .i64 e.op, .slice A e.kids.length c, .string ⟨e.name.toArray⟩, .int .i64 e.val.kind, .int .i64 e.val.int, .bool e.val.bool, .string ⟨e.val.text.toArray⟩, .float .f64 e.val.num] 27)) _ e 24 (Nat.le_refl _) (exp_mk (hs.below B0.out)) (by decide) (by decide))
  have E := Lib.hid (small_lf e)
  clear h hs
  go_enter Try.func17, Try.ntmps17
  go_wp2_with fail
  refine HC.out.mono ?_
  rintro e1 w2 ⟨rfl, hb⟩
  have B2 := Lib.hid (below_self B0.out hb)
  generalize lfE 6 e 24 = r at *
  go_wp2_with fail
  go_ret
  rw [E.out]
  exact ⟨rfl, B2.out⟩
end
end Go.Proofs.Ytijlamajcdekkaa

/- The references' bytes, walked. -/
namespace Go.Proofs.Ytijlamajcdekkaa
open Go.RowKit
set_option linter.unusedVariables false
section
variable {xs ys : List UInt8} {ok : Nat → Prop} {w : World} {A B : Option Addr} {n c n' c' : Nat}
theorem bits_u8 (h : Sl kU8 ok w (.slice A n c) xs) (x : Nat) (hx : x < 18446744073709551616) (m : Nat) (hm : m ≤ 8) (hn : n ≤ 1099511627776) :
    Calls Try.prog 96 #[.slice A n c, .int .u64 (x : Int), .int .i64 (m : Int)] w (RetOwn kU8 5 ok w (xs ++ be m x)) := by
  have H := Lib.hid h
  have hl := h.len.1
  have HL := Lib.hid hl
  have B0 := Lib.hid (show Below w.heap.size w (w.alloc (.cells #[] 5)) from (Below.refl _ _).alloc (Nat.le_refl _) _)
  clear h hl
  go_enter Try.func96, Try.ntmps96
  go_wp2_with (first | (at_builtin; refine at_append rfl (.tmp 9) (.tmp 10) 52 52 rfl rfl rfl (run_append_own_sl Try.underlying52 Try.underlying52 infoU8 rfl (own_empty w ok 5) B0.out.size (H.out.below B0.out) (by rw [HL.out]; simp; omega) (by rw [HL.out]; simp; omega)) ?_; rintro v' w'' ⟨ho2, hb2⟩; have HO2 := Lib.hid (show Own kU8 5 ok w'' w.heap.size v' xs from ho2); have HB2 := Lib.hid (B0.out.trans hb2); clear ho2 hb2))
  go_loopw [7, 8] (fun v7 v8 wr => ∃ k : Nat, k ≤ m ∧ v8 = .int .i64 ((k : Int) - 1) ∧ Own kU8 5 ok wr w.heap.size v7 (xs ++ (be m x).take (m - k)) ∧ Below w.heap.size w wr) (fun _ v8 _ => (intOf v8 + 1).toNat)
  case atStart => exact ⟨m, Nat.le_refl _, rfl, by rw [Nat.sub_self, List.take_zero, List.append_nil]; exact HO2.out, HB2.out⟩
  case round =>
    obtain ⟨k, hk, rfl, ho, hb⟩ := hrel
    have HO := Lib.hid ho
    have HB := Lib.hid hb
    clear ho hb
    rcases Nat.eq_zero_or_pos k with rfl | hpos
    · have E := Lib.hid (show (be m x).take (m - 0) = be m x from List.take_of_length_le (by rw [be_len]; omega))
      go_wp2_with fail
      go_ret
      rw [E.out] at HO
      exact ⟨_, rfl, HO.out, HB.out⟩
    · obtain ⟨j, rfl⟩ : ∃ j, k = j + 1 := ⟨k - 1, by omega⟩
      have hjm : (j : Int) + 1 ≤ 8 := by omega
      have hj1 : ((j + 1 : Nat) : Int) - 1 = j := by omega
      rw [hj1]
      go_wp2_with (at_builtin; refine at_append rfl (.tmp 18) (.tmp 24) 52 52 rfl rfl rfl (run_append_clp1 Try.underlying52 Try.underlying52 infoU8 rfl (.inr HO.out) HB.out.size (UInt8.ofNat (x / 2 ^ (8 * j))) (by rw [List.length_append, List.length_take, be_len, HL.out]; omega) (by rw [List.length_append, List.length_take, be_len, HL.out]; omega)) ?_; rintro v' w' ⟨ho, hb⟩; have HO1 := Lib.hid ho; have HB1 := Lib.hid hb; clear ho hb)
      go_roundw
      case rel =>
        have e : xs ++ (be m x).take (m - (j + 1)) ++ [UInt8.ofNat (x / 2 ^ (8 * j))] = xs ++ (be m x).take (m - j) := by rw [List.append_assoc, be_take x m j (by omega)]
        exact ⟨j, by omega, rfl, e ▸ HO1.out, HB.out.trans HB1.out⟩
      case measure => simp [intOf]
theorem bits8_u8 (h : Sl kU8 ok w (.slice A n c) xs) (x : Int) (hx0 : 0 ≤ x) (hx : x < 18446744073709551616) (hn : n ≤ 1099511627776) :
    Calls Try.prog 96 #[.slice A n c, .int .u64 x, .int .i64 8] w (RetOwn kU8 5 ok w (xs ++ be 8 x.toNat)) := by
  obtain ⟨x, rfl⟩ := Int.eq_ofNat_of_zero_le hx0
  exact bits_u8 h x (by omega) 8 (by omega) hn
theorem bits4_u8 (h : Sl kU8 ok w (.slice A n c) xs) (x : Int) (hx0 : 0 ≤ x) (hx : x < 18446744073709551616) (hn : n ≤ 1099511627776) :
    Calls Try.prog 96 #[.slice A n c, .int .u64 x, .int .i64 4] w (RetOwn kU8 5 ok w (xs ++ be 4 x.toNat)) := by
  obtain ⟨x, rfl⟩ := Int.eq_ofNat_of_zero_le hx0
  exact bits_u8 h x (by omega) 4 (by omega) hn
theorem intRef_c (h : Sl kU8 ok w (.slice A n c) xs) (x : Int) (hx0 : -9223372036854775808 ≤ x) (hx : x ≤ 9223372036854775807) (hn : n ≤ 1099511627776) :
    Calls Try.prog 73 #[.slice A n c, .int .i64 x] w (RetOwn kU8 5 ok w (xs ++ bInt x)) := by
  have H := Lib.hid h
  clear h
  go_enter Try.func73, Try.ntmps73
  go_wp2_with (go_at_call 96; refine (bits8_u8 H.out _ (by rw [IntKind.wrap_u64]; omega) (by rw [IntKind.wrap_u64]; omega) hn).mono ?_; rintro e w' ⟨v, rfl, ho⟩; rw [IntKind.wrap_u64] at ho; have HO := Lib.hid ho; clear ho)
  go_ret
  exact ⟨v, rfl, HO.out⟩
theorem countRef_c (h : Sl kU8 ok w (.slice A n c) xs) (x : Nat) (hx : x ≤ 4294967295) (hn : n ≤ 1099511627776) :
    Calls Try.prog 74 #[.slice A n c, .int .i64 (x : Int)] w (RetOwn kU8 5 ok w (xs ++ bCount x)) := by
  have H := Lib.hid h
  clear h
  have hx' : (x : Int) ≤ 4294967295 := by omega
  rcases Nat.eq_zero_or_pos x with rfl | hp
  · go_enter Try.func74, Try.ntmps74
    go_wp2_with (go_at_call 96; refine (bits4_u8 H.out _ (by omega) (by omega) hn).mono ?_; rintro e w' ⟨v, rfl, ho⟩; have HO := Lib.hid ho; clear ho)
    go_ret
    exact ⟨v, rfl, HO.out⟩
  · have hp' : (0 : Int) < x := by omega
    go_enter Try.func74, Try.ntmps74
    go_wp2_with (go_at_call 96; refine (bits4_u8 H.out _ (by omega) (by omega) hn).mono ?_; rintro e w' ⟨v, rfl, ho⟩; have HO := Lib.hid ho; clear ho)
    go_ret
    exact ⟨v, rfl, HO.out⟩
theorem bytesRef_c (h : Sl kU8 ok w (.slice A n c) xs) {ok2 : Nat → Prop} (h2 : Sl kU8 ok2 w (.slice B n' c') ys) (hn : n ≤ 549755813888) (hn' : n' ≤ 4294967295) :
    Calls Try.prog 75 #[.slice A n c, .slice B n' c'] w (RetOwn kU8 5 ok w (xs ++ bBytes ys)) := by
  have H := Lib.hid h
  have H2 := Lib.hid h2
  have hl := h.len.1
  have hl2 := h2.len.1
  have hc' := h2.len.2.1
  have HL := Lib.hid (show (xs ++ bCount n').length + ys.length ≤ 140737488355328 by rw [List.length_append, bCount_len]; omega)
  have HL2 := Lib.hid hl2
  have HCt := Lib.hid (countRef_c h n' (by omega) (by omega))
  clear h h2 hl hl2
  go_enter Try.func75, Try.ntmps75
  go_wp2_with fail
  refine HCt.out.mono ?_
  rintro e w' ⟨v, rfl, ho, hb⟩
  have HO := Lib.hid ho
  have HB := Lib.hid hb
  clear ho hb HCt
  go_wp2_with (at_builtin; refine at_append rfl (.tmp 10) (.tmp 11) 52 52 rfl rfl rfl (run_append_own_sl Try.underlying52 Try.underlying52 infoU8 rfl HO.out HB.out.size (H2.out.below HB.out) (by have := HL.out; omega) HL.out) ?_; rintro v' w'' ⟨ho2, hb2⟩; have HO2 := Lib.hid ho2; have HB2 := Lib.hid (HB.out.trans hb2); clear ho2 hb2)
  go_ret
  refine ⟨v', rfl, ?_, HB2.out⟩
  have e : xs ++ bBytes ys = xs ++ bCount n' ++ ys := by rw [bBytes, HL2.out, List.append_assoc]
  rw [e]
  exact HO2.out
end
end Go.Proofs.Ytijlamajcdekkaa
