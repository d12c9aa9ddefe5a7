/- What a block holds, carried from world to world. -/
import Derived.Test.YtjnhgfmjehaalaaE8
namespace Go.Proofs.Ytjnhgfmjehaalaa
open Go.RowKit
set_option linter.unusedVariables false
theorem Loc1.new (w : World) (t : TypeId) (cm : Array Value) : Loc1 w.heap.size t cm (w.alloc (.cells cm t)) := heap_new _ _
theorem Loc1.newE (w : World) (t : TypeId) (cm : Array Value) {g : Nat} (hg : g = w.heap.size) : Loc1 g t cm (w.alloc (.cells cm t)) := by subst hg; exact heap_new _ _
theorem Loc1.al {g : Nat} {t : TypeId} {cm : Array Value} {w : World} (o : Obj) (h : Loc1 g t cm w) : Loc1 g t cm (w.alloc o) := h.below ((Below.refl _ _).alloc (Nat.le_refl _) _)
theorem Loc1.st {g b i : Nat} {t : TypeId} {cm : Array Value} {w : World} {v : Value} (hne : g ≠ b) (h : Loc1 g t cm w) : Loc1 g t cm (w.setCell ⟨b, i, none⟩ v) := heap_set_ne' h hne i v
theorem bel_st {w W : World} {b i : Nat} {v : Value} (hb : w.heap.size ≤ b) (h : Below w.heap.size w W) : Below w.heap.size w (W.setCell ⟨b, i, none⟩ v) := below_ext_ne h (ext_set_ne (Ext.refl (fun k => k ≠ b) W) i v) hb (Nat.le_refl _)
theorem Loc1.dr {g : Nat} {t : TypeId} {cm : Array Value} {w : World} (h : Loc1 g t cm w) : Loc1 g t cm w.drew := h
theorem Loc1.bel {g : Nat} {t : TypeId} {cm : Array Value} {w w' : World} (hb : Below w.heap.size w w') (h : Loc1 g t cm w) : Loc1 g t cm w' := h.below hb
theorem bel_al {w W : World} (o : Obj) (h : Below w.heap.size w W) : Below w.heap.size w (W.alloc o) := below_alloc h (Nat.le_refl _) o
theorem bel_dr {w W : World} (h : Below w.heap.size w W) : Below w.heap.size w W.drew := h.drew
theorem bel_dn {w W : World} (n : Nat) (h : Below w.heap.size w W) : Below w.heap.size w (W.drewN n) := below_drewN h n
theorem bel_tr {w W W' : World} (hb : Below W.heap.size W W') (h : Below w.heap.size w W) : Below w.heap.size w W' := below_self h hb
/-- a row of a block of its own -/
theorem sl_row {α : Type} {d : Kd α} {ok : Nat → Prop} {w : World} {g : Nat} {t : TypeId} {cs : List Value} {xs : List α} {n : Nat} (h : Loc1 g t cs.toArray w) (hk : ok g) (hx : Rps d ok w xs cs) (hn : xs.length = n) (hmax : n ≤ maxLen) : Sl d ok w (.slice (some ⟨g, 0, none⟩) n n) xs := by
  refine ⟨_, _, n, rfl, hn, Nat.le_refl _, hmax, (fun x => nomatch x), fun i x hi => ?_⟩
  obtain ⟨c, hr, hu⟩ := hx.at_ hi
  refine ⟨_, c, rfl, hk, hr, fun j u hj => ?_⟩
  have h1 := hu j u hj
  have ha : (⟨g, 0, none⟩ : Addr).add (i * d.sz + j) = ⟨g, i * d.sz + j, none⟩ := by unfold Addr.add; split <;> simp_all
  rw [ha, cell_of h]
  simpa using h1
/-- an append, as one step of a region that draws -/
theorem step_append {P : Program} {C : Value → World → Prop} {ops : Array Oper} {o : Oper} {a : Act} {w : World} {K : Act → World → Prop} {Q : Exit → Act → World → Prop} {E : Prop} (hg : o.guard = none) (s x : Operand) (t tx : TypeId)
    (ho : o.op = .call { callee := .builtin .append, args := #[s, x], argTypes := #[t, tx] }) {vs vx : Value} (hs : a.eval s = vs) (hx : a.eval x = vx)
    (hrun : ∃ v' w', (Builtin.append_ #[t, tx] o.type #[vs, vx]).run P w = .ok v' w' ∧ C v' w') (hK : ∀ v' w', C v' w' → K (a.put o.dst v') w') : if Region.wanted o (yielded ops a.tmps) = true then Oper.wp P o a w K Q else E := by
  obtain ⟨v', w', hr, hc⟩ := hrun
  rw [if_pos (show Region.wanted o (yielded ops a.tmps) = true by simp [Region.wanted, hg])]
  unfold Oper.wp execOp
  simp only [ho, resolve, invoke, builtin, Sem.run_bind, Sem.run_pure, Result.andThen_ok, List.map_toArray, List.map_cons, List.map_nil, hs, hx, hr]
  exact hK _ _ hc
theorem loc_keep {W w' : World} {g g' : Nat} {t : TypeId} {cm : Array Value} (hgr : ∀ k, k < W.heap.size → k ≠ g → w'.heap[k]? = W.heap[k]?) (hL : Loc1 g' t cm W) (hne : g' ≠ g) : Loc1 g' t cm w' := (hgr _ (lt_of_heap hL) hne).trans hL
/-- onto a literal of nothing -/
theorem app_fresh {P : Program} {α : Type} {d : Kd α} {e t tx ty : TypeId} {W : World} {g b0 bytes : Nat} {z y : Value} {ys : List α} (ht : P.underlying t = some (.slice e)) (htx : P.underlying tx = some (.slice e)) (hi : (P.info? e).map (fun i => (i.zero, i.size, i.bytes)) = some (some z, d.sz, bytes)) (hzs : z.cells.size = d.sz)
    (hL : Loc1 g e #[] W) (hy : Sl d (fun k => k < b0) W y ys) (hb0 : b0 ≤ g) (hb : ys.length ≤ 100 ∧ bytes ≤ 100) :
    ∃ v' w', (Builtin.append_ #[t, tx] ty #[.slice (some ⟨g, 0, none⟩) 0 0, y]).run P W = .ok v' w' ∧ (Own d e (fun _ => True) w' b0 v' ys ∧ Below b0 W w' ∧ (∀ k, k < W.heap.size → k ≠ g → w'.heap[k]? = W.heap[k]?) ∧ ∀ k, v'.ownBlock = some k → k = g ∨ k = W.heap.size) := by
  obtain ⟨i0, hi0, hz0, hz1, hz2⟩ := info_parts hi
  have hg := lt_of_heap hL
  have h : Own d e (fun _ => True) W g (.slice (some ⟨g, 0, none⟩) 0 0) ([] : List α) :=
    ⟨[], ⟨by simp, .inr ⟨g, 0, #[], rfl, Nat.le_refl _, hL, Nat.le_refl _, Nat.zero_le _, by simp, by simp⟩⟩, rfl⟩
  obtain ⟨news, hn, hs⟩ := hy.src (P := P) htx
  have hmul : (0 + ys.length) * bytes ≤ 100 * 100 := Nat.mul_le_mul (by omega) hb.2
  obtain ⟨v', w', a, b, c, hat⟩ := run_append_own (ty := ty) (P := P) ht hi0 hz0 hz1 hz2 hzs h (Nat.le_of_lt hg) (hn.weak fun k hk => ⟨trivial, fun x => by injection x with x; have x : k = g := x; omega⟩) hs (by simp only [List.length_nil]; omega) (by simp only [List.length_nil]; omega)
  refine ⟨v', w', a, b.lower hb0, below_grown (Below.refl _ _) h hb0 (by omega) c, fun k hk hne => c.block k hk (by simpa [Value.ownBlock] using hne), fun k hk => ?_⟩
  rcases hat with hat | hat
  · rw [hat] at hk; exact .inl (by simpa [Value.ownBlock] using hk.symm)
  · rw [hat] at hk; exact .inr (by injection hk with hk; exact hk.symm)
/-- one more -/
theorem app_box {P : Program} {α : Type} {d : Kd α} {e t tx ty : TypeId} {W : World} {g b0 bytes : Nat} {z v : Value} {xs : List α} {x : α} {cs : List Value} (ht : P.underlying t = some (.slice e)) (htx : P.underlying tx = some (.slice e)) (hi : (P.info? e).map (fun i => (i.zero, i.size, i.bytes)) = some (some z, d.sz, bytes)) (hzs : z.cells.size = d.sz)
    (h : Own d e (fun _ => True) W b0 v xs) (hL : Loc1 g e cs.toArray W) (hr : ∀ ok, d.R ok W cs x) (hne : ∀ k, v.ownBlock = some k → k ≠ g) (hb : b0 ≤ W.heap.size ∧ xs.length ≤ 100 ∧ bytes ≤ 100) :
    ∃ v' w', (Builtin.append_ #[t, tx] ty #[v, .slice (some ⟨g, 0, none⟩) 1 1]).run P W = .ok v' w' ∧ (Own d e (fun _ => True) w' b0 v' (xs ++ [x]) ∧ Below b0 W w') := by
  obtain ⟨i0, hi0, hz0, hz1, hz2⟩ := info_parts hi
  have hmul : (xs.length + 1) * bytes ≤ 101 * 100 := Nat.mul_le_mul (by omega) hb.2.2
  obtain ⟨v', w', a, b, c, hat⟩ := run_append_own (ys := [x]) (news := cs) (y := .slice (some ⟨g, 0, none⟩) 1 1) (ty := ty) (P := P) ht hi0 hz0 hz1 hz2 hzs h hb.1 (Rps.single (hr _)) (Src.ofSlice _ htx _ 1 1 cs (by rw [d.len (hr fun _ => True), Nat.one_mul]) (fun j u hu => by
    have ha : (⟨g, 0, none⟩ : Addr).add j = ⟨g, j, none⟩ := by unfold Addr.add; split <;> simp_all
    rw [ha, cell_of hL, ← hu]; simp) (d.one (hr fun _ => True))) (by simp only [List.length_singleton]; omega) (by simp only [List.length_singleton]; omega)
  exact ⟨v', w', a, b, below_grown (Below.refl _ _) h (Nat.le_refl _) hb.1 c⟩
end Go.Proofs.Ytjnhgfmjehaalaa
