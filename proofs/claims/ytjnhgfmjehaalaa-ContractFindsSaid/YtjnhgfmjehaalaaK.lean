/- Plain data in memory: kinds of values, slices that are read, rows that the call owns, and what append does to them. -/
import Derived.WalkKit
import Derived.WalkSpells
import Derived.WalkLawsBesides
import Derived.Lib.Hide
import Derived.Deep.Draws
import Derived.Deep.AppendSrc
import Derived.Laws.AppendOwn
import Derived.Laws.OwnMore
import Derived.Maps.AppendAt
import Derived.Deep.AppendLies
namespace Go.Proofs.Ytjnhgfmjehaalaa
open Go.RowKit
set_option linter.unusedVariables false

/-! ### worlds -/
/-- of the blocks that are 'ok' nothing has turned -/
structure Ext (ok : Nat → Prop) (w w' : World) : Prop where
  os : w'.os = w.os
  tape : w'.tape = w.tape
  output : w'.output = w.output
  size : w.heap.size ≤ w'.heap.size
  block : ∀ k, k < w.heap.size → ok k → w'.heap[k]? = w.heap[k]?
theorem Ext.refl (ok : Nat → Prop) (w : World) : Ext ok w w := ⟨rfl, rfl, rfl, Nat.le_refl _, fun _ _ _ => rfl⟩
theorem Ext.trans {ok : Nat → Prop} {a b c : World} (h : Ext ok a b) (k : Ext ok b c) : Ext ok a c :=
  ⟨k.os.trans h.os, k.tape.trans h.tape, k.output.trans h.output, Nat.le_trans h.size k.size, fun i hi ho => (k.block i (Nat.lt_of_lt_of_le hi h.size) ho).trans (h.block i hi ho)⟩
theorem Ext.weak {ok ok' : Nat → Prop} {w w' : World} (h : Ext ok w w') (hk : ∀ k, k < w.heap.size → ok' k → ok k) : Ext ok' w w' := ⟨h.os, h.tape, h.output, h.size, fun k hl ho => h.block k hl (hk k hl ho)⟩
theorem Below.ext {w w' : World} (h : Below w.heap.size w w') (ok : Nat → Prop) : Ext ok w w' := ⟨h.os, h.tape, h.output, h.size, fun k hk _ => h.block k hk⟩
theorem Ext.below {ok : Nat → Prop} {B : Nat} {w w' : World} (h : Ext ok w w') (hk : ∀ k, k < B → k < w.heap.size ∧ ok k) : Below B w w' := ⟨h.os, h.tape, h.output, h.size, fun k hl => h.block k (hk k hl).1 (hk k hl).2⟩
theorem ext_alloc (ok : Nat → Prop) (w : World) (o : Obj) : Ext ok w (w.alloc o) := ⟨rfl, rfl, rfl, by simp, fun k hk _ => Below.heap_alloc _ _ _ hk⟩
theorem ext_drewN (ok : Nat → Prop) (w : World) (n : Nat) : Ext ok w (w.drewN n) := ⟨rfl, rfl, rfl, Nat.le_refl _, fun _ _ _ => rfl⟩
theorem ext_drew (ok : Nat → Prop) (w : World) : Ext ok w w.drew := ⟨rfl, rfl, rfl, Nat.le_refl _, fun _ _ _ => rfl⟩
theorem ext_set {ok : Nat → Prop} {w : World} {p : Addr} (h : ¬ ok p.block) (u : Value) : Ext ok w (w.setCell p u) := ⟨rfl, rfl, rfl, by simp, fun k _ ho => Below.heap_setCell _ _ _ _ (fun e => h (e ▸ ho))⟩
theorem ext_grown {ok : Nat → Prop} {w w' : World} {row : Option Nat} (h : w.grownBy w' row) (hr : ∀ k, row = some k → ¬ ok k) : Ext ok w w' := ⟨h.os, h.tape, h.output, h.size, fun k hk ho => h.block k hk (fun e => hr k e.symm ho)⟩
theorem below_alloc {B : Nat} {a w : World} (h : Below B a w) (hB : B ≤ a.heap.size) (o : Obj) : Below B a (w.alloc o) := h.alloc (Nat.le_trans hB h.size) o
theorem below_drewN {B : Nat} {a w : World} (h : Below B a w) (n : Nat) : Below B a (w.drewN n) := ⟨h.os, h.tape, h.output, h.size, h.block⟩
theorem below_then {B : Nat} {a w w' : World} (h : Below B a w) (hB : B ≤ a.heap.size) (k : Below w.heap.size w w') : Below B a w' := h.trans (k.mono (Nat.le_trans hB h.size))
theorem below_self {w w1 w2 : World} (h : Below w.heap.size w w1) (k : Below w1.heap.size w1 w2) : Below w.heap.size w w2 := below_then h (Nat.le_refl _) k
theorem lt_of_heap {w : World} {b : Nat} {o : Obj} (h : w.heap[b]? = some o) : b < w.heap.size := (Array.getElem?_eq_some_iff.1 h).1
theorem heap_new (w : World) (o : Obj) : (w.alloc o).heap[w.heap.size]? = some o := heap_alloc_new w o
theorem cell_of {w : World} {b : Nat} {cs : Array Value} {t : TypeId} {f : Nat × Nat} (h : w.heap[b]? = some (.cells cs t f)) (i : Nat) : w.cell? ⟨b, i, none⟩ = cs[i]? := by simp [World.cell?, h]
theorem free_of {w : World} {b : Nat} {cs : Array Value} {t : TypeId} (h : w.heap[b]? = some (.cells cs t (0, 0))) (i : Nat) : w.frozen? ⟨b, i, none⟩ = false := by simp [World.frozen?, h]
theorem cell_lt {w : World} {a : Addr} {v : Value} (h : w.cell? a = some v) : a.block < w.heap.size := World.block_lt_of_cell? w a h

theorem heap_set {w : World} {b : Nat} {cs : Array Value} {t : TypeId} {f : Nat × Nat} (h : w.heap[b]? = some (.cells cs t f)) (i : Nat) (v : Value) : (w.setCell ⟨b, i, none⟩ v).heap[b]? = some (.cells (cs.setIfInBounds i v) t f) := by
  show (w.heap.modify b _)[b]? = _
  rw [Array.getElem?_modify, if_pos rfl, h]
  rfl
theorem ext_set_ne {w w' : World} {g : Nat} (h : Ext (fun k => k ≠ g) w w') (i : Nat) (u : Value) : Ext (fun k => k ≠ g) w (w'.setCell ⟨g, i, none⟩ u) := h.trans (ext_set (fun e => e rfl) u)
theorem ext_drew_ne {ok : Nat → Prop} {w w' : World} (h : Ext ok w w') : Ext ok w w'.drew := h.trans (ext_drew ok w')
theorem below_of_ext_ne {B g : Nat} {w w' : World} (h : Ext (fun k => k ≠ g) w w') (hg : B ≤ g) (hB : B ≤ w.heap.size) : Below B w w' := h.below fun k hk => ⟨by omega, by omega⟩
theorem below_ext_ne {B g : Nat} {w0 w w' : World} (h : Below B w0 w) (k : Ext (fun k => k ≠ g) w w') (hg : B ≤ g) (hB : B ≤ w0.heap.size) : Below B w0 w' := h.trans (below_of_ext_ne k hg (Nat.le_trans hB h.size))

/-! ### kinds -/
structure Kd (α : Type) where
  sz : Nat
  pos : 0 < sz
  R : (Nat → Prop) → World → List Value → α → Prop
  len : ∀ {ok w cs x}, R ok w cs x → cs.length = sz
  one : ∀ {ok w cs x}, R ok w cs x → ∀ c ∈ cs, c.oneCell' = true
  move : ∀ {ok w w' cs x}, R ok w cs x → (∀ k, ok k → k < w.heap.size → w'.heap[k]? = w.heap[k]?) → R (fun k => ok k ∧ k < w.heap.size) w' cs x
  weak : ∀ {ok ok' w cs x}, R ok w cs x → (∀ k, ok k → ok' k) → R ok' w cs x
section
variable {α β : Type} {d : Kd α} {ok ok' : Nat → Prop} {w w' : World} {cs : List Value} {x : α}
theorem Kd.ext (h : d.R ok w cs x) (e : Ext ok w w') : d.R ok w' cs x := d.weak (d.move h fun k a b => e.block k b a) fun _ hk => hk.1
theorem Kd.below (h : d.R ok w cs x) (e : Below w.heap.size w w') : d.R ok w' cs x := Kd.ext h (Below.ext e ok)
theorem Kd.bound (h : d.R ok w cs x) : d.R (fun k => ok k ∧ k < w.heap.size) w cs x := d.move h fun _ _ _ => rfl

def scalar (f : α → Value) (h1 : ∀ x, (f x).oneCell' = true) : Kd α where
  sz := 1
  pos := by decide
  R := fun _ _ cs x => cs = [f x]
  len := fun h => by rw [h]; rfl
  one := fun h c hc => by rw [h] at hc; simp at hc; rw [hc]; exact h1 _
  move := fun h _ => h
  weak := fun h _ => h
def kInt (k : IntKind) : Kd Int := scalar (fun x => .int k x) fun _ => rfl
def kU8 : Kd UInt8 := scalar (fun x => .int .u8 (x.toNat : Int)) fun _ => rfl
def kBool : Kd Bool := scalar (fun x => .bool x) fun _ => rfl
def kStr : Kd (List UInt8) := scalar (fun x => .string ⟨x.toArray⟩) fun _ => rfl
def kF64 : Kd Nat := scalar (fun x => .float .f64 x) fun _ => rfl
def kPair (a : Kd α) (b : Kd β) : Kd (α × β) where
  sz := a.sz + b.sz
  pos := Nat.lt_of_lt_of_le a.pos (Nat.le_add_right _ _)
  R := fun ok w cs x => ∃ c1 c2, cs = c1 ++ c2 ∧ a.R ok w c1 x.1 ∧ b.R ok w c2 x.2
  len := fun ⟨c1, c2, e, h1, h2⟩ => by rw [e, List.length_append, a.len h1, b.len h2]
  one := fun ⟨c1, c2, e, h1, h2⟩ c hc => by
    rw [e, List.mem_append] at hc
    rcases hc with hc | hc
    · exact a.one h1 c hc
    · exact b.one h2 c hc
  move := fun ⟨c1, c2, e, h1, h2⟩ hm => ⟨c1, c2, e, a.move h1 hm, b.move h2 hm⟩
  weak := fun ⟨c1, c2, e, h1, h2⟩ hk => ⟨c1, c2, e, a.weak h1 hk, b.weak h2 hk⟩
def kIso (a : Kd β) (f : α → β) : Kd α where
  sz := a.sz
  pos := a.pos
  R := fun ok w cs x => a.R ok w cs (f x)
  len := fun h => a.len h
  one := fun h => a.one h
  move := fun h hm => a.move h hm
  weak := fun h hk => a.weak h hk
end

/-! ### slices that are read -/
/-- the value 'v' is a slice that reads as 'xs' -/
def Sl {α : Type} (d : Kd α) (ok : Nat → Prop) (w : World) (v : Value) (xs : List α) : Prop :=
  ∃ A n c, v = .slice A n c ∧ xs.length = n ∧ n ≤ c ∧ c ≤ maxLen ∧ (A = none → c = 0) ∧
    ∀ i x, xs[i]? = some x → ∃ ad cs, A = some ad ∧ ok ad.block ∧ d.R ok w cs x ∧ ∀ j u, cs[j]? = some u → w.cell? (ad.add (i * d.sz + j)) = some u
section
variable {α β : Type} {d : Kd α} {ok ok' : Nat → Prop} {w w' : World} {v : Value} {xs : List α}
theorem Addr.add_block (a : Addr) (n : Nat) : (a.add n).block = a.block := by unfold Addr.add; split <;> rfl
theorem Sl.move (h : Sl d ok w v xs) (hm : ∀ k, ok k → k < w.heap.size → w'.heap[k]? = w.heap[k]?) : Sl d (fun k => ok k ∧ k < w.heap.size) w' v xs := by
  obtain ⟨A, n, c, e, hl, hn, hc, hA, hx⟩ := h
  refine ⟨A, n, c, e, hl, hn, hc, hA, fun i x hi => ?_⟩
  obtain ⟨ad, cs, ea, ho, hr, hcell⟩ := hx i x hi
  have hlt : ad.block < w.heap.size := by
    have h0 : 0 < cs.length := by rw [d.len hr]; exact d.pos
    have := cell_lt (hcell 0 cs[0] (List.getElem?_eq_getElem h0))
    rwa [Addr.add_block] at this
  refine ⟨ad, cs, ea, ⟨ho, hlt⟩, d.move hr hm, fun j u hu => ?_⟩
  rw [World.cell?_of_block (w := w) (by rw [Addr.add_block]; exact hm _ ho hlt)]
  exact hcell j u hu
theorem Sl.weak (h : Sl d ok w v xs) (hk : ∀ k, ok k → ok' k) : Sl d ok' w v xs := by
  obtain ⟨A, n, c, e, hl, hn, hc, hA, hx⟩ := h
  refine ⟨A, n, c, e, hl, hn, hc, hA, fun i x hi => ?_⟩
  obtain ⟨ad, cs, ea, ho, hr, hcell⟩ := hx i x hi
  exact ⟨ad, cs, ea, hk _ ho, d.weak hr hk, hcell⟩
theorem Sl.ext (h : Sl d ok w v xs) (e : Ext ok w w') : Sl d ok w' v xs := (h.move fun k a b => e.block k b a).weak fun _ hk => hk.1
theorem Sl.below (h : Sl d ok w v xs) (e : Below w.heap.size w w') : Sl d ok w' v xs := h.ext (Below.ext e ok)
theorem Sl.bound (h : Sl d ok w v xs) : Sl d (fun k => ok k ∧ k < w.heap.size) w v xs := h.move fun _ _ _ => rfl
theorem Sl.apart (h : Sl d ok w v xs) {g : Nat} (hg : w.heap.size ≤ g) : Sl d (fun k => ok k ∧ k ≠ g) w v xs := h.bound.weak fun k hk => ⟨hk.1, fun e => by have := hk.2; omega⟩
theorem Sl.one (h : Sl d ok w v xs) : v.oneCell' = true := by obtain ⟨A, n, c, e, _⟩ := h; rw [e]; rfl
theorem Sl.nil (d : Kd α) (ok : Nat → Prop) (w : World) : Sl d ok w (.slice none 0 0) [] := ⟨none, 0, 0, rfl, rfl, Nat.le_refl _, Nat.zero_le _, fun _ => rfl, fun i x h => by simp at h⟩
/-- what a slice is -/
theorem Sl.form (h : Sl d ok w v xs) : ∃ A c, v = .slice A xs.length c ∧ xs.length ≤ c ∧ c ≤ 9223372036854775807 ∧ (A = none → c = 0) := by
  obtain ⟨A, n, c, e, hl, hn, hc, hA, _⟩ := h
  exact ⟨A, c, by rw [hl]; exact e, by omega, hc, hA⟩
theorem Sl.len {A : Option Addr} {n c : Nat} (h : Sl d ok w (.slice A n c) xs) : xs.length = n ∧ n ≤ c ∧ c ≤ 9223372036854775807 ∧ (A = none → c = 0) := by
  obtain ⟨A', n', c', e, hl, hn, hc, hA, _⟩ := h
  injection e with e1 e2 e3
  subst e1 e2 e3
  exact ⟨hl, hn, hc, hA⟩
theorem Sl.at_ {A : Option Addr} {n c : Nat} (h : Sl d ok w (.slice A n c) xs) {i : Nat} {x : α} (hi : xs[i]? = some x) :
    ∃ ad cs, A = some ad ∧ ok ad.block ∧ d.R ok w cs x ∧ ∀ j u, cs[j]? = some u → w.cell? (ad.add (i * d.sz + j)) = some u := by
  obtain ⟨A', n', c', e, hl, hn, hc, hA, hx⟩ := h
  injection e with e1 e2 e3
  subst e1 e2 e3
  exact hx i x hi
theorem add_field (ad : Addr) (m j : Nat) (hj : 0 < j) : ad.add (m + j) = ⟨(ad.add m).block, (ad.add m).off + j, none⟩ := by
  unfold Addr.add
  by_cases h : m = 0
  · simp [h]; omega
  · simp [h]; omega
/-- an element of one cell -/
theorem Sl.at1 {f : α → Value} {h1 : ∀ x, (f x).oneCell' = true} {A : Option Addr} {n c : Nat} (h : Sl (scalar f h1) ok w (.slice A n c) xs) {i : Nat} (hi : i < n) :
    ∃ ad x, A = some ad ∧ xs[i]? = some x ∧ w.cell? (ad.add i) = some (f x) := by
  have hl := h.len.1
  obtain ⟨ad, cs, e, _, hr, hc⟩ := h.at_ (List.getElem?_eq_getElem (show i < xs.length by omega))
  refine ⟨ad, _, e, List.getElem?_eq_getElem (by omega), ?_⟩
  have hr' : cs = [f xs[i]] := hr
  have := hc 0 (f xs[i]) (by rw [hr']; rfl)
  simpa [scalar] using this
/-- 's[:m]' -/
theorem Sl.take {A : Option Addr} {n c m : Nat} (h : Sl d ok w (.slice A n c) xs) (hm : m ≤ n) : Sl d ok w (.slice A m c) (xs.take m) := by
  obtain ⟨hl, hn, hc, hA⟩ := h.len
  refine ⟨A, m, c, rfl, by rw [List.length_take]; omega, by omega, hc, hA, fun i x hi => h.at_ ?_⟩
  rw [List.getElem?_take] at hi
  split at hi
  · exact hi
  · cases hi
/-- 's[:n:n]' -/
theorem Sl.clip {A : Option Addr} {n c : Nat} (h : Sl d ok w (.slice A n c) xs) : Sl d ok w (.slice A n n) xs := by
  obtain ⟨hl, hn, hc, hA⟩ := h.len
  exact ⟨A, n, n, rfl, hl, Nat.le_refl _, by unfold maxLen; omega, fun e => by have := hA e; omega, fun i x hi => h.at_ hi⟩
theorem add_add (ad : Addr) (a b : Nat) : (ad.add a).add b = ad.add (a + b) := by
  unfold Addr.add
  by_cases h1 : a = 0 <;> by_cases h2 : b = 0 <;> simp [h1, h2, Nat.add_assoc]
/-- 's[m:]' -/
theorem Sl.drop {A : Option Addr} {n c m : Nat} (h : Sl d ok w (.slice A n c) xs) (hm : m ≤ n) : Sl d ok w (.slice (if c = m then A else A.map (·.add (m * d.sz))) (n - m) (c - m)) (xs.drop m) := by
  obtain ⟨hl, hn, hc, hA⟩ := h.len
  refine ⟨_, n - m, c - m, rfl, by rw [List.length_drop, hl], by omega, by unfold maxLen; omega, fun e => ?_, fun i x hi => ?_⟩
  · split at e
    · omega
    · cases A with
      | none => have := hA rfl; omega
      | some a => cases e
  · have hlt : i < (xs.drop m).length := by
      rcases Nat.lt_or_ge i (xs.drop m).length with h' | h'
      · exact h'
      · rw [List.getElem?_eq_none h'] at hi; cases hi
    rw [List.length_drop] at hlt
    rw [List.getElem?_drop] at hi
    obtain ⟨ad, cs, e, ho, hr, hcell⟩ := h.at_ hi
    refine ⟨ad.add (m * d.sz), cs, ?_, by rw [Addr.add_block]; exact ho, hr, fun j u hu => ?_⟩
    · rw [if_neg (by omega), e]; rfl
    · rw [add_add, ← Nat.add_assoc, ← Nat.add_mul]
      exact hcell j u hu
end
def kSl {α : Type} (d : Kd α) : Kd (List α) where
  sz := 1
  pos := by decide
  R := fun ok w cs xs => ∃ v, cs = [v] ∧ Sl d ok w v xs
  len := fun ⟨v, e, _⟩ => by rw [e]; rfl
  one := fun ⟨v, e, h⟩ c hc => by rw [e] at hc; simp at hc; rw [hc]; exact h.one
  move := fun ⟨v, e, h⟩ hm => ⟨v, e, h.move hm⟩
  weak := fun ⟨v, e, h⟩ hk => ⟨v, e, h.weak hk⟩
abbrev kBytes : Kd (List UInt8) := kSl kU8

/-! ### rows of the call's own -/
def Rps {α : Type} (d : Kd α) (ok : Nat → Prop) (w : World) : List α → List Value → Prop
  | [], cs => cs = []
  | x :: xs, cs => ∃ c r, cs = c ++ r ∧ d.R ok w c x ∧ Rps d ok w xs r
section
variable {α : Type} {d : Kd α} {ok ok' : Nat → Prop} {w w' : World}
theorem Rps.len : ∀ {xs : List α} {cs : List Value}, Rps d ok w xs cs → cs.length = xs.length * d.sz
  | [], cs, h => by rw [show cs = [] from h]; simp
  | x :: xs, cs, ⟨c, r, e, hc, hr⟩ => by rw [e, List.length_append, d.len hc, hr.len, List.length_cons, Nat.succ_mul, Nat.add_comm]
theorem Rps.one : ∀ {xs : List α} {cs : List Value}, Rps d ok w xs cs → ∀ u ∈ cs, u.oneCell' = true
  | [], cs, h, u, hu => by rw [show cs = [] from h] at hu; cases hu
  | x :: xs, cs, ⟨c, r, e, hc, hr⟩, u, hu => by
    rw [e, List.mem_append] at hu
    rcases hu with hu | hu
    · exact d.one hc u hu
    · exact hr.one u hu
theorem Rps.append : ∀ {xs : List α} {cs : List Value} {ys : List α} {ds : List Value}, Rps d ok w xs cs → Rps d ok w ys ds → Rps d ok w (xs ++ ys) (cs ++ ds)
  | [], cs, ys, ds, h, k => by rw [show cs = [] from h]; exact k
  | x :: xs, cs, ys, ds, ⟨c, r, e, hc, hr⟩, k => ⟨c, r ++ ds, by rw [e, List.append_assoc], hc, hr.append k⟩
theorem Rps.move : ∀ {xs : List α} {cs : List Value}, Rps d ok w xs cs → (∀ k, ok k → k < w.heap.size → w'.heap[k]? = w.heap[k]?) → Rps d (fun k => ok k ∧ k < w.heap.size) w' xs cs
  | [], cs, h, _ => h
  | x :: xs, cs, ⟨c, r, e, hc, hr⟩, hm => ⟨c, r, e, d.move hc hm, hr.move hm⟩
theorem Rps.weak : ∀ {xs : List α} {cs : List Value}, Rps d ok w xs cs → (∀ k, ok k → ok' k) → Rps d ok' w xs cs
  | [], cs, h, _ => h
  | x :: xs, cs, ⟨c, r, e, hc, hr⟩, hk => ⟨c, r, e, d.weak hc hk, hr.weak hk⟩
theorem Rps.at_ : ∀ {xs : List α} {cs : List Value}, Rps d ok w xs cs → ∀ {i : Nat} {x : α}, xs[i]? = some x → ∃ c, d.R ok w c x ∧ ∀ j u, c[j]? = some u → cs[i * d.sz + j]? = some u
  | [], cs, h, i, x, hi => by simp at hi
  | y :: xs, cs, ⟨c, r, e, hc, hr⟩, 0, x, hi => by
    simp at hi
    subst hi
    refine ⟨c, hc, fun j u hu => ?_⟩
    have hj : j < c.length := by
      rcases Nat.lt_or_ge j c.length with h | h
      · exact h
      · rw [List.getElem?_eq_none h] at hu; cases hu
    rw [e, Nat.zero_mul, Nat.zero_add, List.getElem?_append_left hj, hu]
  | y :: xs, cs, ⟨c, r, e, hc, hr⟩, i + 1, x, hi => by
    obtain ⟨c', hc', hu'⟩ := hr.at_ (i := i) (x := x) (by simpa using hi)
    refine ⟨c', hc', fun j u hu => ?_⟩
    have hl := d.len hc
    rw [e, List.getElem?_append_right (by rw [hl, Nat.succ_mul]; omega), hl]
    rw [← hu' j u hu]
    congr 1
    rw [Nat.succ_mul]; omega
theorem Rps.single {c : List Value} {x : α} (h : d.R ok w c x) : Rps d ok w [x] c := ⟨c, [], by simp, h, rfl⟩
theorem Rps.scalar {f : α → Value} {h1 : ∀ x, (f x).oneCell' = true} : ∀ xs : List α, Rps (scalar f h1) ok w xs (xs.map f)
  | [] => rfl
  | x :: xs => ⟨[f x], xs.map f, rfl, rfl, Rps.scalar xs⟩
end
/-- a row from block 'base' on that nobody else has, and that reads as 'xs' -/
def Own {α : Type} (d : Kd α) (e : TypeId) (ok : Nat → Prop) (w : World) (base : Nat) (v : Value) (xs : List α) : Prop :=
  ∃ cs, w.ownsRow base e d.sz v xs.length cs ∧ Rps d (fun k => ok k ∧ some k ≠ v.ownBlock) w xs cs
section
variable {α : Type} {d : Kd α} {e : TypeId} {ok ok' : Nat → Prop} {w w' : World} {base : Nat} {v : Value} {xs : List α}
theorem Own.nil (d : Kd α) (e : TypeId) (ok : Nat → Prop) (w : World) (base : Nat) : Own d e ok w base (.slice none 0 0) [] := ⟨[], World.ownsRow_nil w base e d.sz, rfl⟩
theorem Own.lt (h : Own d e ok w base v xs) : ∀ k, v.ownBlock = some k → base ≤ k ∧ k < w.heap.size := by obtain ⟨cs, h1, _⟩ := h; exact h1.lt
theorem Own.lower {base' : Nat} (h : Own d e ok w base v xs) (hb : base' ≤ base) : Own d e ok w base' v xs := by
  obtain ⟨cs, ⟨h1, h2⟩, h3⟩ := h
  refine ⟨cs, ⟨h1, ?_⟩, h3⟩
  rcases h2 with h2 | ⟨g, cap, cur, a, b, r⟩
  · exact .inl h2
  · exact .inr ⟨g, cap, cur, a, by omega, r⟩
theorem Own.weak (h : Own d e ok w base v xs) (hk : ∀ k, ok k → ok' k) : Own d e ok' w base v xs := by
  obtain ⟨cs, h1, h3⟩ := h
  exact ⟨cs, h1, h3.weak fun k a => ⟨hk k a.1, a.2⟩⟩
/-- nothing of the row, and nothing that it leads to, has turned -/
theorem Own.ext (h : Own d e ok w base v xs) (x : Ext (fun k => ok k ∨ some k = v.ownBlock) w w') : Own d e ok w' base v xs := by
  obtain ⟨cs, h1, h3⟩ := h
  refine ⟨cs, ?_, (h3.move fun k a b => x.block k b (.inl a.1)).weak fun k a => a.1⟩
  obtain ⟨h1, h2⟩ := h1
  refine ⟨h1, ?_⟩
  rcases h2 with h2 | ⟨g, cap, cur, a, b, c, r⟩
  · exact .inl h2
  · exact .inr ⟨g, cap, cur, a, b, (x.block g (lt_of_heap c) (.inr (by rw [a]; rfl))).trans c, r⟩
theorem Own.below (h : Own d e ok w base v xs) (x : Below w.heap.size w w') : Own d e ok w' base v xs := h.ext (Below.ext x _)
theorem Own.form (h : Own d e ok w base v xs) : ∃ A c, v = .slice A xs.length c := by
  obtain ⟨cs, ⟨_, h2⟩, _⟩ := h
  rcases h2 with ⟨rfl, h0⟩ | ⟨g, cap, cur, a, _⟩
  · exact ⟨none, 0, by rw [h0]⟩
  · exact ⟨_, _, a⟩
theorem Own.form' (h : Own d e ok w base v xs) : ∃ A n c, v = .slice A n c ∧ n = xs.length := by
  obtain ⟨A, c, h⟩ := h.form
  exact ⟨A, _, c, h, rfl⟩
/-- it may be read -/
theorem Own.sl (h : Own d e ok w base v xs) (hk : ∀ k, base ≤ k → ok k) : Sl d ok w v xs := by
  obtain ⟨cs, h1, h3⟩ := h
  obtain ⟨hl, h2⟩ := h1
  rcases h2 with ⟨rfl, h0⟩ | ⟨g, cap, cur, rfl, hg, hh, hn, hc, hs, ht⟩
  · have : xs = [] := List.eq_nil_of_length_eq_zero h0
    subst this
    exact Sl.nil d ok w
  · refine ⟨_, _, cap, rfl, rfl, hn, hc, (fun x => nomatch x), fun i x hi => ?_⟩
    obtain ⟨c, hr, hu⟩ := h3.at_ hi
    refine ⟨_, c, rfl, hk g hg, d.weak hr fun k a => a.1, fun j u hj => ?_⟩
    have h1 := hu j u hj
    rw [← ht, List.getElem?_take] at h1
    split at h1
    · have ha : (⟨g, 0, none⟩ : Addr).add (i * d.sz + j) = ⟨g, i * d.sz + j, none⟩ := by unfold Addr.add; split <;> simp_all
      rw [ha, cell_of hh]
      simpa using h1
    · cases h1
end
theorem setCells_row {g : Nat} {e : TypeId} : ∀ (vs : List Value) (o : Nat) (w : World) (cur : Array Value), w.heap[g]? = some (.cells cur e (0, 0)) → o + vs.length ≤ cur.size →
    ∃ cur' : Array Value, (w.setCells g o vs).heap[g]? = some (.cells cur' e (0, 0)) ∧ cur'.size = cur.size ∧ cur'.toList.take (o + vs.length) = cur.toList.take o ++ vs
  | [], o, w, cur, h, _ => ⟨cur, h, rfl, by simp⟩
  | v :: vs, o, w, cur, h, hl => by
    rw [List.length_cons] at hl
    have h1 : (w.setCell ⟨g, o, none⟩ v).heap[g]? = some (.cells (cur.setIfInBounds o v) e (0, 0)) := by
      show (w.heap.modify g _)[g]? = _
      rw [Array.getElem?_modify, if_pos rfl, h]
      rfl
    obtain ⟨cur', a, b, c⟩ := setCells_row vs (o + 1) _ _ h1 (by rw [Array.size_setIfInBounds]; omega)
    refine ⟨cur', a, by rw [b, Array.size_setIfInBounds], ?_⟩
    rw [List.length_cons, show o + (vs.length + 1) = o + 1 + vs.length by omega, c, Array.toList_setIfInBounds]
    rw [List.take_succ_eq_append_getElem (by simp; omega)]
    simp [List.take_set_of_le]
theorem setCells_grown (g : Nat) : ∀ (vs : List Value) (o : Nat) (w : World), w.grownBy (w.setCells g o vs) (some g)
  | [], o, w => ⟨rfl, rfl, rfl, Nat.le_refl _, fun _ _ _ => rfl⟩
  | v :: vs, o, w => by
    have h := setCells_grown g vs (o + 1) (w.setCell ⟨g, o, none⟩ v)
    exact ⟨h.os, h.tape, h.output, Nat.le_trans (by simp) h.size, fun k hk hne => (h.block k (by simpa using hk) hne).trans (Below.heap_setCell _ _ _ _ (fun x => hne (by rw [x])))⟩
/-! ### append -/
section
variable {α : Type} {d : Kd α} {e : TypeId} {ok ok' : Nat → Prop} {w w' : World} {base : Nat} {v : Value} {xs ys : List α} {P : Program}
/-- what is appended -/
theorem Sl.news {A : Option Addr} {n c : Nat} : ∀ (ys : List α) (k : Nat), (∀ i x, ys[i]? = some x → ∃ ad cs, A = some ad ∧ ok ad.block ∧ d.R ok w cs x ∧ ∀ j u, cs[j]? = some u → w.cell? (ad.add ((k + i) * d.sz + j)) = some u) →
    ∃ news, Rps d ok w ys news ∧ ∀ j u, news[j]? = some u → ∃ ad, A = some ad ∧ w.cell? (ad.add (k * d.sz + j)) = some u
  | [], k, _ => ⟨[], rfl, fun j u h => by simp at h⟩
  | y :: ys, k, h => by
    obtain ⟨ad, cs, e, _, hr, hc⟩ := h 0 y rfl
    obtain ⟨news, h1, h2⟩ := Sl.news (A := A) (n := n) (c := c) ys (k + 1) (fun i x hi => by
      obtain ⟨ad, cs, e, a, b, r⟩ := h (i + 1) x (by simpa using hi)
      exact ⟨ad, cs, e, a, b, fun j u hu => by rw [show k + 1 + i = k + (i + 1) by omega]; exact r j u hu⟩)
    refine ⟨cs ++ news, ⟨cs, news, rfl, hr, h1⟩, fun j u hu => ?_⟩
    have hl := d.len hr
    rcases Nat.lt_or_ge j cs.length with hj | hj
    · rw [List.getElem?_append_left hj] at hu
      refine ⟨ad, e, ?_⟩
      have := hc j u hu
      rwa [Nat.add_zero] at this
    · rw [List.getElem?_append_right hj] at hu
      obtain ⟨ad', e', hc'⟩ := h2 _ u hu
      refine ⟨ad', e', ?_⟩
      rw [← hc']
      congr 2
      rw [Nat.succ_mul]; omega
theorem Sl.src {t e' : TypeId} {y : Value} (h : Sl d ok w y ys) (ht : P.underlying t = some (.slice e')) : ∃ news, Rps d ok w ys news ∧ Src P d.sz t y ys.length news w := by
  obtain ⟨A, c, rfl, hn, hc, hA⟩ := h.form
  obtain ⟨news, h1, h2⟩ := Sl.news (A := A) (n := ys.length) (c := c) (w := w) (ok := ok) (d := d) ys 0 (fun i x hi => by simpa using h.at_ hi)
  refine ⟨news, h1, ?_⟩
  cases A with
  | none =>
    have h0 : ys = [] := List.eq_nil_of_length_eq_zero (by have := hA rfl; omega)
    subst h0
    rw [show news = [] from h1]
    exact Src.ofNil w ht c
  | some a =>
    refine Src.ofSlice w ht a _ c news h1.len (fun j u hu => ?_) h1.one
    obtain ⟨ad, e, hcell⟩ := h2 j u hu
    injection e with e
    subst e
    simpa using hcell
theorem Sl.firsts {y : Value} (h : Sl d ok w y ys) (w1 : World) (hw : w1.heap = w.heap) : ∃ olds, Rps d ok w ys olds ∧ (Builtin.firstCells d.sz ys.length y).run P w1 = .ok olds.toArray w1 := by
  obtain ⟨A, c, rfl, hn, hc, hA⟩ := h.form
  obtain ⟨news, h1, h2⟩ := Sl.news (A := A) (n := ys.length) (c := c) (w := w) (ok := ok) (d := d) ys 0 (fun i x hi => by simpa using h.at_ hi)
  refine ⟨news, h1, ?_⟩
  cases A with
  | none =>
    have h0 : ys = [] := List.eq_nil_of_length_eq_zero (by have := hA rfl; omega)
    subst h0
    rw [show news = [] from h1]
    exact run_firstCells_none w1 d.sz 0 0 c
  | some a =>
    refine run_firstCells_some w1 d.sz _ a _ c news h1.len (fun j u hu => ?_)
    obtain ⟨ad, e, hcell⟩ := h2 j u hu
    injection e with e
    subst e
    rw [show w1.cell? = w.cell? from by funext a; simp [World.cell?, hw]]
    simpa using hcell
theorem grownCap_le (w : World) (need old : Nat) (e : TypeId) (h : need ≤ 9223372036854775807) : need ≤ grownCap w need old e ∧ grownCap w need old e ≤ 9223372036854775807 := by
  have h0 : grownCap w need old e = need + (w.tape w.drawn (.appendCap need old e)) % (9223372036854775808 - need) := rfl
  have := Nat.mod_lt (w.tape w.drawn (.appendCap need old e)) (show 0 < 9223372036854775808 - need by omega)
  omega
/-- a new row, behind an append that found no room -/
theorem own_grown {olds news : List Value} {z : Value} {m : Nat} (hz : z.cells.size = d.sz) (h1 : Rps d ok w xs olds) (h2 : Rps d ok w ys news) (hm : xs.length + ys.length ≤ 9223372036854775807) (c0 : Nat) :
    Own d e ok (w.drew.alloc (.cells ((olds ++ news).toArray ++ Builtin.zeroCells z.cells (grownCap w (xs.length + ys.length) c0 e - (xs.length + ys.length))) e)) w.heap.size (.slice (some ⟨w.heap.size, 0, none⟩) (xs.length + ys.length) (grownCap w (xs.length + ys.length) c0 e)) (xs ++ ys) ∧
    Below w.heap.size w (w.drew.alloc (.cells ((olds ++ news).toArray ++ Builtin.zeroCells z.cells (grownCap w (xs.length + ys.length) c0 e - (xs.length + ys.length))) e)) := by
  have hcap := grownCap_le w (xs.length + ys.length) c0 e hm
  generalize grownCap w (xs.length + ys.length) c0 e = cap at *
  have hb : Below w.heap.size w (w.drew.alloc (.cells ((olds ++ news).toArray ++ Builtin.zeroCells z.cells (cap - (xs.length + ys.length))) e)) := ((Below.refl _ _).drew).alloc (Nat.le_refl _) _
  refine ⟨⟨olds ++ news, ⟨by rw [List.length_append, h1.len, h2.len, List.length_append, Nat.add_mul], .inr ⟨w.heap.size, cap, _, by rw [List.length_append], Nat.le_refl _, heap_new w.drew _, by rw [List.length_append]; omega, hcap.2, ?_, ?_⟩⟩, ?_⟩, hb⟩
  · rw [Array.size_append, size_zeroCells, hz, List.size_toArray, List.length_append, h1.len, h2.len, ← Nat.add_mul, ← Nat.add_mul]
    congr 1
    omega
  · rw [Array.toList_append, List.toList_toArray, List.length_append, Nat.add_mul, ← h1.len, ← h2.len, ← List.length_append, List.take_left']
    rfl
  · refine (((h1.append h2).move (w' := w.drew.alloc _) fun k _ hk => Below.heap_alloc w.drew _ k hk).weak fun k hk => ⟨hk.1, fun x => ?_⟩)
    have : k = w.heap.size := by simpa [Value.ownBlock] using x
    have := hk.2
    omega
/-- no room: 's[:n:n]', or a nil slice -/
theorem run_append_full {t tx ty : TypeId} {i : TypeInfo} {z : Value} {bytes : Nat} (ht : P.underlying t = some (.slice e)) (hi : P.info? e = some i) (hz : i.zero = some z) (hsz : i.size = d.sz) (hby : i.bytes = bytes) (hzs : z.cells.size = d.sz)
    {A : Option Addr} {n : Nat} (h : Sl d ok w (.slice A n n) xs) {y : Value} {news : List Value} (hn : Rps d ok w ys news) (hs : Src P d.sz tx y ys.length news w) (hpos : 0 < ys.length) (hb : (xs.length + ys.length) * bytes ≤ 140737488355328) (hm : xs.length + ys.length ≤ 140737488355328) :
    ∃ v' w', (Builtin.append_ #[t, tx] ty #[.slice A n n, y]).run P w = .ok v' w' ∧ Own d e ok w' w.heap.size v' (xs ++ ys) ∧ Below w.heap.size w w' := by
  obtain ⟨hl, _, _, _⟩ := h.len
  obtain ⟨olds, ho, hf⟩ := h.firsts (P := P) w.drew rfl
  subst hl
  have hr := run_append_grow_src (P := P) w t tx ty e i z ht hi hz A xs.length xs.length olds (by rw [hsz]; exact hf) y ys.length news (by rw [hsz]; exact hs) (by omega) (by omega) (growslice_fits (by omega) (by rw [hby]; exact hb))
  obtain ⟨k1, k2⟩ := own_grown (w := w) (e := e) (z := z) (m := 0) hzs ho hn (by omega) xs.length
  exact ⟨_, _, hr, k1, k2⟩
/-- onto a row of the call's own -/
theorem run_append_own {t tx ty : TypeId} {i : TypeInfo} {z : Value} {bytes : Nat} (ht : P.underlying t = some (.slice e)) (hi : P.info? e = some i) (hz : i.zero = some z) (hsz : i.size = d.sz) (hby : i.bytes = bytes) (hzs : z.cells.size = d.sz)
    (h : Own d e ok w base v xs) (hbase : base ≤ w.heap.size) {y : Value} {news : List Value} (hn : Rps d (fun k => ok k ∧ some k ≠ v.ownBlock) w ys news) (hs : Src P d.sz tx y ys.length news w) (hb : (xs.length + ys.length) * bytes ≤ 140737488355328) (hm : xs.length + ys.length ≤ 140737488355328) :
    ∃ v' w', (Builtin.append_ #[t, tx] ty #[v, y]).run P w = .ok v' w' ∧ Own d e ok w' base v' (xs ++ ys) ∧ w.grownBy w' v.ownBlock ∧ (v'.ownBlock = v.ownBlock ∨ v'.ownBlock = some w.heap.size) := by
  obtain ⟨cs, ⟨hcl, hcase⟩, hr⟩ := h
  have grow : ∀ {c0 : Nat} {A : Option Addr}, v = .slice A xs.length c0 → c0 < xs.length + ys.length → (Builtin.firstCells d.sz xs.length (.slice A xs.length c0)).run P w.drew = .ok cs.toArray w.drew →
      ∃ v' w', (Builtin.append_ #[t, tx] ty #[v, y]).run P w = .ok v' w' ∧ Own d e ok w' base v' (xs ++ ys) ∧ w.grownBy w' v.ownBlock ∧ (v'.ownBlock = v.ownBlock ∨ v'.ownBlock = some w.heap.size) := by
    intro c0 A ev hc hf
    have hrun := run_append_grow_src (P := P) w t tx ty e i z ht hi hz A xs.length c0 cs (by rw [hsz]; exact hf) y ys.length news (by rw [hsz]; exact hs) (by omega) (by omega) (growslice_fits (by omega) (by rw [hby]; exact hb))
    obtain ⟨k1, k2⟩ := own_grown (w := w) (e := e) (z := z) (m := 0) hzs (hr.weak fun _ a => a.1) (hn.weak fun _ a => a.1) (by omega) c0
    exact ⟨_, _, by rw [ev]; exact hrun, k1.lower hbase, ⟨k2.os, k2.tape, k2.output, k2.size, fun k hk _ => k2.block k hk⟩, .inr rfl⟩
  rcases hcase with ⟨rfl, h0⟩ | ⟨g, cap, cur, rfl, hg, hh, hnc, hcm, hcs, htk⟩
  · have hx : xs = [] := List.eq_nil_of_length_eq_zero h0
    subst hx
    have hc0 : cs = [] := hr
    subst hc0
    rcases Nat.eq_zero_or_pos ys.length with hy | hy
    · have hy0 : ys = [] := List.eq_nil_of_length_eq_zero hy
      subst hy0
      refine ⟨.slice none 0 0, w, ?_, Own.nil d e ok w base, ⟨rfl, rfl, rfl, Nat.le_refl _, fun _ _ _ => rfl⟩, .inl rfl⟩
      have hnn : news = [] := hn
      rcases hs.kind with ⟨e', hk⟩ | hk <;> (simp [Builtin.append_, run_underlying ht, run_underlying hk, sizeOf, typeInfo, hi, hs.len]; have := hs.cells; rw [← hsz] at this; simp at this; simp [this])
    · exact grow rfl (by simpa using hy) (run_firstCells_none w.drew d.sz 0 0 0)
  · by_cases hroom : xs.length + ys.length ≤ cap
    · have hfree : ∀ j, j < news.length → w.cell? ⟨g, 0 + xs.length * i.size + j, none⟩ = cur[0 + xs.length * i.size + j]? := fun j _ => cell_of hh _
      have hnl := hn.len
      have hsize : xs.length * d.sz + news.length ≤ cur.size := by
        rw [hnl, ← Nat.add_mul, hcs]
        exact Nat.mul_le_mul_right _ hroom
      have hrun := run_append_room_src (P := P) w t tx ty e i ht hi g 0 xs.length cap y ys.length news (by rw [hsz]; exact hs) hroom (fun j hj => by rw [hfree j hj, hsz]; simp; omega) (fun j _ => free_of hh _)
      obtain ⟨cur', a, b, c⟩ := setCells_row news (0 + xs.length * i.size) w cur hh (by rw [hsz, Nat.zero_add]; exact hsize)
      have hg : w.grownBy (w.setCells g (0 + xs.length * i.size) news) (some g) := setCells_grown g news _ w
      refine ⟨_, _, hrun, ⟨cs ++ news, ⟨?_, .inr ⟨g, cap, cur', by rw [List.length_append], by assumption, a, by rw [List.length_append]; exact hroom, hcm, by rw [b, hcs], ?_⟩⟩, ?_⟩, hg, .inl rfl⟩
      · rw [List.length_append, hcl, hnl, List.length_append, Nat.add_mul]
      · rw [List.length_append, Nat.add_mul, ← hnl]
        rw [hsz, Nat.zero_add] at c
        rw [c, htk]
      · refine ((hr.append hn).move (w' := w.setCells g (0 + xs.length * i.size) news) fun k hk hlt => hg.block k hlt hk.2).weak fun k hk => hk.1
    · refine grow rfl (by omega) (run_firstCells_some w.drew d.sz _ _ _ cap cs hcl fun j u hu => ?_)
      have hj : j < cs.length := by
        rcases Nat.lt_or_ge j cs.length with h | h
        · exact h
        · rw [List.getElem?_eq_none h] at hu; cases hu
      have ha : (⟨g, 0, none⟩ : Addr).add j = ⟨g, j, none⟩ := by unfold Addr.add; split <;> simp_all
      rw [World.cell?_drew, ha, cell_of hh, ← hu, ← htk, List.getElem?_take, if_pos (by omega)]
      simp
/-- one value, boxed at the world's end -/
theorem src_box {t e' : TypeId} {c : List Value} {x : α} (hr : d.R ok w c x) (ht : P.underlying t = some (.slice e')) : Rps d ok (w.alloc (.cells c.toArray e)) [x] c ∧ Src P d.sz t (.slice (some ⟨w.heap.size, 0, none⟩) 1 1) 1 c (w.alloc (.cells c.toArray e)) := by
  refine ⟨Rps.single (Kd.ext hr (ext_alloc ok w _)), Src.ofSlice _ ht _ 1 1 c (by rw [d.len hr, Nat.one_mul]) (fun j u hu => ?_) (d.one hr)⟩
  have ha : (⟨w.heap.size, 0, none⟩ : Addr).add j = ⟨w.heap.size, j, none⟩ := by unfold Addr.add; split <;> simp_all
  rw [ha, cell_of (heap_new w _), ← hu]
  simp
theorem run_append_own1 {t tx ty : TypeId} {i : TypeInfo} {z : Value} {bytes : Nat} (ht : P.underlying t = some (.slice e)) (htx : P.underlying tx = some (.slice e)) (hi : P.info? e = some i) (hz : i.zero = some z) (hsz : i.size = d.sz) (hby : i.bytes = bytes) (hzs : z.cells.size = d.sz)
    (h : Own d e ok w base v xs) (hbase : base ≤ w.heap.size) {c : List Value} {x : α} (hr : d.R (fun k => ok k ∧ some k ≠ v.ownBlock) w c x) (hb : (xs.length + 1) * bytes ≤ 140737488355328) (hm : xs.length + 1 ≤ 140737488355328) :
    ∃ v' w', (Builtin.append_ #[t, tx] ty #[v, .slice (some ⟨w.heap.size, 0, none⟩) 1 1]).run P (w.alloc (.cells c.toArray e)) = .ok v' w' ∧ Own d e ok w' base v' (xs ++ [x]) ∧ w.grownBy w' v.ownBlock ∧ (v'.ownBlock = v.ownBlock ∨ ∃ b, v'.ownBlock = some b ∧ w.heap.size ≤ b) := by
  obtain ⟨h1, h2⟩ := src_box (e := e) (P := P) hr htx
  obtain ⟨v', w', a, b, c, f⟩ := run_append_own (P := P) (tx := tx) (ty := ty) ht hi hz hsz hby hzs (h.below ((Below.refl _ _).alloc (Nat.le_refl _) _)) (Nat.le_trans hbase (by simp)) h1 h2 hb hm
  refine ⟨v', w', a, b, ⟨c.os, c.tape, c.output, Nat.le_trans (by simp) c.size, fun k hk hne => (c.block k (by simp; omega) hne).trans (Below.heap_alloc _ _ _ hk)⟩, ?_⟩
  rcases f with f | f
  · exact .inl f
  · exact .inr ⟨_, f, by simp⟩
theorem run_append_full1 {t tx ty : TypeId} {i : TypeInfo} {z : Value} {bytes : Nat} (ht : P.underlying t = some (.slice e)) (htx : P.underlying tx = some (.slice e)) (hi : P.info? e = some i) (hz : i.zero = some z) (hsz : i.size = d.sz) (hby : i.bytes = bytes) (hzs : z.cells.size = d.sz)
    {A : Option Addr} {n : Nat} (h : Sl d ok w (.slice A n n) xs) {c : List Value} {x : α} (hr : d.R ok w c x) (hb : (xs.length + 1) * bytes ≤ 140737488355328) (hm : xs.length + 1 ≤ 140737488355328) :
    ∃ v' w', (Builtin.append_ #[t, tx] ty #[.slice A n n, .slice (some ⟨w.heap.size, 0, none⟩) 1 1]).run P (w.alloc (.cells c.toArray e)) = .ok v' w' ∧ Own d e ok w' w.heap.size v' (xs ++ [x]) ∧ Below w.heap.size w w' := by
  obtain ⟨h1, h2⟩ := src_box (e := e) (P := P) hr htx
  have hal : Below w.heap.size w (w.alloc (.cells c.toArray e)) := (Below.refl _ _).alloc (Nat.le_refl _) _
  obtain ⟨v', w', a, b, c⟩ := run_append_full (P := P) (tx := tx) (ty := ty) ht hi hz hsz hby hzs (h.below hal) h1 h2 (by simp) hb hm
  exact ⟨v', w', a, b.lower (by simp), hal.trans (c.mono (by simp))⟩
/-- the walk at an append: the run is handed over -/
theorem at_append {C : Value → World → Prop} {ops : Array Oper} {rest : List Oper} {o : Oper} {a : Act} {Q : Exit → Act → World → Prop} (hgd : o.guard = none) (s x : Operand) (t tx : TypeId)
    (ho : o.op = .call { callee := .builtin .append, args := #[s, x], argTypes := #[t, tx] }) {vs vx : Value} (hs : a.eval s = vs) (hx : a.eval x = vx)
    (hrun : ∃ v' w', (Builtin.append_ #[t, tx] o.type #[vs, vx]).run P w = .ok v' w' ∧ C v' w') (h : ∀ v' w', C v' w' → wpList P ops Q rest (a.put o.dst v') w') : wpList P ops Q (o :: rest) a w := by
  obtain ⟨v', w', hr, hc⟩ := hrun
  refine wpList_plain hgd fun K hK => ?_
  unfold Oper.wp execOp
  simp only [ho, resolve, invoke, builtin, Sem.run_bind, Sem.run_pure, Result.andThen_ok, List.map_toArray, List.map_cons, List.map_nil, hs, hx, hr]
  exact hK _ _ (h v' w' hc)
end
section
variable {α β : Type} {d : Kd α} {e : TypeId} {ok : Nat → Prop} {w w' : World} {base : Nat} {v v' u : Value} {xs ys : List α}
/-- data beside a row, behind an append to it -/
theorem Kd.after {k : Kd β} {cs : List Value} {x : β} (h : k.R (fun b => ok b ∧ some b ≠ v.ownBlock) w cs x) (hg : w.grownBy w' v.ownBlock) (hat : v'.ownBlock = v.ownBlock ∨ ∃ b, v'.ownBlock = some b ∧ w.heap.size ≤ b) : k.R (fun b => ok b ∧ some b ≠ v'.ownBlock) w' cs x := by
  refine k.weak (k.move h fun b hb hl => hg.block b hl hb.2) fun b hb => ⟨hb.1.1, fun x => ?_⟩
  rcases hat with hat | ⟨b', hat, hle⟩
  · exact hb.1.2 (by rw [← hat]; exact x)
  · rw [hat] at x
    injection x with x
    have := hb.2
    omega
theorem Sl.after {k : Kd β} {xs : List β} (h : Sl k (fun b => ok b ∧ some b ≠ v.ownBlock) w u xs) (hg : w.grownBy w' v.ownBlock) (hat : v'.ownBlock = v.ownBlock ∨ ∃ b, v'.ownBlock = some b ∧ w.heap.size ≤ b) : Sl k (fun b => ok b ∧ some b ≠ v'.ownBlock) w' u xs := by
  obtain ⟨z, hz, hs⟩ := Kd.after (k := kSl k) (cs := [u]) ⟨u, rfl, h⟩ hg hat
  injection hz with hz
  subst hz
  exact hs
/-- what came in is beside every row of the call's own -/
theorem Sl.beside {w0 : World} {k : Kd β} {ys : List β} (h : Sl k ok w0 u ys) (hb : Below w0.heap.size w0 w) (ho : Own d e ok w base v xs) (hle : w0.heap.size ≤ base) : Sl k (fun b => ok b ∧ some b ≠ v.ownBlock) w u ys :=
  (h.move fun b _ hl => hb.block b hl).weak fun b hk => ⟨hk.1, fun x => by have := (ho.lt b x.symm).1; have := hk.2; omega⟩
theorem Kd.beside {w0 : World} {k : Kd β} {cs : List Value} {x : β} (h : k.R ok w0 cs x) (hb : Below w0.heap.size w0 w) (ho : Own d e ok w base v xs) (hle : w0.heap.size ≤ base) : k.R (fun b => ok b ∧ some b ≠ v.ownBlock) w cs x :=
  k.weak (k.move h fun b _ hl => hb.block b hl) fun b hk => ⟨hk.1, fun x => by have := (ho.lt b x.symm).1; have := hk.2; omega⟩
theorem below_grown {B : Nat} {a : World} (h : Below B a w) (ho : Own d e ok w base v xs) (hB : B ≤ base) (hw : B ≤ w.heap.size) (hg : w.grownBy w' v.ownBlock) : Below B a w' :=
  h.grown hg hw fun k hk => Nat.le_trans hB (ho.lt k hk).1
end

/-- a clipped slice, or a row of the call's own -/
def Clp {α : Type} (d : Kd α) (e : TypeId) (ok : Nat → Prop) (w : World) (base : Nat) (v : Value) (xs : List α) : Prop := (∃ A n, v = .slice A n n ∧ Sl d ok w v xs) ∨ Own d e ok w base v xs
section
variable {α : Type} {e : TypeId} {ok : Nat → Prop} {w w' : World} {base : Nat} {v v' u : Value} {xs ys : List α} {P : Program} {f : α → Value} {h1 : ∀ x, (f x).oneCell' = true}
theorem run_append_clp1 {t tx ty : TypeId} {z : Value} {bytes : Nat} (ht : P.underlying t = some (.slice e)) (htx : P.underlying tx = some (.slice e)) (hi : (P.info? e).map (fun i => (i.zero, i.size, i.bytes)) = some (some z, 1, bytes)) (hzs : z.cells.size = 1)
    (h : Clp (scalar f h1) e ok w base v xs) (hbase : base ≤ w.heap.size) (x : α) (hb : (xs.length + 1) * bytes ≤ 140737488355328) (hm : xs.length + 1 ≤ 140737488355328) :
    ∃ v' w', (Builtin.append_ #[t, tx] ty #[v, .slice (some ⟨w.heap.size, 0, none⟩) 1 1]).run P (w.alloc (.cells #[f x] e)) = .ok v' w' ∧ Own (scalar f h1) e ok w' base v' (xs ++ [x]) ∧ Below base w w' := by
  obtain ⟨i0, hi0, hz0, hz1, hz2⟩ := info_parts hi
  rcases h with ⟨A, n, rfl, h⟩ | h
  · obtain ⟨v', w', a, b, c⟩ := run_append_full1 (d := scalar f h1) (ty := ty) (x := x) (c := [f x]) (P := P) ht htx hi0 hz0 hz1 hz2 hzs h rfl hb hm
    exact ⟨v', w', a, b.lower hbase, c.mono hbase⟩
  · obtain ⟨v', w', a, b, c, _⟩ := run_append_own1 (d := scalar f h1) (ty := ty) (x := x) (c := [f x]) (P := P) ht htx hi0 hz0 hz1 hz2 hzs h hbase rfl hb hm
    exact ⟨v', w', a, b, below_grown (Below.refl _ _) h (Nat.le_refl _) hbase c⟩
/-- more onto a row of the call's own: scalars out of a slice -/
theorem run_append_own_sl {t tx ty : TypeId} {z : Value} {bytes : Nat} (ht : P.underlying t = some (.slice e)) (htx : P.underlying tx = some (.slice e)) (hi : (P.info? e).map (fun i => (i.zero, i.size, i.bytes)) = some (some z, 1, bytes)) (hzs : z.cells.size = 1)
    (h : Own (scalar f h1) e ok w base v xs) (hbase : base ≤ w.heap.size) {ok2 : Nat → Prop} {y : Value} (hy : Sl (scalar f h1) ok2 w y ys) (hb : (xs.length + ys.length) * bytes ≤ 140737488355328) (hm : xs.length + ys.length ≤ 140737488355328) :
    ∃ v' w', (Builtin.append_ #[t, tx] ty #[v, y]).run P w = .ok v' w' ∧ Own (scalar f h1) e ok w' base v' (xs ++ ys) ∧ Below base w w' := by
  obtain ⟨i0, hi0, hz0, hz1, hz2⟩ := info_parts hi
  obtain ⟨news, hn, hs⟩ := hy.src (P := P) htx
  have hn' : Rps (scalar f h1) (fun k => ok k ∧ some k ≠ v.ownBlock) w ys news := by
    clear hs
    clear hb hm
    clear hy
    revert news
    induction ys with
    | nil => exact fun news h => h
    | cons y ys ih => exact fun news ⟨c, r, e, hc, hr⟩ => ⟨c, r, e, hc, ih r hr⟩
  obtain ⟨v', w', a, b, c, _⟩ := run_append_own (d := scalar f h1) (ty := ty) (P := P) ht hi0 hz0 hz1 hz2 hzs h hbase hn' hs hb hm
  exact ⟨v', w', a, b, below_grown (Below.refl _ _) h (Nat.le_refl _) hbase c⟩
end
/-! ### what a call answers -/
def Ret (w : World) (v : Value) (e : Ending) (w' : World) : Prop := e = .returned v ∧ Below w.heap.size w w'
def RetSl {α : Type} (d : Kd α) (ok : Nat → Prop) (w : World) (xs : List α) (e : Ending) (w' : World) : Prop := ∃ v, e = .returned v ∧ Sl d ok w' v xs ∧ Below w.heap.size w w'
def RetOwn {α : Type} (d : Kd α) (t : TypeId) (ok : Nat → Prop) (w : World) (xs : List α) (e : Ending) (w' : World) : Prop := ∃ v, e = .returned v ∧ Own d t ok w' w.heap.size v xs ∧ Below w.heap.size w w'
def RetAgg {α : Type} (d : Kd α) (ok : Nat → Prop) (w : World) (x : α) (e : Ending) (w' : World) : Prop := ∃ cs : List Value, e = .returned (.agg cs.toArray) ∧ d.R ok w' cs x ∧ Below w.heap.size w w'
end Go.Proofs.Ytjnhgfmjehaalaa
