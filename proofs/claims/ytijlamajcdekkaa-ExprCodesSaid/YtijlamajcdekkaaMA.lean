/- Texts that go together. -/
import Derived.WalkKit
import Derived.WalkSpells
import Derived.WalkLawsBesides
import Derived.Lib.Hide
import Derived.Deep.Draws
import Derived.Deep.AppendSrc
import Derived.Laws.AppendOwn
import Derived.Laws.OwnMore
import Derived.Maps.AppendAt
import Derived.Deep.AppendLies
import Derived.Handy
import Derived.BigRegion
import Derived.Deep.RegionHeld3
import Derived.Deep.QuietTactic
import Derived.BigQuiet
import Derived.Test.YtijlamajcdekkaaProg
import Derived.Test.YtijlamajcdekkaaRows
import Derived.ProofKit
import Derived.OpenShut
import Derived.ChangeOld
import Derived.Below
import Derived.Deep.Slices
import Derived.Deep.Fields
import Derived.ChangeSame
import Derived.SizedLaws
import Derived.ShutString
/- Plain data in memory: kinds of values, slices that are read, rows that the call owns, and what append does to them. -/
namespace Go.Proofs.Ytijlamajcdekkaa
open Go.RowKit
set_option linter.unusedVariables false

/-! ### worlds -/
/-- of the blocks that are 'ok' nothing has turned -/
structure Ext (ok : Nat → Prop) (w w' : World) : Prop where
  os : w'.os = w.os
  tape : w'.tape = w.tape
  output : w'.output = w.output
  size : w.heap.size ≤ w'.heap.size
  block : ∀ k, k < w.heap.size → ok k → w'.heap[k]? = w.heap[k]?
theorem Ext.refl (ok : Nat → Prop) (w : World) : Ext ok w w := ⟨rfl, rfl, rfl, Nat.le_refl _, fun _ _ _ => rfl⟩
theorem Ext.trans {ok : Nat → Prop} {a b c : World} (h : Ext ok a b) (k : Ext ok b c) : Ext ok a c :=
  ⟨k.os.trans h.os, k.tape.trans h.tape, k.output.trans h.output, Nat.le_trans h.size k.size, fun i hi ho => (k.block i (Nat.lt_of_lt_of_le hi h.size) ho).trans (h.block i hi ho)⟩
theorem Ext.weak {ok ok' : Nat → Prop} {w w' : World} (h : Ext ok w w') (hk : ∀ k, k < w.heap.size → ok' k → ok k) : Ext ok' w w' := ⟨h.os, h.tape, h.output, h.size, fun k hl ho => h.block k hl (hk k hl ho)⟩
theorem Below.ext {w w' : World} (h : Below w.heap.size w w') (ok : Nat → Prop) : Ext ok w w' := ⟨h.os, h.tape, h.output, h.size, fun k hk _ => h.block k hk⟩
theorem Ext.below {ok : Nat → Prop} {B : Nat} {w w' : World} (h : Ext ok w w') (hk : ∀ k, k < B → k < w.heap.size ∧ ok k) : Below B w w' := ⟨h.os, h.tape, h.output, h.size, fun k hl => h.block k (hk k hl).1 (hk k hl).2⟩
theorem ext_alloc (ok : Nat → Prop) (w : World) (o : Obj) : Ext ok w (w.alloc o) := ⟨rfl, rfl, rfl, by simp, fun k hk _ => Below.heap_alloc _ _ _ hk⟩
theorem ext_drewN (ok : Nat → Prop) (w : World) (n : Nat) : Ext ok w (w.drewN n) := ⟨rfl, rfl, rfl, Nat.le_refl _, fun _ _ _ => rfl⟩
theorem ext_drew (ok : Nat → Prop) (w : World) : Ext ok w w.drew := ⟨rfl, rfl, rfl, Nat.le_refl _, fun _ _ _ => rfl⟩
theorem ext_set {ok : Nat → Prop} {w : World} {p : Addr} (h : ¬ ok p.block) (u : Value) : Ext ok w (w.setCell p u) := ⟨rfl, rfl, rfl, by simp, fun k _ ho => Below.heap_setCell _ _ _ _ (fun e => h (e ▸ ho))⟩
theorem ext_grown {ok : Nat → Prop} {w w' : World} {row : Option Nat} (h : w.grownBy w' row) (hr : ∀ k, row = some k → ¬ ok k) : Ext ok w w' := ⟨h.os, h.tape, h.output, h.size, fun k hk ho => h.block k hk (fun e => hr k e.symm ho)⟩
theorem below_alloc {B : Nat} {a w : World} (h : Below B a w) (hB : B ≤ a.heap.size) (o : Obj) : Below B a (w.alloc o) := h.alloc (Nat.le_trans hB h.size) o
theorem below_drewN {B : Nat} {a w : World} (h : Below B a w) (n : Nat) : Below B a (w.drewN n) := ⟨h.os, h.tape, h.output, h.size, h.block⟩
theorem below_then {B : Nat} {a w w' : World} (h : Below B a w) (hB : B ≤ a.heap.size) (k : Below w.heap.size w w') : Below B a w' := h.trans (k.mono (Nat.le_trans hB h.size))
theorem below_self {w w1 w2 : World} (h : Below w.heap.size w w1) (k : Below w1.heap.size w1 w2) : Below w.heap.size w w2 := below_then h (Nat.le_refl _) k
theorem lt_of_heap {w : World} {b : Nat} {o : Obj} (h : w.heap[b]? = some o) : b < w.heap.size := (Array.getElem?_eq_some_iff.1 h).1
theorem heap_new (w : World) (o : Obj) : (w.alloc o).heap[w.heap.size]? = some o := heap_alloc_new w o
theorem cell_of {w : World} {b : Nat} {cs : Array Value} {t : TypeId} {f : Nat × Nat} (h : w.heap[b]? = some (.cells cs t f)) (i : Nat) : w.cell? ⟨b, i, none⟩ = cs[i]? := by simp [World.cell?, h]
theorem free_of {w : World} {b : Nat} {cs : Array Value} {t : TypeId} (h : w.heap[b]? = some (.cells cs t (0, 0))) (i : Nat) : w.frozen? ⟨b, i, none⟩ = false := by simp [World.frozen?, h]
theorem cell_lt {w : World} {a : Addr} {v : Value} (h : w.cell? a = some v) : a.block < w.heap.size := World.block_lt_of_cell? w a h

theorem heap_set {w : World} {b : Nat} {cs : Array Value} {t : TypeId} {f : Nat × Nat} (h : w.heap[b]? = some (.cells cs t f)) (i : Nat) (v : Value) : (w.setCell ⟨b, i, none⟩ v).heap[b]? = some (.cells (cs.setIfInBounds i v) t f) := by
  show (w.heap.modify b _)[b]? = _
  rw [Array.getElem?_modify, if_pos rfl, h]
  rfl
theorem ext_set_ne {w w' : World} {g : Nat} (h : Ext (fun k => k ≠ g) w w') (i : Nat) (u : Value) : Ext (fun k => k ≠ g) w (w'.setCell ⟨g, i, none⟩ u) := h.trans (ext_set (fun e => e rfl) u)
theorem ext_drew_ne {ok : Nat → Prop} {w w' : World} (h : Ext ok w w') : Ext ok w w'.drew := h.trans (ext_drew ok w')
theorem below_of_ext_ne {B g : Nat} {w w' : World} (h : Ext (fun k => k ≠ g) w w') (hg : B ≤ g) (hB : B ≤ w.heap.size) : Below B w w' := h.below fun k hk => ⟨by omega, by omega⟩
theorem below_ext_ne {B g : Nat} {w0 w w' : World} (h : Below B w0 w) (k : Ext (fun k => k ≠ g) w w') (hg : B ≤ g) (hB : B ≤ w0.heap.size) : Below B w0 w' := h.trans (below_of_ext_ne k hg (Nat.le_trans hB h.size))

/-! ### kinds -/
structure Kd (α : Type) where
  sz : Nat
  pos : 0 < sz
  R : (Nat → Prop) → World → List Value → α → Prop
  len : ∀ {ok w cs x}, R ok w cs x → cs.length = sz
  one : ∀ {ok w cs x}, R ok w cs x → ∀ c ∈ cs, c.oneCell' = true
  move : ∀ {ok w w' cs x}, R ok w cs x → (∀ k, ok k → k < w.heap.size → w'.heap[k]? = w.heap[k]?) → R (fun k => ok k ∧ k < w.heap.size) w' cs x
  weak : ∀ {ok ok' w cs x}, R ok w cs x → (∀ k, ok k → ok' k) → R ok' w cs x
section
variable {α β : Type} {d : Kd α} {ok ok' : Nat → Prop} {w w' : World} {cs : List Value} {x : α}
theorem Kd.ext (h : d.R ok w cs x) (e : Ext ok w w') : d.R ok w' cs x := d.weak (d.move h fun k a b => e.block k b a) fun _ hk => hk.1
theorem Kd.below (h : d.R ok w cs x) (e : Below w.heap.size w w') : d.R ok w' cs x := Kd.ext h (Below.ext e ok)
theorem Kd.bound (h : d.R ok w cs x) : d.R (fun k => ok k ∧ k < w.heap.size) w cs x := d.move h fun _ _ _ => rfl

def scalar (f : α → Value) (h1 : ∀ x, (f x).oneCell' = true) : Kd α where
  sz := 1
  pos := by decide
  R := fun _ _ cs x => cs = [f x]
  len := fun h => by rw [h]; rfl
  one := fun h c hc => by rw [h] at hc; simp at hc; rw [hc]; exact h1 _
  move := fun h _ => h
  weak := fun h _ => h
def kInt (k : IntKind) : Kd Int := scalar (fun x => .int k x) fun _ => rfl
def kU8 : Kd UInt8 := scalar (fun x => .int .u8 (x.toNat : Int)) fun _ => rfl
def kBool : Kd Bool := scalar (fun x => .bool x) fun _ => rfl
def kStr : Kd (List UInt8) := scalar (fun x => .string ⟨x.toArray⟩) fun _ => rfl
def kF64 : Kd Nat := scalar (fun x => .float .f64 x) fun _ => rfl
def kPair (a : Kd α) (b : Kd β) : Kd (α × β) where
  sz := a.sz + b.sz
  pos := Nat.lt_of_lt_of_le a.pos (Nat.le_add_right _ _)
  R := fun ok w cs x => ∃ c1 c2, cs = c1 ++ c2 ∧ a.R ok w c1 x.1 ∧ b.R ok w c2 x.2
  len := fun ⟨c1, c2, e, h1, h2⟩ => by rw [e, List.length_append, a.len h1, b.len h2]
  one := fun ⟨c1, c2, e, h1, h2⟩ c hc => by
    rw [e, List.mem_append] at hc
    rcases hc with hc | hc
    · exact a.one h1 c hc
    · exact b.one h2 c hc
  move := fun ⟨c1, c2, e, h1, h2⟩ hm => ⟨c1, c2, e, a.move h1 hm, b.move h2 hm⟩
  weak := fun ⟨c1, c2, e, h1, h2⟩ hk => ⟨c1, c2, e, a.weak h1 hk, b.weak h2 hk⟩
def kIso (a : Kd β) (f : α → β) : Kd α where
  sz := a.sz
  pos := a.pos
  R := fun ok w cs x => a.R ok w cs (f x)
  len := fun h => a.len h
  one := fun h => a.one h
  move := fun h hm => a.move h hm
  weak := fun h hk => a.weak h hk
end

/-! ### slices that are read -/
/-- the value 'v' is a slice that reads as 'xs' -/
def Sl {α : Type} (d : Kd α) (ok : Nat → Prop) (w : World) (v : Value) (xs : List α) : Prop :=
  ∃ A n c, v = .slice A n c ∧ xs.length = n ∧ n ≤ c ∧ c ≤ maxLen ∧ (A = none → c = 0) ∧
    ∀ i x, xs[i]? = some x → ∃ ad cs, A = some ad ∧ ok ad.block ∧ d.R ok w cs x ∧ ∀ j u, cs[j]? = some u → w.cell? (ad.add (i * d.sz + j)) = some u
section
variable {α β : Type} {d : Kd α} {ok ok' : Nat → Prop} {w w' : World} {v : Value} {xs : List α}
theorem Addr.add_block (a : Addr) (n : Nat) : (a.add n).block = a.block := by unfold Addr.add; split <;> rfl
theorem Sl.move (h : Sl d ok w v xs) (hm : ∀ k, ok k → k < w.heap.size → w'.heap[k]? = w.heap[k]?) : Sl d (fun k => ok k ∧ k < w.heap.size) w' v xs := by
  obtain ⟨A, n, c, e, hl, hn, hc, hA, hx⟩ := h
  refine ⟨A, n, c, e, hl, hn, hc, hA, fun i x hi => ?_⟩
  obtain ⟨ad, cs, ea, ho, hr, hcell⟩ := hx i x hi
  have hlt : ad.block < w.heap.size := by
    have h0 : 0 < cs.length := by rw [d.len hr]; exact d.pos
    have := cell_lt (hcell 0 cs[0] (List.getElem?_eq_getElem h0))
    rwa [Addr.add_block] at this
  refine ⟨ad, cs, ea, ⟨ho, hlt⟩, d.move hr hm, fun j u hu => ?_⟩
  rw [World.cell?_of_block (w := w) (by rw [Addr.add_block]; exact hm _ ho hlt)]
  exact hcell j u hu
theorem Sl.weak (h : Sl d ok w v xs) (hk : ∀ k, ok k → ok' k) : Sl d ok' w v xs := by
  obtain ⟨A, n, c, e, hl, hn, hc, hA, hx⟩ := h
  refine ⟨A, n, c, e, hl, hn, hc, hA, fun i x hi => ?_⟩
  obtain ⟨ad, cs, ea, ho, hr, hcell⟩ := hx i x hi
  exact ⟨ad, cs, ea, hk _ ho, d.weak hr hk, hcell⟩
theorem Sl.ext (h : Sl d ok w v xs) (e : Ext ok w w') : Sl d ok w' v xs := (h.move fun k a b => e.block k b a).weak fun _ hk => hk.1
theorem Sl.below (h : Sl d ok w v xs) (e : Below w.heap.size w w') : Sl d ok w' v xs := h.ext (Below.ext e ok)
theorem Sl.bound (h : Sl d ok w v xs) : Sl d (fun k => ok k ∧ k < w.heap.size) w v xs := h.move fun _ _ _ => rfl
theorem Sl.apart (h : Sl d ok w v xs) {g : Nat} (hg : w.heap.size ≤ g) : Sl d (fun k => ok k ∧ k ≠ g) w v xs := h.bound.weak fun k hk => ⟨hk.1, fun e => by have := hk.2; omega⟩
theorem Sl.one (h : Sl d ok w v xs) : v.oneCell' = true := by obtain ⟨A, n, c, e, _⟩ := h; rw [e]; rfl
theorem Sl.nil (d : Kd α) (ok : Nat → Prop) (w : World) : Sl d ok w (.slice none 0 0) [] := ⟨none, 0, 0, rfl, rfl, Nat.le_refl _, Nat.zero_le _, fun _ => rfl, fun i x h => by simp at h⟩
/-- what a slice is -/
theorem Sl.form (h : Sl d ok w v xs) : ∃ A c, v = .slice A xs.length c ∧ xs.length ≤ c ∧ c ≤ 9223372036854775807 ∧ (A = none → c = 0) := by
  obtain ⟨A, n, c, e, hl, hn, hc, hA, _⟩ := h
  exact ⟨A, c, by rw [hl]; exact e, by omega, hc, hA⟩
theorem Sl.len {A : Option Addr} {n c : Nat} (h : Sl d ok w (.slice A n c) xs) : xs.length = n ∧ n ≤ c ∧ c ≤ 9223372036854775807 ∧ (A = none → c = 0) := by
  obtain ⟨A', n', c', e, hl, hn, hc, hA, _⟩ := h
  injection e with e1 e2 e3
  subst e1 e2 e3
  exact ⟨hl, hn, hc, hA⟩
theorem Sl.at_ {A : Option Addr} {n c : Nat} (h : Sl d ok w (.slice A n c) xs) {i : Nat} {x : α} (hi : xs[i]? = some x) :
    ∃ ad cs, A = some ad ∧ ok ad.block ∧ d.R ok w cs x ∧ ∀ j u, cs[j]? = some u → w.cell? (ad.add (i * d.sz + j)) = some u := by
  obtain ⟨A', n', c', e, hl, hn, hc, hA, hx⟩ := h
  injection e with e1 e2 e3
  subst e1 e2 e3
  exact hx i x hi
theorem add_field (ad : Addr) (m j : Nat) (hj : 0 < j) : ad.add (m + j) = ⟨(ad.add m).block, (ad.add m).off + j, none⟩ := by
  unfold Addr.add
  by_cases h : m = 0
  · simp [h]; omega
  · simp [h]; omega
/-- an element of one cell -/
theorem Sl.at1 {f : α → Value} {h1 : ∀ x, (f x).oneCell' = true} {A : Option Addr} {n c : Nat} (h : Sl (scalar f h1) ok w (.slice A n c) xs) {i : Nat} (hi : i < n) :
    ∃ ad x, A = some ad ∧ xs[i]? = some x ∧ w.cell? (ad.add i) = some (f x) := by
  have hl := h.len.1
  obtain ⟨ad, cs, e, _, hr, hc⟩ := h.at_ (List.getElem?_eq_getElem (show i < xs.length by omega))
  refine ⟨ad, _, e, List.getElem?_eq_getElem (by omega), ?_⟩
  have hr' : cs = [f xs[i]] := hr
  have := hc 0 (f xs[i]) (by rw [hr']; rfl)
  simpa [scalar] using this
/-- 's[:m]' -/
theorem Sl.take {A : Option Addr} {n c m : Nat} (h : Sl d ok w (.slice A n c) xs) (hm : m ≤ n) : Sl d ok w (.slice A m c) (xs.take m) := by
  obtain ⟨hl, hn, hc, hA⟩ := h.len
  refine ⟨A, m, c, rfl, by rw [List.length_take]; omega, by omega, hc, hA, fun i x hi => h.at_ ?_⟩
  rw [List.getElem?_take] at hi
  split at hi
  · exact hi
  · cases hi
/-- 's[:n:n]' -/
theorem Sl.clip {A : Option Addr} {n c : Nat} (h : Sl d ok w (.slice A n c) xs) : Sl d ok w (.slice A n n) xs := by
  obtain ⟨hl, hn, hc, hA⟩ := h.len
  exact ⟨A, n, n, rfl, hl, Nat.le_refl _, by unfold maxLen; omega, fun e => by have := hA e; omega, fun i x hi => h.at_ hi⟩
theorem add_add (ad : Addr) (a b : Nat) : (ad.add a).add b = ad.add (a + b) := by
  unfold Addr.add
  by_cases h1 : a = 0 <;> by_cases h2 : b = 0 <;> simp [h1, h2, Nat.add_assoc]
/-- 's[m:]' -/
theorem Sl.drop {A : Option Addr} {n c m : Nat} (h : Sl d ok w (.slice A n c) xs) (hm : m ≤ n) : Sl d ok w (.slice (if c = m then A else A.map (·.add (m * d.sz))) (n - m) (c - m)) (xs.drop m) := by
  obtain ⟨hl, hn, hc, hA⟩ := h.len
  refine ⟨_, n - m, c - m, rfl, by rw [List.length_drop, hl], by omega, by unfold maxLen; omega, fun e => ?_, fun i x hi => ?_⟩
  · split at e
    · omega
    · cases A with
      | none => have := hA rfl; omega
      | some a => cases e
  · have hlt : i < (xs.drop m).length := by
      rcases Nat.lt_or_ge i (xs.drop m).length with h' | h'
      · exact h'
      · rw [List.getElem?_eq_none h'] at hi; cases hi
    rw [List.length_drop] at hlt
    rw [List.getElem?_drop] at hi
    obtain ⟨ad, cs, e, ho, hr, hcell⟩ := h.at_ hi
    refine ⟨ad.add (m * d.sz), cs, ?_, by rw [Addr.add_block]; exact ho, hr, fun j u hu => ?_⟩
    · rw [if_neg (by omega), e]; rfl
    · rw [add_add, ← Nat.add_assoc, ← Nat.add_mul]
      exact hcell j u hu
end
def kSl {α : Type} (d : Kd α) : Kd (List α) where
  sz := 1
  pos := by decide
  R := fun ok w cs xs => ∃ v, cs = [v] ∧ Sl d ok w v xs
  len := fun ⟨v, e, _⟩ => by rw [e]; rfl
  one := fun ⟨v, e, h⟩ c hc => by rw [e] at hc; simp at hc; rw [hc]; exact h.one
  move := fun ⟨v, e, h⟩ hm => ⟨v, e, h.move hm⟩
  weak := fun ⟨v, e, h⟩ hk => ⟨v, e, h.weak hk⟩
abbrev kBytes : Kd (List UInt8) := kSl kU8

/-! ### rows of the call's own -/
def Rps {α : Type} (d : Kd α) (ok : Nat → Prop) (w : World) : List α → List Value → Prop
  | [], cs => cs = []
  | x :: xs, cs => ∃ c r, cs = c ++ r ∧ d.R ok w c x ∧ Rps d ok w xs r
section
variable {α : Type} {d : Kd α} {ok ok' : Nat → Prop} {w w' : World}
theorem Rps.len : ∀ {xs : List α} {cs : List Value}, Rps d ok w xs cs → cs.length = xs.length * d.sz
  | [], cs, h => by rw [show cs = [] from h]; simp
  | x :: xs, cs, ⟨c, r, e, hc, hr⟩ => by rw [e, List.length_append, d.len hc, hr.len, List.length_cons, Nat.succ_mul, Nat.add_comm]
theorem Rps.one : ∀ {xs : List α} {cs : List Value}, Rps d ok w xs cs → ∀ u ∈ cs, u.oneCell' = true
  | [], cs, h, u, hu => by rw [show cs = [] from h] at hu; cases hu
  | x :: xs, cs, ⟨c, r, e, hc, hr⟩, u, hu => by
    rw [e, List.mem_append] at hu
    rcases hu with hu | hu
    · exact d.one hc u hu
    · exact hr.one u hu
theorem Rps.append : ∀ {xs : List α} {cs : List Value} {ys : List α} {ds : List Value}, Rps d ok w xs cs → Rps d ok w ys ds → Rps d ok w (xs ++ ys) (cs ++ ds)
  | [], cs, ys, ds, h, k => by rw [show cs = [] from h]; exact k
  | x :: xs, cs, ys, ds, ⟨c, r, e, hc, hr⟩, k => ⟨c, r ++ ds, by rw [e, List.append_assoc], hc, hr.append k⟩
theorem Rps.move : ∀ {xs : List α} {cs : List Value}, Rps d ok w xs cs → (∀ k, ok k → k < w.heap.size → w'.heap[k]? = w.heap[k]?) → Rps d (fun k => ok k ∧ k < w.heap.size) w' xs cs
  | [], cs, h, _ => h
  | x :: xs, cs, ⟨c, r, e, hc, hr⟩, hm => ⟨c, r, e, d.move hc hm, hr.move hm⟩
theorem Rps.weak : ∀ {xs : List α} {cs : List Value}, Rps d ok w xs cs → (∀ k, ok k → ok' k) → Rps d ok' w xs cs
  | [], cs, h, _ => h
  | x :: xs, cs, ⟨c, r, e, hc, hr⟩, hk => ⟨c, r, e, d.weak hc hk, hr.weak hk⟩
theorem Rps.at_ : ∀ {xs : List α} {cs : List Value}, Rps d ok w xs cs → ∀ {i : Nat} {x : α}, xs[i]? = some x → ∃ c, d.R ok w c x ∧ ∀ j u, c[j]? = some u → cs[i * d.sz + j]? = some u
  | [], cs, h, i, x, hi => by simp at hi
  | y :: xs, cs, ⟨c, r, e, hc, hr⟩, 0, x, hi => by
    simp at hi
    subst hi
    refine ⟨c, hc, fun j u hu => ?_⟩
    have hj : j < c.length := by
      rcases Nat.lt_or_ge j c.length with h | h
      · exact h
      · rw [List.getElem?_eq_none h] at hu; cases hu
    rw [e, Nat.zero_mul, Nat.zero_add, List.getElem?_append_left hj, hu]
  | y :: xs, cs, ⟨c, r, e, hc, hr⟩, i + 1, x, hi => by
    obtain ⟨c', hc', hu'⟩ := hr.at_ (i := i) (x := x) (by simpa using hi)
    refine ⟨c', hc', fun j u hu => ?_⟩
    have hl := d.len hc
    rw [e, List.getElem?_append_right (by rw [hl, Nat.succ_mul]; omega), hl]
    rw [← hu' j u hu]
    congr 1
    rw [Nat.succ_mul]; omega
theorem Rps.single {c : List Value} {x : α} (h : d.R ok w c x) : Rps d ok w [x] c := ⟨c, [], by simp, h, rfl⟩
theorem Rps.scalar {f : α → Value} {h1 : ∀ x, (f x).oneCell' = true} : ∀ xs : List α, Rps (scalar f h1) ok w xs (xs.map f)
  | [] => rfl
  | x :: xs => ⟨[f x], xs.map f, rfl, rfl, Rps.scalar xs⟩
end
/-- a row from block 'base' on that nobody else has, and that reads as 'xs' -/
def Own {α : Type} (d : Kd α) (e : TypeId) (ok : Nat → Prop) (w : World) (base : Nat) (v : Value) (xs : List α) : Prop :=
  ∃ cs, w.ownsRow base e d.sz v xs.length cs ∧ Rps d (fun k => ok k ∧ some k ≠ v.ownBlock) w xs cs
section
variable {α : Type} {d : Kd α} {e : TypeId} {ok ok' : Nat → Prop} {w w' : World} {base : Nat} {v : Value} {xs : List α}
theorem Own.nil (d : Kd α) (e : TypeId) (ok : Nat → Prop) (w : World) (base : Nat) : Own d e ok w base (.slice none 0 0) [] := ⟨[], World.ownsRow_nil w base e d.sz, rfl⟩
theorem Own.lt (h : Own d e ok w base v xs) : ∀ k, v.ownBlock = some k → base ≤ k ∧ k < w.heap.size := by obtain ⟨cs, h1, _⟩ := h; exact h1.lt
theorem Own.lower {base' : Nat} (h : Own d e ok w base v xs) (hb : base' ≤ base) : Own d e ok w base' v xs := by
  obtain ⟨cs, ⟨h1, h2⟩, h3⟩ := h
  refine ⟨cs, ⟨h1, ?_⟩, h3⟩
  rcases h2 with h2 | ⟨g, cap, cur, a, b, r⟩
  · exact .inl h2
  · exact .inr ⟨g, cap, cur, a, by omega, r⟩
theorem Own.weak (h : Own d e ok w base v xs) (hk : ∀ k, ok k → ok' k) : Own d e ok' w base v xs := by
  obtain ⟨cs, h1, h3⟩ := h
  exact ⟨cs, h1, h3.weak fun k a => ⟨hk k a.1, a.2⟩⟩
/-- nothing of the row, and nothing that it leads to, has turned -/
theorem Own.ext (h : Own d e ok w base v xs) (x : Ext (fun k => ok k ∨ some k = v.ownBlock) w w') : Own d e ok w' base v xs := by
  obtain ⟨cs, h1, h3⟩ := h
  refine ⟨cs, ?_, (h3.move fun k a b => x.block k b (.inl a.1)).weak fun k a => a.1⟩
  obtain ⟨h1, h2⟩ := h1
  refine ⟨h1, ?_⟩
  rcases h2 with h2 | ⟨g, cap, cur, a, b, c, r⟩
  · exact .inl h2
  · exact .inr ⟨g, cap, cur, a, b, (x.block g (lt_of_heap c) (.inr (by rw [a]; rfl))).trans c, r⟩
theorem Own.below (h : Own d e ok w base v xs) (x : Below w.heap.size w w') : Own d e ok w' base v xs := h.ext (Below.ext x _)
theorem Own.form (h : Own d e ok w base v xs) : ∃ A c, v = .slice A xs.length c := by
  obtain ⟨cs, ⟨_, h2⟩, _⟩ := h
  rcases h2 with ⟨rfl, h0⟩ | ⟨g, cap, cur, a, _⟩
  · exact ⟨none, 0, by rw [h0]⟩
  · exact ⟨_, _, a⟩
theorem Own.form' (h : Own d e ok w base v xs) : ∃ A n c, v = .slice A n c ∧ n = xs.length := by
  obtain ⟨A, c, h⟩ := h.form
  exact ⟨A, _, c, h, rfl⟩
/-- it may be read -/
theorem Own.sl (h : Own d e ok w base v xs) (hk : ∀ k, base ≤ k → ok k) : Sl d ok w v xs := by
  obtain ⟨cs, h1, h3⟩ := h
  obtain ⟨hl, h2⟩ := h1
  rcases h2 with ⟨rfl, h0⟩ | ⟨g, cap, cur, rfl, hg, hh, hn, hc, hs, ht⟩
  · have : xs = [] := List.eq_nil_of_length_eq_zero h0
    subst this
    exact Sl.nil d ok w
  · refine ⟨_, _, cap, rfl, rfl, hn, hc, (fun x => nomatch x), fun i x hi => ?_⟩
    obtain ⟨c, hr, hu⟩ := h3.at_ hi
    refine ⟨_, c, rfl, hk g hg, d.weak hr fun k a => a.1, fun j u hj => ?_⟩
    have h1 := hu j u hj
    rw [← ht, List.getElem?_take] at h1
    split at h1
    · have ha : (⟨g, 0, none⟩ : Addr).add (i * d.sz + j) = ⟨g, i * d.sz + j, none⟩ := by unfold Addr.add; split <;> simp_all
      rw [ha, cell_of hh]
      simpa using h1
    · cases h1
end
theorem setCells_row {g : Nat} {e : TypeId} : ∀ (vs : List Value) (o : Nat) (w : World) (cur : Array Value), w.heap[g]? = some (.cells cur e (0, 0)) → o + vs.length ≤ cur.size →
    ∃ cur' : Array Value, (w.setCells g o vs).heap[g]? = some (.cells cur' e (0, 0)) ∧ cur'.size = cur.size ∧ cur'.toList.take (o + vs.length) = cur.toList.take o ++ vs
  | [], o, w, cur, h, _ => ⟨cur, h, rfl, by simp⟩
  | v :: vs, o, w, cur, h, hl => by
    rw [List.length_cons] at hl
    have h1 : (w.setCell ⟨g, o, none⟩ v).heap[g]? = some (.cells (cur.setIfInBounds o v) e (0, 0)) := by
      show (w.heap.modify g _)[g]? = _
      rw [Array.getElem?_modify, if_pos rfl, h]
      rfl
    obtain ⟨cur', a, b, c⟩ := setCells_row vs (o + 1) _ _ h1 (by rw [Array.size_setIfInBounds]; omega)
    refine ⟨cur', a, by rw [b, Array.size_setIfInBounds], ?_⟩
    rw [List.length_cons, show o + (vs.length + 1) = o + 1 + vs.length by omega, c, Array.toList_setIfInBounds]
    rw [List.take_succ_eq_append_getElem (by simp; omega)]
    simp [List.take_set_of_le]
theorem setCells_grown (g : Nat) : ∀ (vs : List Value) (o : Nat) (w : World), w.grownBy (w.setCells g o vs) (some g)
  | [], o, w => ⟨rfl, rfl, rfl, Nat.le_refl _, fun _ _ _ => rfl⟩
  | v :: vs, o, w => by
    have h := setCells_grown g vs (o + 1) (w.setCell ⟨g, o, none⟩ v)
    exact ⟨h.os, h.tape, h.output, Nat.le_trans (by simp) h.size, fun k hk hne => (h.block k (by simpa using hk) hne).trans (Below.heap_setCell _ _ _ _ (fun x => hne (by rw [x])))⟩
/-! ### append -/
section
variable {α : Type} {d : Kd α} {e : TypeId} {ok ok' : Nat → Prop} {w w' : World} {base : Nat} {v : Value} {xs ys : List α} {P : Program}
/-- what is appended -/
theorem Sl.news {A : Option Addr} {n c : Nat} : ∀ (ys : List α) (k : Nat), (∀ i x, ys[i]? = some x → ∃ ad cs, A = some ad ∧ ok ad.block ∧ d.R ok w cs x ∧ ∀ j u, cs[j]? = some u → w.cell? (ad.add ((k + i) * d.sz + j)) = some u) →
    ∃ news, Rps d ok w ys news ∧ ∀ j u, news[j]? = some u → ∃ ad, A = some ad ∧ w.cell? (ad.add (k * d.sz + j)) = some u
  | [], k, _ => ⟨[], rfl, fun j u h => by simp at h⟩
  | y :: ys, k, h => by
    obtain ⟨ad, cs, e, _, hr, hc⟩ := h 0 y rfl
    obtain ⟨news, h1, h2⟩ := Sl.news (A := A) (n := n) (c := c) ys (k + 1) (fun i x hi => by
      obtain ⟨ad, cs, e, a, b, r⟩ := h (i + 1) x (by simpa using hi)
      exact ⟨ad, cs, e, a, b, fun j u hu => by rw [show k + 1 + i = k + (i + 1) by omega]; exact r j u hu⟩)
    refine ⟨cs ++ news, ⟨cs, news, rfl, hr, h1⟩, fun j u hu => ?_⟩
    have hl := d.len hr
    rcases Nat.lt_or_ge j cs.length with hj | hj
    · rw [List.getElem?_append_left hj] at hu
      refine ⟨ad, e, ?_⟩
      have := hc j u hu
      rwa [Nat.add_zero] at this
    · rw [List.getElem?_append_right hj] at hu
      obtain ⟨ad', e', hc'⟩ := h2 _ u hu
      refine ⟨ad', e', ?_⟩
      rw [← hc']
      congr 2
      rw [Nat.succ_mul]; omega
theorem Sl.src {t e' : TypeId} {y : Value} (h : Sl d ok w y ys) (ht : P.underlying t = some (.slice e')) : ∃ news, Rps d ok w ys news ∧ Src P d.sz t y ys.length news w := by
  obtain ⟨A, c, rfl, hn, hc, hA⟩ := h.form
  obtain ⟨news, h1, h2⟩ := Sl.news (A := A) (n := ys.length) (c := c) (w := w) (ok := ok) (d := d) ys 0 (fun i x hi => by simpa using h.at_ hi)
  refine ⟨news, h1, ?_⟩
  cases A with
  | none =>
    have h0 : ys = [] := List.eq_nil_of_length_eq_zero (by have := hA rfl; omega)
    subst h0
    rw [show news = [] from h1]
    exact Src.ofNil w ht c
  | some a =>
    refine Src.ofSlice w ht a _ c news h1.len (fun j u hu => ?_) h1.one
    obtain ⟨ad, e, hcell⟩ := h2 j u hu
    injection e with e
    subst e
    simpa using hcell
theorem Sl.firsts {y : Value} (h : Sl d ok w y ys) (w1 : World) (hw : w1.heap = w.heap) : ∃ olds, Rps d ok w ys olds ∧ (Builtin.firstCells d.sz ys.length y).run P w1 = .ok olds.toArray w1 := by
  obtain ⟨A, c, rfl, hn, hc, hA⟩ := h.form
  obtain ⟨news, h1, h2⟩ := Sl.news (A := A) (n := ys.length) (c := c) (w := w) (ok := ok) (d := d) ys 0 (fun i x hi => by simpa using h.at_ hi)
  refine ⟨news, h1, ?_⟩
  cases A with
  | none =>
    have h0 : ys = [] := List.eq_nil_of_length_eq_zero (by have := hA rfl; omega)
    subst h0
    rw [show news = [] from h1]
    exact run_firstCells_none w1 d.sz 0 0 c
  | some a =>
    refine run_firstCells_some w1 d.sz _ a _ c news h1.len (fun j u hu => ?_)
    obtain ⟨ad, e, hcell⟩ := h2 j u hu
    injection e with e
    subst e
    rw [show w1.cell? = w.cell? from by funext a; simp [World.cell?, hw]]
    simpa using hcell
theorem grownCap_le (w : World) (need old : Nat) (e : TypeId) (h : need ≤ 9223372036854775807) : need ≤ grownCap w need old e ∧ grownCap w need old e ≤ 9223372036854775807 := by
  have h0 : grownCap w need old e = need + (w.tape w.drawn (.appendCap need old e)) % (9223372036854775808 - need) := rfl
  have := Nat.mod_lt (w.tape w.drawn (.appendCap need old e)) (show 0 < 9223372036854775808 - need by omega)
  omega
/-- a new row, behind an append that found no room -/
theorem own_grown {olds news : List Value} {z : Value} {m : Nat} (hz : z.cells.size = d.sz) (h1 : Rps d ok w xs olds) (h2 : Rps d ok w ys news) (hm : xs.length + ys.length ≤ 9223372036854775807) (c0 : Nat) :
    Own d e ok (w.drew.alloc (.cells ((olds ++ news).toArray ++ Builtin.zeroCells z.cells (grownCap w (xs.length + ys.length) c0 e - (xs.length + ys.length))) e)) w.heap.size (.slice (some ⟨w.heap.size, 0, none⟩) (xs.length + ys.length) (grownCap w (xs.length + ys.length) c0 e)) (xs ++ ys) ∧
    Below w.heap.size w (w.drew.alloc (.cells ((olds ++ news).toArray ++ Builtin.zeroCells z.cells (grownCap w (xs.length + ys.length) c0 e - (xs.length + ys.length))) e)) := by
  have hcap := grownCap_le w (xs.length + ys.length) c0 e hm
  generalize grownCap w (xs.length + ys.length) c0 e = cap at *
  have hb : Below w.heap.size w (w.drew.alloc (.cells ((olds ++ news).toArray ++ Builtin.zeroCells z.cells (cap - (xs.length + ys.length))) e)) := ((Below.refl _ _).drew).alloc (Nat.le_refl _) _
  refine ⟨⟨olds ++ news, ⟨by rw [List.length_append, h1.len, h2.len, List.length_append, Nat.add_mul], .inr ⟨w.heap.size, cap, _, by rw [List.length_append], Nat.le_refl _, heap_new w.drew _, by rw [List.length_append]; omega, hcap.2, ?_, ?_⟩⟩, ?_⟩, hb⟩
  · rw [Array.size_append, size_zeroCells, hz, List.size_toArray, List.length_append, h1.len, h2.len, ← Nat.add_mul, ← Nat.add_mul]
    congr 1
    omega
  · rw [Array.toList_append, List.toList_toArray, List.length_append, Nat.add_mul, ← h1.len, ← h2.len, ← List.length_append, List.take_left']
    rfl
  · refine (((h1.append h2).move (w' := w.drew.alloc _) fun k _ hk => Below.heap_alloc w.drew _ k hk).weak fun k hk => ⟨hk.1, fun x => ?_⟩)
    have : k = w.heap.size := by simpa [Value.ownBlock] using x
    have := hk.2
    omega
/-- no room: 's[:n:n]', or a nil slice -/
theorem run_append_full {t tx ty : TypeId} {i : TypeInfo} {z : Value} {bytes : Nat} (ht : P.underlying t = some (.slice e)) (hi : P.info? e = some i) (hz : i.zero = some z) (hsz : i.size = d.sz) (hby : i.bytes = bytes) (hzs : z.cells.size = d.sz)
    {A : Option Addr} {n : Nat} (h : Sl d ok w (.slice A n n) xs) {y : Value} {news : List Value} (hn : Rps d ok w ys news) (hs : Src P d.sz tx y ys.length news w) (hpos : 0 < ys.length) (hb : (xs.length + ys.length) * bytes ≤ 140737488355328) (hm : xs.length + ys.length ≤ 140737488355328) :
    ∃ v' w', (Builtin.append_ #[t, tx] ty #[.slice A n n, y]).run P w = .ok v' w' ∧ Own d e ok w' w.heap.size v' (xs ++ ys) ∧ Below w.heap.size w w' := by
  obtain ⟨hl, _, _, _⟩ := h.len
  obtain ⟨olds, ho, hf⟩ := h.firsts (P := P) w.drew rfl
  subst hl
  have hr := run_append_grow_src (P := P) w t tx ty e i z ht hi hz A xs.length xs.length olds (by rw [hsz]; exact hf) y ys.length news (by rw [hsz]; exact hs) (by omega) (by omega) (growslice_fits (by omega) (by rw [hby]; exact hb))
  obtain ⟨k1, k2⟩ := own_grown (w := w) (e := e) (z := z) (m := 0) hzs ho hn (by omega) xs.length
  exact ⟨_, _, hr, k1, k2⟩
/-- onto a row of the call's own -/
theorem run_append_own {t tx ty : TypeId} {i : TypeInfo} {z : Value} {bytes : Nat} (ht : P.underlying t = some (.slice e)) (hi : P.info? e = some i) (hz : i.zero = some z) (hsz : i.size = d.sz) (hby : i.bytes = bytes) (hzs : z.cells.size = d.sz)
    (h : Own d e ok w base v xs) (hbase : base ≤ w.heap.size) {y : Value} {news : List Value} (hn : Rps d (fun k => ok k ∧ some k ≠ v.ownBlock) w ys news) (hs : Src P d.sz tx y ys.length news w) (hb : (xs.length + ys.length) * bytes ≤ 140737488355328) (hm : xs.length + ys.length ≤ 140737488355328) :
    ∃ v' w', (Builtin.append_ #[t, tx] ty #[v, y]).run P w = .ok v' w' ∧ Own d e ok w' base v' (xs ++ ys) ∧ w.grownBy w' v.ownBlock ∧ (v'.ownBlock = v.ownBlock ∨ v'.ownBlock = some w.heap.size) := by
  obtain ⟨cs, ⟨hcl, hcase⟩, hr⟩ := h
  have grow : ∀ {c0 : Nat} {A : Option Addr}, v = .slice A xs.length c0 → c0 < xs.length + ys.length → (Builtin.firstCells d.sz xs.length (.slice A xs.length c0)).run P w.drew = .ok cs.toArray w.drew →
      ∃ v' w', (Builtin.append_ #[t, tx] ty #[v, y]).run P w = .ok v' w' ∧ Own d e ok w' base v' (xs ++ ys) ∧ w.grownBy w' v.ownBlock ∧ (v'.ownBlock = v.ownBlock ∨ v'.ownBlock = some w.heap.size) := by
    intro c0 A ev hc hf
    have hrun := run_append_grow_src (P := P) w t tx ty e i z ht hi hz A xs.length c0 cs (by rw [hsz]; exact hf) y ys.length news (by rw [hsz]; exact hs) (by omega) (by omega) (growslice_fits (by omega) (by rw [hby]; exact hb))
    obtain ⟨k1, k2⟩ := own_grown (w := w) (e := e) (z := z) (m := 0) hzs (hr.weak fun _ a => a.1) (hn.weak fun _ a => a.1) (by omega) c0
    exact ⟨_, _, by rw [ev]; exact hrun, k1.lower hbase, ⟨k2.os, k2.tape, k2.output, k2.size, fun k hk _ => k2.block k hk⟩, .inr rfl⟩
  rcases hcase with ⟨rfl, h0⟩ | ⟨g, cap, cur, rfl, hg, hh, hnc, hcm, hcs, htk⟩
  · have hx : xs = [] := List.eq_nil_of_length_eq_zero h0
    subst hx
    have hc0 : cs = [] := hr
    subst hc0
    rcases Nat.eq_zero_or_pos ys.length with hy | hy
    · have hy0 : ys = [] := List.eq_nil_of_length_eq_zero hy
      subst hy0
      refine ⟨.slice none 0 0, w, ?_, Own.nil d e ok w base, ⟨rfl, rfl, rfl, Nat.le_refl _, fun _ _ _ => rfl⟩, .inl rfl⟩
      have hnn : news = [] := hn
      rcases hs.kind with ⟨e', hk⟩ | hk <;> (simp [Builtin.append_, run_underlying ht, run_underlying hk, sizeOf, typeInfo, hi, hs.len]; have := hs.cells; rw [← hsz] at this; simp at this; simp [this])
    · exact grow rfl (by simpa using hy) (run_firstCells_none w.drew d.sz 0 0 0)
  · by_cases hroom : xs.length + ys.length ≤ cap
    · have hfree : ∀ j, j < news.length → w.cell? ⟨g, 0 + xs.length * i.size + j, none⟩ = cur[0 + xs.length * i.size + j]? := fun j _ => cell_of hh _
      have hnl := hn.len
      have hsize : xs.length * d.sz + news.length ≤ cur.size := by
        rw [hnl, ← Nat.add_mul, hcs]
        exact Nat.mul_le_mul_right _ hroom
      have hrun := run_append_room_src (P := P) w t tx ty e i ht hi g 0 xs.length cap y ys.length news (by rw [hsz]; exact hs) hroom (fun j hj => by rw [hfree j hj, hsz]; simp; omega) (fun j _ => free_of hh _)
      obtain ⟨cur', a, b, c⟩ := setCells_row news (0 + xs.length * i.size) w cur hh (by rw [hsz, Nat.zero_add]; exact hsize)
      have hg : w.grownBy (w.setCells g (0 + xs.length * i.size) news) (some g) := setCells_grown g news _ w
      refine ⟨_, _, hrun, ⟨cs ++ news, ⟨?_, .inr ⟨g, cap, cur', by rw [List.length_append], by assumption, a, by rw [List.length_append]; exact hroom, hcm, by rw [b, hcs], ?_⟩⟩, ?_⟩, hg, .inl rfl⟩
      · rw [List.length_append, hcl, hnl, List.length_append, Nat.add_mul]
      · rw [List.length_append, Nat.add_mul, ← hnl]
        rw [hsz, Nat.zero_add] at c
        rw [c, htk]
      · refine ((hr.append hn).move (w' := w.setCells g (0 + xs.length * i.size) news) fun k hk hlt => hg.block k hlt hk.2).weak fun k hk => hk.1
    · refine grow rfl (by omega) (run_firstCells_some w.drew d.sz _ _ _ cap cs hcl fun j u hu => ?_)
      have hj : j < cs.length := by
        rcases Nat.lt_or_ge j cs.length with h | h
        · exact h
        · rw [List.getElem?_eq_none h] at hu; cases hu
      have ha : (⟨g, 0, none⟩ : Addr).add j = ⟨g, j, none⟩ := by unfold Addr.add; split <;> simp_all
      rw [World.cell?_drew, ha, cell_of hh, ← hu, ← htk, List.getElem?_take, if_pos (by omega)]
      simp
/-- one value, boxed at the world's end -/
theorem src_box {t e' : TypeId} {c : List Value} {x : α} (hr : d.R ok w c x) (ht : P.underlying t = some (.slice e')) : Rps d ok (w.alloc (.cells c.toArray e)) [x] c ∧ Src P d.sz t (.slice (some ⟨w.heap.size, 0, none⟩) 1 1) 1 c (w.alloc (.cells c.toArray e)) := by
  refine ⟨Rps.single (Kd.ext hr (ext_alloc ok w _)), Src.ofSlice _ ht _ 1 1 c (by rw [d.len hr, Nat.one_mul]) (fun j u hu => ?_) (d.one hr)⟩
  have ha : (⟨w.heap.size, 0, none⟩ : Addr).add j = ⟨w.heap.size, j, none⟩ := by unfold Addr.add; split <;> simp_all
  rw [ha, cell_of (heap_new w _), ← hu]
  simp
theorem run_append_own1 {t tx ty : TypeId} {i : TypeInfo} {z : Value} {bytes : Nat} (ht : P.underlying t = some (.slice e)) (htx : P.underlying tx = some (.slice e)) (hi : P.info? e = some i) (hz : i.zero = some z) (hsz : i.size = d.sz) (hby : i.bytes = bytes) (hzs : z.cells.size = d.sz)
    (h : Own d e ok w base v xs) (hbase : base ≤ w.heap.size) {c : List Value} {x : α} (hr : d.R (fun k => ok k ∧ some k ≠ v.ownBlock) w c x) (hb : (xs.length + 1) * bytes ≤ 140737488355328) (hm : xs.length + 1 ≤ 140737488355328) :
    ∃ v' w', (Builtin.append_ #[t, tx] ty #[v, .slice (some ⟨w.heap.size, 0, none⟩) 1 1]).run P (w.alloc (.cells c.toArray e)) = .ok v' w' ∧ Own d e ok w' base v' (xs ++ [x]) ∧ w.grownBy w' v.ownBlock ∧ (v'.ownBlock = v.ownBlock ∨ ∃ b, v'.ownBlock = some b ∧ w.heap.size ≤ b) := by
  obtain ⟨h1, h2⟩ := src_box (e := e) (P := P) hr htx
  obtain ⟨v', w', a, b, c, f⟩ := run_append_own (P := P) (tx := tx) (ty := ty) ht hi hz hsz hby hzs (h.below ((Below.refl _ _).alloc (Nat.le_refl _) _)) (Nat.le_trans hbase (by simp)) h1 h2 hb hm
  refine ⟨v', w', a, b, ⟨c.os, c.tape, c.output, Nat.le_trans (by simp) c.size, fun k hk hne => (c.block k (by simp; omega) hne).trans (Below.heap_alloc _ _ _ hk)⟩, ?_⟩
  rcases f with f | f
  · exact .inl f
  · exact .inr ⟨_, f, by simp⟩
theorem run_append_full1 {t tx ty : TypeId} {i : TypeInfo} {z : Value} {bytes : Nat} (ht : P.underlying t = some (.slice e)) (htx : P.underlying tx = some (.slice e)) (hi : P.info? e = some i) (hz : i.zero = some z) (hsz : i.size = d.sz) (hby : i.bytes = bytes) (hzs : z.cells.size = d.sz)
    {A : Option Addr} {n : Nat} (h : Sl d ok w (.slice A n n) xs) {c : List Value} {x : α} (hr : d.R ok w c x) (hb : (xs.length + 1) * bytes ≤ 140737488355328) (hm : xs.length + 1 ≤ 140737488355328) :
    ∃ v' w', (Builtin.append_ #[t, tx] ty #[.slice A n n, .slice (some ⟨w.heap.size, 0, none⟩) 1 1]).run P (w.alloc (.cells c.toArray e)) = .ok v' w' ∧ Own d e ok w' w.heap.size v' (xs ++ [x]) ∧ Below w.heap.size w w' := by
  obtain ⟨h1, h2⟩ := src_box (e := e) (P := P) hr htx
  have hal : Below w.heap.size w (w.alloc (.cells c.toArray e)) := (Below.refl _ _).alloc (Nat.le_refl _) _
  obtain ⟨v', w', a, b, c⟩ := run_append_full (P := P) (tx := tx) (ty := ty) ht hi hz hsz hby hzs (h.below hal) h1 h2 (by simp) hb hm
  exact ⟨v', w', a, b.lower (by simp), hal.trans (c.mono (by simp))⟩
/-- the walk at an append: the run is handed over -/
theorem at_append {C : Value → World → Prop} {ops : Array Oper} {rest : List Oper} {o : Oper} {a : Act} {Q : Exit → Act → World → Prop} (hgd : o.guard = none) (s x : Operand) (t tx : TypeId)
    (ho : o.op = .call { callee := .builtin .append, args := #[s, x], argTypes := #[t, tx] }) {vs vx : Value} (hs : a.eval s = vs) (hx : a.eval x = vx)
    (hrun : ∃ v' w', (Builtin.append_ #[t, tx] o.type #[vs, vx]).run P w = .ok v' w' ∧ C v' w') (h : ∀ v' w', C v' w' → wpList P ops Q rest (a.put o.dst v') w') : wpList P ops Q (o :: rest) a w := by
  obtain ⟨v', w', hr, hc⟩ := hrun
  refine wpList_plain hgd fun K hK => ?_
  unfold Oper.wp execOp
  simp only [ho, resolve, invoke, builtin, Sem.run_bind, Sem.run_pure, Result.andThen_ok, List.map_toArray, List.map_cons, List.map_nil, hs, hx, hr]
  exact hK _ _ (h v' w' hc)
end
section
variable {α β : Type} {d : Kd α} {e : TypeId} {ok : Nat → Prop} {w w' : World} {base : Nat} {v v' u : Value} {xs ys : List α}
/-- data beside a row, behind an append to it -/
theorem Kd.after {k : Kd β} {cs : List Value} {x : β} (h : k.R (fun b => ok b ∧ some b ≠ v.ownBlock) w cs x) (hg : w.grownBy w' v.ownBlock) (hat : v'.ownBlock = v.ownBlock ∨ ∃ b, v'.ownBlock = some b ∧ w.heap.size ≤ b) : k.R (fun b => ok b ∧ some b ≠ v'.ownBlock) w' cs x := by
  refine k.weak (k.move h fun b hb hl => hg.block b hl hb.2) fun b hb => ⟨hb.1.1, fun x => ?_⟩
  rcases hat with hat | ⟨b', hat, hle⟩
  · exact hb.1.2 (by rw [← hat]; exact x)
  · rw [hat] at x
    injection x with x
    have := hb.2
    omega
theorem Sl.after {k : Kd β} {xs : List β} (h : Sl k (fun b => ok b ∧ some b ≠ v.ownBlock) w u xs) (hg : w.grownBy w' v.ownBlock) (hat : v'.ownBlock = v.ownBlock ∨ ∃ b, v'.ownBlock = some b ∧ w.heap.size ≤ b) : Sl k (fun b => ok b ∧ some b ≠ v'.ownBlock) w' u xs := by
  obtain ⟨z, hz, hs⟩ := Kd.after (k := kSl k) (cs := [u]) ⟨u, rfl, h⟩ hg hat
  injection hz with hz
  subst hz
  exact hs
/-- what came in is beside every row of the call's own -/
theorem Sl.beside {w0 : World} {k : Kd β} {ys : List β} (h : Sl k ok w0 u ys) (hb : Below w0.heap.size w0 w) (ho : Own d e ok w base v xs) (hle : w0.heap.size ≤ base) : Sl k (fun b => ok b ∧ some b ≠ v.ownBlock) w u ys :=
  (h.move fun b _ hl => hb.block b hl).weak fun b hk => ⟨hk.1, fun x => by have := (ho.lt b x.symm).1; have := hk.2; omega⟩
theorem Kd.beside {w0 : World} {k : Kd β} {cs : List Value} {x : β} (h : k.R ok w0 cs x) (hb : Below w0.heap.size w0 w) (ho : Own d e ok w base v xs) (hle : w0.heap.size ≤ base) : k.R (fun b => ok b ∧ some b ≠ v.ownBlock) w cs x :=
  k.weak (k.move h fun b _ hl => hb.block b hl) fun b hk => ⟨hk.1, fun x => by have := (ho.lt b x.symm).1; have := hk.2; omega⟩
theorem below_grown {B : Nat} {a : World} (h : Below B a w) (ho : Own d e ok w base v xs) (hB : B ≤ base) (hw : B ≤ w.heap.size) (hg : w.grownBy w' v.ownBlock) : Below B a w' :=
  h.grown hg hw fun k hk => Nat.le_trans hB (ho.lt k hk).1
end

/-- a clipped slice, or a row of the call's own -/
def Clp {α : Type} (d : Kd α) (e : TypeId) (ok : Nat → Prop) (w : World) (base : Nat) (v : Value) (xs : List α) : Prop := (∃ A n, v = .slice A n n ∧ Sl d ok w v xs) ∨ Own d e ok w base v xs
section
variable {α : Type} {e : TypeId} {ok : Nat → Prop} {w w' : World} {base : Nat} {v v' u : Value} {xs ys : List α} {P : Program} {f : α → Value} {h1 : ∀ x, (f x).oneCell' = true}
theorem run_append_clp1 {t tx ty : TypeId} {z : Value} {bytes : Nat} (ht : P.underlying t = some (.slice e)) (htx : P.underlying tx = some (.slice e)) (hi : (P.info? e).map (fun i => (i.zero, i.size, i.bytes)) = some (some z, 1, bytes)) (hzs : z.cells.size = 1)
    (h : Clp (scalar f h1) e ok w base v xs) (hbase : base ≤ w.heap.size) (x : α) (hb : (xs.length + 1) * bytes ≤ 140737488355328) (hm : xs.length + 1 ≤ 140737488355328) :
    ∃ v' w', (Builtin.append_ #[t, tx] ty #[v, .slice (some ⟨w.heap.size, 0, none⟩) 1 1]).run P (w.alloc (.cells #[f x] e)) = .ok v' w' ∧ Own (scalar f h1) e ok w' base v' (xs ++ [x]) ∧ Below base w w' := by
  obtain ⟨i0, hi0, hz0, hz1, hz2⟩ := info_parts hi
  rcases h with ⟨A, n, rfl, h⟩ | h
  · obtain ⟨v', w', a, b, c⟩ := run_append_full1 (d := scalar f h1) (ty := ty) (x := x) (c := [f x]) (P := P) ht htx hi0 hz0 hz1 hz2 hzs h rfl hb hm
    exact ⟨v', w', a, b.lower hbase, c.mono hbase⟩
  · obtain ⟨v', w', a, b, c, _⟩ := run_append_own1 (d := scalar f h1) (ty := ty) (x := x) (c := [f x]) (P := P) ht htx hi0 hz0 hz1 hz2 hzs h hbase rfl hb hm
    exact ⟨v', w', a, b, below_grown (Below.refl _ _) h (Nat.le_refl _) hbase c⟩
/-- more onto a row of the call's own: scalars out of a slice -/
theorem run_append_own_sl {t tx ty : TypeId} {z : Value} {bytes : Nat} (ht : P.underlying t = some (.slice e)) (htx : P.underlying tx = some (.slice e)) (hi : (P.info? e).map (fun i => (i.zero, i.size, i.bytes)) = some (some z, 1, bytes)) (hzs : z.cells.size = 1)
    (h : Own (scalar f h1) e ok w base v xs) (hbase : base ≤ w.heap.size) {ok2 : Nat → Prop} {y : Value} (hy : Sl (scalar f h1) ok2 w y ys) (hb : (xs.length + ys.length) * bytes ≤ 140737488355328) (hm : xs.length + ys.length ≤ 140737488355328) :
    ∃ v' w', (Builtin.append_ #[t, tx] ty #[v, y]).run P w = .ok v' w' ∧ Own (scalar f h1) e ok w' base v' (xs ++ ys) ∧ Below base w w' := by
  obtain ⟨i0, hi0, hz0, hz1, hz2⟩ := info_parts hi
  obtain ⟨news, hn, hs⟩ := hy.src (P := P) htx
  have hn' : Rps (scalar f h1) (fun k => ok k ∧ some k ≠ v.ownBlock) w ys news := by
    clear hs
    clear hb hm
    clear hy
    revert news
    induction ys with
    | nil => exact fun news h => h
    | cons y ys ih => exact fun news ⟨c, r, e, hc, hr⟩ => ⟨c, r, e, hc, ih r hr⟩
  obtain ⟨v', w', a, b, c, _⟩ := run_append_own (d := scalar f h1) (ty := ty) (P := P) ht hi0 hz0 hz1 hz2 hzs h hbase hn' hs hb hm
  exact ⟨v', w', a, b, below_grown (Below.refl _ _) h (Nat.le_refl _) hbase c⟩
end
/-! ### what a call answers -/
def Ret (w : World) (v : Value) (e : Ending) (w' : World) : Prop := e = .returned v ∧ Below w.heap.size w w'
def RetSl {α : Type} (d : Kd α) (ok : Nat → Prop) (w : World) (xs : List α) (e : Ending) (w' : World) : Prop := ∃ v, e = .returned v ∧ Sl d ok w' v xs ∧ Below w.heap.size w w'
def RetOwn {α : Type} (d : Kd α) (t : TypeId) (ok : Nat → Prop) (w : World) (xs : List α) (e : Ending) (w' : World) : Prop := ∃ v, e = .returned v ∧ Own d t ok w' w.heap.size v xs ∧ Below w.heap.size w w'
def RetAgg {α : Type} (d : Kd α) (ok : Nat → Prop) (w : World) (x : α) (e : Ending) (w' : World) : Prop := ∃ cs : List Value, e = .returned (.agg cs.toArray) ∧ d.R ok w' cs x ∧ Below w.heap.size w w'
end Go.Proofs.Ytijlamajcdekkaa

/- Short words for what is said often: an operation of a drawn region taken, or run; a row that stays; a block's cells. -/
namespace Go.Proofs.Ytijlamajcdekkaa
open Go.RowKit
set_option linter.unusedVariables false
set_option linter.unusedSimpArgs false
theorem nrmA {α : Type} {l : List α} {i : Nat} {a : α} : l.toArray.setIfInBounds i a = (l.set i a).toArray := List.setIfInBounds_toArray ..
theorem nrmZ {α : Type} {x a : α} {xs : List α} : (x :: xs).set 0 a = a :: xs := List.set_cons_zero
theorem nrmS {α : Type} {x a : α} {xs : List α} {n : Nat} : (x :: xs).set (n + 1) a = x :: xs.set n a := List.set_cons_succ
section
variable {P : Program} {md : Region.Mode} {ops : Array Oper} {Q : Exit → Act → World → Prop} {S : World → Prop} {fuel : Nat} {listed : Array Bool} {a : Act} {w : World}
theorem takeG {oi : Oper} (i d : Nat) (v : Value) (hi : ops[i]? = some oi) (hd : oi.dst = some d)
    (hs : (Region.noSelect ops && (Region.free md ops listed i && (Region.ready md ops listed).contains i)) = true)
    (hQ : ∀ c a w, Q (.panic c) (a.put (some d) v) w → Q (.panic c) a w)
    (hy : YieldsIf P ops S oi v a) (hS : S w)
    (h : wpAnyH P md ops Q S fuel (listed.setIfInBounds i true) (a.put (some d) v) w) : wpAnyH P md ops Q S (fuel + 1) listed a w := by
  simp only [Bool.and_eq_true] at hs
  exact wpAnyH_take hi hs.1 hs.2.1 hs.2.2 (by rw [hd]; exact hQ) hy hS (by rw [hd]; exact h)
abbrev Step (P : Program) (md : Region.Mode) (ops : Array Oper) (Q : Exit → Act → World → Prop) (S : World → Prop) (fuel : Nat) (listed : Array Bool) (a : Act) (w : World) (i : Nat) (o : Oper) : Prop :=
  ∀ K' : Act → World → Prop, Shut (∀ a w, S w → (S w → wpAnyH P md ops Q S fuel (listed.setIfInBounds i true) a w) → K' a w) → if Region.wanted o (yielded ops a.tmps) = true then Oper.wp P o a w K' Q else K' (a.put o.dst undef) w
theorem rd1 {o : Oper} (i : Nat) (ho : ops[i]? = some o) (hr : Region.ready md ops listed = [i]) (h : Step P md ops Q S fuel listed a w i o) : wpAnyH P md ops Q S (fuel + 1) listed a w :=
  wpAnyH_ready hr (by simp) (AllReadyH.cons ho h AllReadyH.nil)
theorem rd2 {o o' : Oper} (i j : Nat) (ho : ops[i]? = some o) (ho' : ops[j]? = some o') (hr : Region.ready md ops listed = [i, j]) (h : Step P md ops Q S fuel listed a w i o) (h' : Step P md ops Q S fuel listed a w j o') : wpAnyH P md ops Q S (fuel + 1) listed a w :=
  wpAnyH_ready hr (by simp) (AllReadyH.cons ho h (AllReadyH.cons ho' h' AllReadyH.nil))
end
theorem hidS {α : Type} {d : Kd α} {ok : Nat → Prop} {w : World} {v : Value} {xs : List α} (h : Sl d ok w v xs) : RowKit.Hid (∀ W : World, Below w.heap.size w W → Sl d ok W v xs) := Lib.hid fun W hW => h.below hW
end Go.Proofs.Ytijlamajcdekkaa

/- Package wire, walked: numbers and rows of bytes as bytes. -/
namespace Go.Proofs.Ytijlamajcdekkaa
open Go.RowKit
set_option linter.unusedVariables false

theorem infoU8 : (Try.prog.info? 5).map (fun i => (i.zero, i.size, i.bytes)) = some (some (.int .u8 0), 1, 1) := by kernel_rfl

theorem clip_u8 {xs : List UInt8} {ok : Nat → Prop} {w : World} {A : Option Addr} {n c : Nat} (h : Sl kU8 ok w (.slice A n c) xs) :
    Calls Try.prog 105 #[.slice A n c] w fun e w' => e = .returned (.slice A n n) ∧ w = w' := by
  obtain ⟨hl, hn, hc, hA⟩ := h.len
  clear h hl
  go_enter Try.func105, Try.ntmps105
  go_wp2
  go_ret
  exact ⟨rfl, rfl⟩

/-- the last so many bytes of a number, the highest first -/
def be : Nat → Nat → List UInt8
  | 0, _ => []
  | k + 1, n => UInt8.ofNat (n / 2 ^ (8 * k)) :: be k n
theorem be_len : ∀ k n, (be k n).length = k
  | 0, _ => rfl
  | k + 1, n => by rw [be, List.length_cons, be_len]
theorem be_take (x : Nat) : ∀ m j, j < m → (be m x).take (m - j) = (be m x).take (m - (j + 1)) ++ [UInt8.ofNat (x / 2 ^ (8 * j))]
  | 0, j, h => by omega
  | m + 1, j, h => by
    by_cases e : j = m
    · subst e
      simp [be, show j + 1 - j = 1 by omega]
    · have := be_take x m j (by omega)
      rw [show m + 1 - j = (m - j) + 1 by omega, show m + 1 - (j + 1) = (m - (j + 1)) + 1 by omega, be, List.take_succ_cons, List.take_succ_cons, this]
      simp
theorem kU8_def : kU8 = scalar (fun x => .int .u8 (x.toNat : Int)) fun _ => rfl := rfl

theorem spell_u8 {xs : List UInt8} {ok : Nat → Prop} {w : World} {A : Option Addr} {n c : Nat} (h : Sl kU8 ok w (.slice A n c) xs) (x : Nat) (hx : x < 18446744073709551616) (m : Nat) (hm0 : 0 < m) (hm : m ≤ 8) (hn : n ≤ 1099511627776) :
    Calls Try.prog 93 #[.slice A n c, .int .u64 (x : Int), .int .i64 (m : Int)] w (RetOwn kU8 5 ok w (xs ++ be m x)) := by
  have H := Lib.hid h
  have hl := h.len.1
  clear h
  go_enter Try.func93, Try.ntmps93
  go_wp2_with (go_at_call 105; refine (clip_u8 H.out).mono ?_; rintro e w' ⟨rfl, rfl⟩)
  have HL := Lib.hid hl
  clear hl
  go_loopw [0, 2] (fun vb vm wr => ∃ k : Nat, k ≤ m ∧ vm = .int .i64 k ∧ (0 < k ∨ Own kU8 5 ok wr w.heap.size vb (xs ++ be m x)) ∧ Clp kU8 5 ok wr w.heap.size vb (xs ++ (be m x).take (m - k)) ∧ Below w.heap.size w wr) (fun _ vm _ => (intOf vm).toNat)
  case atStart => exact ⟨m, Nat.le_refl _, rfl, .inl hm0, .inl ⟨A, n, rfl, by rw [Nat.sub_self, List.take_zero, List.append_nil]; exact H.out.clip⟩, Below.refl _ _⟩
  case round =>
    obtain ⟨k, hk, rfl, h00, hc, hb⟩ := hrel
    have HO := Lib.hid h00
    have HC := Lib.hid hc
    have HB := Lib.hid hb
    clear h00 hc hb
    rcases Nat.eq_zero_or_pos k with rfl | hpos
    · go_wp2_with fail
      go_ret
      exact ⟨_, rfl, HO.out.resolve_left (Nat.lt_irrefl 0), HB.out⟩
    · obtain ⟨j, rfl⟩ : ∃ j, k = j + 1 := ⟨k - 1, by omega⟩
      have hjm : (j : Int) + 1 ≤ 8 := by omega
      go_wp2_with (at_builtin; refine at_append rfl (.tmp 13) (.tmp 19) 52 52 rfl rfl rfl (run_append_clp1 Try.underlying52 Try.underlying52 infoU8 rfl HC.out HB.out.size (UInt8.ofNat (x / 2 ^ (8 * j))) (by rw [List.length_append, List.length_take, be_len, HL.out]; omega) (by rw [List.length_append, List.length_take, be_len, HL.out]; omega)) ?_; rintro v' w' ⟨ho, hb⟩; have HO1 := Lib.hid ho; have HB1 := Lib.hid hb; clear ho hb)
      go_roundw
      case rel =>
        have e : xs ++ (be m x).take (m - (j + 1)) ++ [UInt8.ofNat (x / 2 ^ (8 * j))] = xs ++ (be m x).take (m - j) := by rw [List.append_assoc, be_take x m j (by omega)]
        refine ⟨j, by omega, rfl, ?_, .inr (e ▸ HO1.out), HB.out.trans HB1.out⟩
        rcases Nat.eq_zero_or_pos j with rfl | hj
        · right
          have := HO1.out
          rw [e, Nat.sub_zero, List.take_of_length_le (by rw [be_len]; exact Nat.le_refl _)] at this
          exact this
        · exact .inl hj
      case measure => simp [intOf]
theorem spell8_u8 {xs : List UInt8} {ok : Nat → Prop} {w : World} {A : Option Addr} {n c : Nat} (h : Sl kU8 ok w (.slice A n c) xs) (x : Int) (hx0 : 0 ≤ x) (hx : x < 18446744073709551616) (hn : n ≤ 1099511627776) :
    Calls Try.prog 93 #[.slice A n c, .int .u64 x, .int .i64 8] w (RetOwn kU8 5 ok w (xs ++ be 8 x.toNat)) := by
  obtain ⟨x, rfl⟩ := Int.eq_ofNat_of_zero_le hx0
  exact spell_u8 h x (by omega) 8 (by omega) (by omega) hn
theorem spell4_u8 {xs : List UInt8} {ok : Nat → Prop} {w : World} {A : Option Addr} {n c : Nat} (h : Sl kU8 ok w (.slice A n c) xs) (x : Int) (hx0 : 0 ≤ x) (hx : x < 18446744073709551616) (hn : n ≤ 1099511627776) :
    Calls Try.prog 93 #[.slice A n c, .int .u64 x, .int .i64 4] w (RetOwn kU8 5 ok w (xs ++ be 4 x.toNat)) := by
  obtain ⟨x, rfl⟩ := Int.eq_ofNat_of_zero_le hx0
  exact spell_u8 h x (by omega) 4 (by omega) (by omega) hn
/-- an int as bytes; a count as bytes; a row of bytes as bytes -/
def bInt (n : Int) : List UInt8 := be 8 (n % 18446744073709551616).toNat
def bCount (n : Nat) : List UInt8 := be 4 n
def bBytes (x : List UInt8) : List UInt8 := bCount x.length ++ x
theorem bInt_len (n : Int) : (bInt n).length = 8 := be_len _ _
theorem bCount_len (n : Nat) : (bCount n).length = 4 := be_len _ _
theorem bBytes_len (x : List UInt8) : (bBytes x).length = x.length + 4 := by unfold bBytes; rw [List.length_append, bCount_len]; omega
section
variable {xs ys : List UInt8} {ok : Nat → Prop} {w : World} {A B : Option Addr} {n c n' c' : Nat}
theorem putInt_c (h : Sl kU8 ok w (.slice A n c) xs) (x : Int) (hx0 : -9223372036854775808 ≤ x) (hx : x ≤ 9223372036854775807) (hn : n ≤ 1099511627776) :
    Calls Try.prog 71 #[.slice A n c, .int .i64 x] w (RetOwn kU8 5 ok w (xs ++ bInt x)) := by
  have H := Lib.hid h
  clear h
  go_enter Try.func71, Try.ntmps71
  go_wp2_with (go_at_call 93; refine (spell8_u8 H.out _ (by rw [IntKind.wrap_u64]; omega) (by rw [IntKind.wrap_u64]; omega) hn).mono ?_; rintro e w' ⟨v, rfl, ho⟩; rw [IntKind.wrap_u64] at ho; have HO := Lib.hid ho; clear ho)
  go_ret
  exact ⟨v, rfl, HO.out⟩
theorem putCount_c (h : Sl kU8 ok w (.slice A n c) xs) (x : Nat) (hx : x ≤ 4294967295) (hn : n ≤ 1099511627776) :
    Calls Try.prog 70 #[.slice A n c, .int .i64 (x : Int)] w (RetOwn kU8 5 ok w (xs ++ bCount x)) := by
  have H := Lib.hid h
  clear h
  have hx' : (x : Int) ≤ 4294967295 := by omega
  have hx0 : (0 : Int) ≤ x := by omega
  go_enter Try.func70, Try.ntmps70
  go_wp2_with (go_at_call 93; refine (spell4_u8 H.out _ (by omega) (by omega) hn).mono ?_; rintro e w' ⟨v, rfl, ho⟩; have HO := Lib.hid ho; clear ho)
  go_ret
  exact ⟨v, rfl, HO.out⟩
theorem putBytes_c (h : Sl kU8 ok w (.slice A n c) xs) {ok2 : Nat → Prop} (h2 : Sl kU8 ok2 w (.slice B n' c') ys) (hn : n ≤ 549755813888) (hn' : n' ≤ 4294967295) :
    Calls Try.prog 69 #[.slice A n c, .slice B n' c'] w (RetOwn kU8 5 ok w (xs ++ bBytes ys)) := by
  have H := Lib.hid h
  have H2 := Lib.hid h2
  have hl := h.len.1
  have hl2 := h2.len.1
  have hc' := h2.len.2.1
  have HL := Lib.hid (show (xs ++ bCount n').length + ys.length ≤ 140737488355328 by rw [List.length_append, bCount_len]; omega)
  have HL2 := Lib.hid hl2
  clear h h2 hl hl2
  go_enter Try.func69, Try.ntmps69
  go_wp2_with (first
    | (go_at_call 70; refine (putCount_c H.out n' (by omega) (by omega)).mono ?_; rintro e w' ⟨v, rfl, ho, hb⟩; have HO := Lib.hid ho; have HB := Lib.hid hb; clear ho hb)
    | (at_builtin; refine at_append rfl (.tmp 8) (.tmp 9) 52 52 rfl rfl rfl (run_append_own_sl Try.underlying52 Try.underlying52 infoU8 rfl HO.out HB.out.size (H2.out.below HB.out) (by have := HL.out; omega) HL.out) ?_; rintro v' w'' ⟨ho2, hb2⟩; have HO2 := Lib.hid ho2; have HB2 := Lib.hid (HB.out.trans hb2); clear ho2 hb2))
  go_ret
  refine ⟨v', rfl, ?_, HB2.out⟩
  have e : xs ++ bBytes ys = xs ++ bCount n' ++ ys := by rw [bBytes, HL2.out, List.append_assoc]
  rw [e]
  exact HO2.out
theorem own_empty (w : World) (ok : Nat → Prop) (t : TypeId) : Own kU8 t ok (w.alloc (.cells #[] t)) w.heap.size (.slice (some ⟨w.heap.size, 0, none⟩) 0 0) [] :=
  ⟨[], ⟨rfl, .inr ⟨w.heap.size, 0, #[], rfl, Nat.le_refl _, heap_new _ _, Nat.le_refl _, Nat.zero_le _, rfl, rfl⟩⟩, rfl⟩
theorem clone_u8 (h : Sl kU8 ok w (.slice A n c) xs) (hn : n ≤ 1099511627776) :
    Calls Try.prog 40 #[.slice A n c] w (RetOwn kU8 5 ok w xs) := by
  have H := Lib.hid h
  obtain ⟨hl, hnc, hc, hA⟩ := h.len
  have HL := Lib.hid hl
  clear h hl
  cases A with
  | none =>
    have hn0 : n = 0 := by have := hA rfl; omega
    subst hn0
    have hx : xs = [] := List.eq_nil_of_length_eq_zero HL.out
    subst hx
    have hq := fun W : World => Lib.run_eql_slice_nil (P := Try.prog) W 52 5 none 0 c 0 0 Try.underlying52
    clear hA
    go_enter Try.func40, Try.ntmps40
    go_wp2
    go_ret
    exact ⟨_, rfl, Own.nil _ _ _ _ _, Below.refl _ _⟩
  | some a =>
    have hq := fun W : World => Lib.run_eql_slice_nil (P := Try.prog) W 52 5 (some a) n c 0 0 Try.underlying52
    have B0 := Lib.hid (show Below w.heap.size w (w.alloc (.cells #[] 5)) from (Below.refl _ _).alloc (Nat.le_refl _) _)
    clear hA
    go_enter Try.func40, Try.ntmps40
    go_wp2_with (at_builtin; refine at_append rfl (.tmp 5) (.tmp 6) 52 52 rfl rfl rfl (run_append_own_sl Try.underlying52 Try.underlying52 infoU8 rfl (own_empty w ok 5) B0.out.size (H.out.below B0.out) (by rw [HL.out]; simp; omega) (by rw [HL.out]; simp; omega)) ?_; rintro v' w'' ⟨ho2, hb2⟩; have HO2 := Lib.hid ho2; have HB2 := Lib.hid (B0.out.trans hb2); clear ho2 hb2)
    go_ret
    exact ⟨v', rfl, HO2.out, HB2.out⟩
/-- a reader at block g: the bytes that are left, and its error -/
def Rd (ok : Nat → Prop) (g : Nat) (w : World) (rest : List UInt8) (err : Int) : Prop :=
  ∃ A c, w.heap[g]? = some (.cells #[.slice A rest.length c, .int .i64 err] 81 (0, 0)) ∧ Sl kU8 (fun k => ok k ∧ k ≠ g) w (.slice A rest.length c) rest ∧ rest.length ≤ 1099511627776
theorem new_c (h : Sl kU8 ok w (.slice A n c) xs) (hok : ∀ k, w.heap.size ≤ k → ok k) (hn : n ≤ 1099511627776) :
    Calls Try.prog 21 #[.slice A n c] w fun e w' => ∃ g, e = .returned (.pointer (some ⟨g, 0, none⟩)) ∧ w.heap.size ≤ g ∧ Rd ok g w' xs 0 ∧ Below w.heap.size w w' := by
  have HC := Lib.hid (clone_u8 (ok := ok) h hn)
  have hl := h.len.1
  have HL := Lib.hid hl
  clear h hl
  go_enter Try.func21, Try.ntmps21
  go_wp2_with fail
  refine HC.out.mono ?_
  rintro e w1 ⟨v, rfl, ho, hb⟩
  obtain ⟨A1, c1, rfl⟩ := ho.form
  have HO := Lib.hid ho
  have HB := Lib.hid hb
  clear ho hb
  go_wp2
  go_ret
  refine ⟨w1.heap.size, rfl, HB.out.size, ⟨A1, c1, heap_new _ _, ?_, by rw [HL.out]; exact hn⟩, HB.out.alloc HB.out.size _⟩
  exact (((HO.out.sl hok).bound).weak fun k hk => ⟨hk.1, by have := hk.2; omega⟩).below ((Below.refl _ _).alloc (Nat.le_refl _) _)
end

/-- bytes as a number, the highest first -/
def num (l : List UInt8) : Nat := l.foldl (fun n x => n * 256 + x.toNat) 0
theorem num_snoc (l : List UInt8) (x : UInt8) : num (l ++ [x]) = num l * 256 + x.toNat := by simp [num]
theorem num_lt (l : List UInt8) : num l < 256 ^ l.length := by
  have gen : ∀ (l : List UInt8) (a : Nat), l.foldl (fun n x => n * 256 + x.toNat) a < (a + 1) * 256 ^ l.length := by
    intro l
    induction l with
    | nil => intro a; simp
    | cons x l ih =>
      intro a
      have h := ih (a * 256 + x.toNat)
      have hx := x.toNat_lt
      rw [List.foldl_cons, List.length_cons, Nat.pow_succ]
      refine Nat.lt_of_lt_of_le h ?_
      rw [Nat.mul_comm (256 ^ l.length) 256, ← Nat.mul_assoc]
      exact Nat.mul_le_mul_right _ (by omega)
  have := gen l 0
  simpa [num] using this
theorem or_byte (a x : Nat) (ha : a < 72057594037927936) (hx : x < 256) : Go.bits .or .u64 ((a : Int) * 256) (x : Int) = (a : Int) * 256 + x := by
  rw [Go.u64_or _ _ (by omega) (by omega) (by omega) (by omega)]
  have h := Nat.two_pow_add_eq_or_of_lt (i := 8) (by omega : x < 2 ^ 8) a
  have e1 : ((a : Int) * 256).toNat = 2 ^ 8 * a := by omega
  have e2 : (x : Int).toNat = x := by omega
  rw [e1, e2, ← h]
  omega
theorem number_c {xs : List UInt8} {ok : Nat → Prop} {w : World} {A : Option Addr} {n c : Nat} (h : Sl kU8 ok w (.slice A n c) xs) (hn : n ≤ 8) :
    Calls Try.prog 88 #[.slice A n c] w fun e w' => e = .returned (.int .u64 (num xs : Int)) ∧ w = w' := by
  have H := Lib.hid h
  clear h
  go_enter Try.func88, Try.ntmps88
  go_wp2_with fail
  go_loop [2, 7] (fun u v => ∃ k : Nat, k ≤ n ∧ u = .int .u64 (num (xs.take k) : Int) ∧ v = .int .i64 k) (fun _ v => n - (intOf v).toNat)
  case atStart => exact ⟨0, Nat.zero_le _, rfl, rfl⟩
  case round =>
    obtain ⟨k, hk, rfl, rfl⟩ := hrel
    by_cases hlt : k < n
    · obtain ⟨ad, x, rfl, hx, hc⟩ := H.out.at1 hlt
      have hlen := H.out.len.1
      have hs : num (xs.take (k + 1)) = num (xs.take k) * 256 + x.toNat := by
        rw [List.take_add_one, hx]; exact num_snoc _ _
      have hb : num (xs.take k) < 72057594037927936 := by
        have h1 := num_lt (xs.take k)
        rw [List.length_take, hlen, Nat.min_eq_left hk] at h1
        have h2 : 256 ^ k ≤ 256 ^ 7 := Nat.pow_le_pow_right (by decide) (by omega)
        omega
      have hor := or_byte _ _ hb x.toNat_lt
      have HS := Lib.hid hs
      clear hs hx hlen
      generalize num (xs.take k) = N at *
      have hx2 : (x.toNat : Int) < 256 := by have := x.toNat_lt; omega
      have hx1 : (0 : Int) ≤ x.toNat := by omega
      go_wp2_with fail
      go_round
      case rel => exact ⟨k + 1, by omega, by rw [HS.out]; go_num, by go_num⟩
      case measure => simp [intOf]; omega
    · have e : num (xs.take k) = num xs := by rw [List.take_of_length_le (by rw [H.out.len.1]; omega)]
      rw [e]
      clear e
      go_wp2_with fail
      go_ret
      exact ⟨rfl, rfl⟩
end Go.Proofs.Ytijlamajcdekkaa

/- What comes in, opened: from the row's reading to the kinds (with a bound of the reading's depth, for types that hold themselves). -/
namespace Go.Proofs.Ytijlamajcdekkaa
open Go.RowKit Go.ChangeShapes Go.WideShapes Go.ChangeAt Go.Deep
set_option linter.unusedVariables false
theorem own : ownKnob Try.prog.godebug = none := by kernel_rfl
theorem laidOut : laidOutB Try.prog = true := by kernel_rfl
theorem list_of {α : Type} {p : Nat → α → Prop} : ∀ n, (∀ i, i < n → ∃ y, p i y) → ∃ l : List α, l.length = n ∧ ∀ i y, l[i]? = some y → p i y
  | 0, _ => ⟨[], rfl, fun i y hy => by simp at hy⟩
  | n + 1, ex => by
    obtain ⟨l, hl, hh⟩ := list_of n (fun i hil => ex i (by omega))
    obtain ⟨y, hy⟩ := ex n (by omega)
    refine ⟨l ++ [y], by simp [hl], fun i z hz => ?_⟩
    by_cases hil : i < l.length
    · rw [List.getElem?_append_left hil] at hz
      exact hh i z hz
    · rw [List.getElem?_append_right (by omega)] at hz
      have h0 : i - l.length = 0 := by
        have := (List.getElem?_eq_some_iff.1 hz).1
        simp at this
        omega
      rw [h0] at hz
      simp at hz
      have hil2 : i = n := by omega
      subst hz
      rw [hil2]
      exact hy
section
variable {α β γ : Type} {P : Program} {N : Nat}
/-- whatever reads as type t is of the kind d, and q -/
def Opens (P : Program) (N : Nat) (t : TypeId) (d : Kd α) (q : α → Prop) : Prop :=
  ∀ (H : Type) (enc : TypeId × Value → H) (w : World) (base : Nat) (spare : Nat → Bool) (held : Bool) (fuel : Nat) (cs : List Value) (x : DataW H × List MemPlace), fuel ≤ N →
    DataW.trod enc P w base spare held fuel t cs = some x → ∃ a, d.R (fun _ => True) w cs a ∧ q a
theorem Opens.weak {t : TypeId} {d : Kd α} {q q' : α → Prop} (h : Opens P N t d q) (hq : ∀ a, q a → q' a) : Opens P N t d q' := fun H enc w base spare held fuel cs x hN hx => by
  obtain ⟨a, h1, h2⟩ := h H enc w base spare held fuel cs x hN hx
  exact ⟨a, h1, hq a h2⟩
theorem opens_int {t : TypeId} {k : IntKind} (ht : P.underlying t = some (.int k)) : Opens P N t (kInt k) (fun n => k.min ≤ n ∧ n ≤ k.max) := fun H enc w base spare held fuel cs x hN hx => by
  obtain ⟨n, rfl, _, hw⟩ := DataW.trod_int ht hx
  have hw' : (decide (k.min ≤ n) && decide (n ≤ k.max)) = true := hw
  rw [Bool.and_eq_true, decide_eq_true_iff, decide_eq_true_iff] at hw'
  exact ⟨n, rfl, hw'⟩
theorem opens_u8 {t : TypeId} (ht : P.underlying t = some (.int .u8)) : Opens P N t kU8 (fun _ => True) := fun H enc w base spare held fuel cs x hN hx => by
  obtain ⟨n, rfl, _, hw⟩ := DataW.trod_int ht hx
  have hw' : (decide ((0 : Int) ≤ n) && decide (n ≤ 255)) = true := hw
  rw [Bool.and_eq_true, decide_eq_true_iff, decide_eq_true_iff] at hw'
  refine ⟨UInt8.ofNat n.toNat, ?_, trivial⟩
  show [Value.int .u8 n] = [Value.int .u8 ((UInt8.ofNat n.toNat).toNat : Int)]
  have : ((UInt8.ofNat n.toNat).toNat : Int) = n := by simp; omega
  rw [this]
theorem opens_bool {t : TypeId} (ht : P.underlying t = some .bool) : Opens P N t kBool (fun _ => True) := fun H enc w base spare held fuel cs x hN hx => by
  obtain ⟨b, rfl, _⟩ := DataW.trod_bool ht hx
  exact ⟨b, rfl, trivial⟩
theorem opens_str {t : TypeId} (ht : P.underlying t = some .string) : Opens P N t kStr (fun l => l.length ≤ 9223372036854775807) := fun H enc w base spare held fuel cs x hN hx => by
  obtain ⟨s, rfl, _, hs⟩ := DataW.trod_string ht hx
  refine ⟨s.data.toList, by show _ = [_]; simp, ?_⟩
  show s.data.toList.length ≤ _
  rw [Array.length_toList]
  exact hs
theorem Opens.le {t : TypeId} {d : Kd α} {q : α → Prop} {M : Nat} (h : Opens P N t d q) (hm : M ≤ N) : Opens P M t d q := fun H enc w base spare held fuel cs x hN hx => h H enc w base spare held fuel cs x (Nat.le_trans hN hm) hx
theorem opens_slice {t e : TypeId} {d : Kd α} {q : α → Prop} (ht : P.underlying t = some (.slice e)) (hc : P.cellsOf e = d.sz) (h : Opens P N e d q) : Opens P N t (kSl d) (fun l => ∀ a ∈ l, q a) := fun H enc w base spare held fuel cs x hN hx => by
  rcases DataW.trod_slice ht hx with ⟨rfl, _⟩ | ⟨a, len, cap, elems, rest, n, hf, rfl, rfl, hb, hl, hm, hlen, hel, hsp, hns⟩
  · exact ⟨[], ⟨_, rfl, Sl.nil _ _ _⟩, fun a ha => by cases ha⟩
  · have ex : ∀ i, i < len → ∃ y : α, q y ∧ ∃ cs', d.R (fun _ => True) w cs' y ∧ ∀ j u, cs'[j]? = some u → w.cell? (a.add (i * d.sz + j)) = some u := fun i hil => by
      have h0 := hel i hil
      rw [List.getElem?_eq_getElem (show i < elems.length by omega)] at h0
      obtain ⟨cs', h1, h2⟩ := Option.bind_eq_some_iff.1 h0
      obtain ⟨y, hy, hq⟩ := h H enc w base spare held n cs' _ (by omega) h2
      refine ⟨y, hq, cs', hy, fun j u hu => ?_⟩
      obtain ⟨_, hlen, hat⟩ := World.cells?_some h1
      have hj : j < cs'.length := (List.getElem?_eq_some_iff.1 hu).1
      have := hat j (by omega)
      rw [← Go.Deep.add_add, ← hc, this]
      exact hu
    have hk := list_of len ex
    obtain ⟨l, hll, hh⟩ := hk
    refine ⟨l, ⟨_, rfl, some a, len, cap, rfl, hll, hl, hm, fun e => (nomatch e), fun i y hy => ?_⟩, fun y hy => ?_⟩
    · obtain ⟨_, cs', hr, hcell⟩ := hh i y hy
      exact ⟨a, cs', rfl, trivial, hr, hcell⟩
    · obtain ⟨i, hi', rfl⟩ := List.getElem_of_mem hy
      exact (hh i _ (List.getElem?_eq_getElem hi')).1
/-- fields from a place on -/
def OpensF (P : Program) (N : Nat) (fs : List Field) (off : Nat) (d : Kd α) (q : α → Prop) : Prop :=
  ∀ (H : Type) (enc : TypeId × Value → H) (w : World) (base : Nat) (spare : Nat → Bool) (held : Bool) (fuel : Nat) (cs : List Value), fuel ≤ N →
    (∀ f ∈ fs, ∃ x, DataW.trod enc P w base spare held fuel f.type ((cs.drop f.offset).take (P.cellsOf f.type)) = some x) → cs.length = off + d.sz → ∃ a, d.R (fun _ => True) w (cs.drop off) a ∧ q a
theorem opensF_one {f : Field} {off : Nat} {d : Kd α} {q : α → Prop} (ho : f.offset = off) (hc : P.cellsOf f.type = d.sz) (h : Opens P N f.type d q) : OpensF P N [f] off d q := fun H enc w base spare held fuel cs hN hf hlen => by
  obtain ⟨x, hx⟩ := hf f (by simp)
  obtain ⟨a, h1, h2⟩ := h H enc w base spare held fuel _ x hN hx
  rw [ho, hc, List.take_of_length_le (by rw [List.length_drop]; omega)] at h1
  exact ⟨a, h1, h2⟩
theorem opensF_cons {f : Field} {fs : List Field} {off : Nat} {d : Kd α} {d2 : Kd β} {q : α → Prop} {q2 : β → Prop} (ho : f.offset = off) (hc : P.cellsOf f.type = d.sz) (h : Opens P N f.type d q) (h2 : OpensF P N fs (off + d.sz) d2 q2) :
    OpensF P N (f :: fs) off (kPair d d2) (fun a => q a.1 ∧ q2 a.2) := fun H enc w base spare held fuel cs hN hf hlen => by
  have hlen' : cs.length = off + (d.sz + d2.sz) := hlen
  obtain ⟨x, hx⟩ := hf f (by simp)
  obtain ⟨a, h1, hq⟩ := h H enc w base spare held fuel _ x hN hx
  obtain ⟨b, h3, hq2⟩ := h2 H enc w base spare held fuel cs hN (fun g hg => hf g (by simp [hg])) (by omega)
  rw [ho, hc] at h1
  refine ⟨(a, b), ⟨_, _, ?_, h1, h3⟩, hq, hq2⟩
  rw [← List.drop_drop, List.take_append_drop]
theorem opensF_cons2 {f : Field} {fs : List Field} {off : Nat} {d : Kd α} {d' : Kd γ} {d2 : Kd β} {q : α × γ → Prop} {q2 : β → Prop} (ho : f.offset = off) (hc : P.cellsOf f.type = d.sz + d'.sz) (h : Opens P N f.type (kPair d d') q) (h2 : OpensF P N fs (off + (d.sz + d'.sz)) d2 q2) :
    OpensF P N (f :: fs) off (kPair d (kPair d' d2)) (fun a => q (a.1, a.2.1) ∧ q2 a.2.2) := fun H enc w base spare held fuel cs hN hf hlen => by
  have hlen' : cs.length = off + (d.sz + (d'.sz + d2.sz)) := hlen
  obtain ⟨⟨⟨a, a'⟩, b⟩, ⟨c1, c2, e, ⟨c3, c4, e2, r1, r2⟩, r3⟩, hq⟩ := opensF_cons (d := kPair d d') ho hc h h2 H enc w base spare held fuel cs hN hf (by show cs.length = off + (d.sz + d'.sz + d2.sz); omega)
  exact ⟨(a, a', b), ⟨c3, c4 ++ c2, by rw [e, e2, List.append_assoc], r1, c4, c2, rfl, r2, r3⟩, hq⟩
theorem opens_struct {t : TypeId} {fs : Array Field} {d : Kd α} {q : α → Prop} (ht : P.underlying t = some (.struct fs)) (hc : P.cellsOf t = d.sz) (h : OpensF P N fs.toList 0 d q) : Opens P (N + 1) t d q := fun H enc w base spare held fuel cs x hN hx => by
  obtain ⟨xs, n, hn, _, hlen, hxl, hf⟩ := DataW.trod_struct ht hx
  obtain ⟨a, h1, h2⟩ := h H enc w base spare held n cs (by omega) (fun f hfm => by
    obtain ⟨i, hi, rfl⟩ := List.getElem_of_mem hfm
    have hi' : i < fs.size := by simpa using hi
    have := hf i fs[i] (Array.getElem?_eq_getElem hi')
    rw [List.getElem?_eq_getElem (by omega)] at this
    exact ⟨_, by simpa using this⟩) (by rw [hlen, hc, Nat.zero_add])
  exact ⟨a, by simpa using h1, h2⟩
theorem opens_none {t : TypeId} {d : Kd α} {q : α → Prop} : Opens P 0 t d q := fun H enc w base spare held fuel cs x hN hx => by
  have : fuel = 0 := by omega
  subst this
  simp [DataW.trod] at hx
theorem opens_iso {t : TypeId} {d : Kd β} {q : β → Prop} (f : α → β) (g : β → α) (hfg : ∀ b, f (g b) = b) (h : Opens P N t d q) : Opens P N t (kIso d f) (fun a => q (f a)) := fun H enc w base spare held fuel cs x hN hx => by
  obtain ⟨b, h1, h2⟩ := h H enc w base spare held fuel cs x hN hx
  exact ⟨g b, by show d.R _ w cs (f (g b)); rw [hfg]; exact h1, by show q (f (g b)); rw [hfg]; exact h2⟩
end
end Go.Proofs.Ytijlamajcdekkaa

/- Expressions, values and fields in memory. -/
namespace Go.Proofs.Ytijlamajcdekkaa
open Go.RowKit
set_option linter.unusedVariables false
structure Val where
  kind : Int
  int : Int
  bool : Bool
  text : List UInt8
  num : Nat
  deriving DecidableEq
structure Fld where
  name : List UInt8
  kind : Int
  enum : List (List UInt8)
  init : Val
  deriving DecidableEq
inductive Exp where
  | mk (op : Int) (kids : List Exp) (name : List UInt8) (val : Val)
def Exp.op : Exp → Int | .mk o _ _ _ => o
def Exp.kids : Exp → List Exp | .mk _ k _ _ => k
def Exp.name : Exp → List UInt8 | .mk _ _ n _ => n
def Exp.val : Exp → Val | .mk _ _ _ v => v
def kI : Kd Int := kInt .i64
def kVal : Kd Val := kIso (kPair kI (kPair kI (kPair kBool (kPair kStr kF64)))) fun v => (v.kind, v.int, v.bool, v.text, v.num)
def kFld : Kd Fld := kIso (kPair kStr (kPair kI (kPair (kSl kStr) kVal))) fun f => (f.name, f.kind, f.enum, f.init)
def kNo (α : Type) (n : Nat) (h : 0 < n) : Kd α where
  sz := n
  pos := h
  R := fun _ _ _ _ => False
  len := fun h => h.elim
  one := fun h => h.elim
  move := fun h _ => h.elim
  weak := fun h _ => h.elim
/-- expressions of so many stories -/
def kExp : Nat → Kd Exp
  | 0 => kNo Exp 8 (by decide)
  | n + 1 => kIso (kPair kI (kPair (kSl (kExp n)) (kPair kStr kVal))) fun e => (e.op, e.kids, e.name, e.val)
theorem kExp_sz (n : Nat) : (kExp n).sz = 8 := by cases n <;> rfl
section
variable {ok : Nat → Prop} {w : World} {cs : List Value}
theorem val_open {v : Val} (h : kVal.R ok w cs v) : cs = [.int .i64 v.kind, .int .i64 v.int, .bool v.bool, .string ⟨v.text.toArray⟩, .float .f64 v.num] := by
  obtain ⟨_, _, rfl, rfl, _, _, rfl, rfl, _, _, rfl, rfl, _, _, rfl, rfl, rfl⟩ := h
  rfl
theorem val_mk (ok : Nat → Prop) (w : World) (v : Val) : kVal.R ok w [.int .i64 v.kind, .int .i64 v.int, .bool v.bool, .string ⟨v.text.toArray⟩, .float .f64 v.num] v :=
  ⟨[_], _, rfl, rfl, [_], _, rfl, rfl, [_], _, rfl, rfl, [_], _, rfl, rfl, rfl⟩
theorem fld_open {f : Fld} (h : kFld.R ok w cs f) : ∃ A c, cs = [.string ⟨f.name.toArray⟩, .int .i64 f.kind, .slice A f.enum.length c, .int .i64 f.init.kind, .int .i64 f.init.int, .bool f.init.bool, .string ⟨f.init.text.toArray⟩, .float .f64 f.init.num] ∧ Sl kStr ok w (.slice A f.enum.length c) f.enum := by
  obtain ⟨_, _, rfl, rfl, _, _, rfl, rfl, _, _, rfl, ⟨v, rfl, hs⟩, hv⟩ := h
  obtain ⟨A, c, rfl, _⟩ := hs.form
  have := val_open hv
  subst this
  exact ⟨A, c, rfl, hs⟩
theorem fld_mk {f : Fld} {v : Value} (h : Sl kStr ok w v f.enum) : kFld.R ok w [.string ⟨f.name.toArray⟩, .int .i64 f.kind, v, .int .i64 f.init.kind, .int .i64 f.init.int, .bool f.init.bool, .string ⟨f.init.text.toArray⟩, .float .f64 f.init.num] f :=
  ⟨[_], _, rfl, rfl, [_], _, rfl, rfl, [_], _, rfl, ⟨v, rfl, h⟩, val_mk _ _ _⟩
theorem exp_open {n : Nat} {e : Exp} (h : (kExp n).R ok w cs e) : ∃ k A c, n = k + 1 ∧ cs = [.int .i64 e.op, .slice A e.kids.length c, .string ⟨e.name.toArray⟩, .int .i64 e.val.kind, .int .i64 e.val.int, .bool e.val.bool, .string ⟨e.val.text.toArray⟩, .float .f64 e.val.num] ∧ Sl (kExp k) ok w (.slice A e.kids.length c) e.kids := by
  cases n with
  | zero => exact h.elim
  | succ k =>
    obtain ⟨_, _, rfl, rfl, _, _, rfl, ⟨v, rfl, hs⟩, _, _, rfl, rfl, hv⟩ := h
    obtain ⟨A, c, rfl, _⟩ := hs.form
    have := val_open hv
    subst this
    exact ⟨k, A, c, rfl, rfl, hs⟩
theorem exp_mk {n : Nat} {e : Exp} {v : Value} (h : Sl (kExp n) ok w v e.kids) : (kExp (n + 1)).R ok w [.int .i64 e.op, v, .string ⟨e.name.toArray⟩, .int .i64 e.val.kind, .int .i64 e.val.int, .bool e.val.bool, .string ⟨e.val.text.toArray⟩, .float .f64 e.val.num] e :=
  ⟨[_], _, rfl, rfl, [_], _, rfl, ⟨v, rfl, h⟩, [_], _, rfl, rfl, val_mk _ _ _⟩
/-- more stories do no harm -/
theorem Sl.kind {α : Type} {d d' : Kd α} (hsz : d.sz = d'.sz) (hR : ∀ {ok w cs x}, d.R ok w cs x → d'.R ok w cs x) {v : Value} {xs : List α} (h : Sl d ok w v xs) : Sl d' ok w v xs := by
  obtain ⟨A, n, c, e, hl, hn, hc, hA, hx⟩ := h
  refine ⟨A, n, c, e, hl, hn, hc, hA, fun i x hi => ?_⟩
  obtain ⟨ad, cs, ea, ho, hr, hcell⟩ := hx i x hi
  exact ⟨ad, cs, ea, ho, hR hr, fun j u hu => by rw [← hsz]; exact hcell j u hu⟩
theorem exp_up : ∀ (n : Nat) {ok : Nat → Prop} {w : World} {cs : List Value} {e : Exp}, (kExp n).R ok w cs e → (kExp (n + 1)).R ok w cs e
  | 0, _, _, _, _, h => h.elim
  | n + 1, _, _, _, _, h => by
    obtain ⟨_, _, rfl, h1, _, _, rfl, ⟨v, rfl, hs⟩, h2⟩ := h
    exact ⟨_, _, rfl, h1, _, _, rfl, ⟨v, rfl, hs.kind (by rw [kExp_sz, kExp_sz]) (fun hr => exp_up n hr)⟩, h2⟩
theorem exp_le {n m : Nat} (hm : n ≤ m) {e : Exp} (h : (kExp n).R ok w cs e) : (kExp m).R ok w cs e := by
  induction hm with
  | refl => exact h
  | step _ ih => exact exp_up _ ih
/-- a part in a slice: its cells, as the walk has them -/
theorem cells_at {α : Type} {d : Kd α} {A : Option Addr} {n c : Nat} {l : List α} (h : Sl d ok w (.slice A n c) l) {i : Nat} (hi : i < n) :
    ∃ ad e cs, A = some ad ∧ l[i]? = some e ∧ d.R ok w cs e ∧ (∀ u, cs[0]? = some u → w.cell? (ad.add (i * d.sz)) = some u) ∧ ∀ j u, cs[j + 1]? = some u → w.cell? ⟨(ad.add (i * d.sz)).block, (ad.add (i * d.sz)).off + (j + 1), none⟩ = some u := by
  have hl := h.len.1
  obtain ⟨ad, cs, ea, _, hr, hc⟩ := h.at_ (List.getElem?_eq_getElem (show i < l.length by omega))
  refine ⟨ad, _, cs, ea, List.getElem?_eq_getElem (by omega), hr, fun u hu => by simpa using hc 0 u hu, fun j u hu => ?_⟩
  rw [← add_field ad (i * d.sz) (j + 1) (by omega)]
  exact hc (j + 1) u hu
end
end Go.Proofs.Ytijlamajcdekkaa

/- Expressions, values and fields that come in, opened. -/
namespace Go.Proofs.Ytijlamajcdekkaa
open Go.RowKit Go.ChangeShapes Go.WideShapes Go.ChangeAt Go.Deep
set_option linter.unusedVariables false
def i64 (x : Int) : Prop := -9223372036854775808 ≤ x ∧ x ≤ 9223372036854775807
theorem opens_i64 {N : Nat} {t : TypeId} (ht : Try.prog.underlying t = some (.int .i64)) : Opens Try.prog N t kI i64 := opens_int ht
theorem opens_wf {n : Int} (h : (Lit.int .i64 n).wf = true) : i64 n := by
  have hw : (decide ((-9223372036854775808 : Int) ≤ n) && decide (n ≤ 9223372036854775807)) = true := h
  rw [Bool.and_eq_true, decide_eq_true_iff, decide_eq_true_iff] at hw
  exact hw
theorem trod_f64 {H : Type} {enc : TypeId × Value → H} {P : Program} {w : World} {base : Nat} {spare : Nat → Bool} {held : Bool} {fuel : Nat} {t : TypeId} {cs : List Value} {x : DataW H × List MemPlace} {k : FloatKind} (ht : P.underlying t = some (.float k)) (h : DataW.trod enc P w base spare held fuel t cs = some x) : ∃ n, cs = [.float k n] ∧ x = (.lit (.float k n), []) ∧ (Lit.float k n).wf = true := by
  cases fuel with
  | zero => simp [DataW.trod] at h
  | succ n =>
    unfold DataW.trod at h
    rw [ht] at h
    split at h <;> simp_all
theorem opens_f64 {N : Nat} {t : TypeId} (ht : Try.prog.underlying t = some (.float .f64)) : Opens Try.prog N t kF64 (fun b => b < 2 ^ 64) := fun H enc w base spare held fuel cs x hN hx => by
  obtain ⟨b, rfl, _, hw⟩ := trod_f64 ht hx
  exact ⟨b, rfl, of_decide_eq_true hw⟩
/-- a value whose numbers are of their kind -/
structure ValI (v : Val) : Prop where
  kind : i64 v.kind
  int : i64 v.int
  num : v.num < 2 ^ 64
theorem opens_val {N : Nat} : Opens Try.prog N 25 kVal ValI := by
  cases N with
  | zero => exact opens_none
  | succ N =>
    exact (opens_iso (fun v : Val => (v.kind, v.int, v.bool, v.text, v.num)) (fun p => ⟨p.1, p.2.1, p.2.2.1, p.2.2.2.1, p.2.2.2.2⟩) (fun _ => rfl) (opens_struct Try.underlying25 (by kernel_rfl)
      (opensF_cons rfl (by kernel_rfl) (opens_i64 Try.underlying3) (opensF_cons rfl (by kernel_rfl) (opens_i64 Try.underlying2) (opensF_cons rfl (by kernel_rfl) (opens_bool Try.underlying4)
        (opensF_cons rfl (by kernel_rfl) (opens_str Try.underlying9) (opensF_one rfl (by kernel_rfl) (opens_f64 Try.underlying23)))))))).weak fun v h => ⟨h.1, h.2.1, h.2.2.2.2⟩
theorem opens_vals {N : Nat} : Opens Try.prog N 29 (kSl kVal) (fun l => ∀ v ∈ l, ValI v) := opens_slice Try.underlying29 (by kernel_rfl) opens_val
theorem opens_fld {N : Nat} : Opens Try.prog N 50 kFld (fun f => i64 f.kind ∧ ValI f.init) := by
  cases N with
  | zero => exact opens_none
  | succ N =>
    exact (opens_iso (fun f : Fld => (f.name, f.kind, f.enum, f.init)) (fun p => ⟨p.1, p.2.1, p.2.2.1, p.2.2.2⟩) (fun _ => rfl) (opens_struct Try.underlying50 (by kernel_rfl)
      (opensF_cons rfl (by kernel_rfl) (opens_str Try.underlying9) (opensF_cons rfl (by kernel_rfl) (opens_i64 Try.underlying3) (opensF_cons rfl (by kernel_rfl) (opens_slice Try.underlying48 (by kernel_rfl) (opens_str Try.underlying9))
        (opensF_one rfl (by kernel_rfl) opens_val)))))).weak fun f h => ⟨h.2.1, h.2.2.2⟩
theorem opens_flds {N : Nat} : Opens Try.prog N 28 (kSl kFld) (fun l => ∀ f ∈ l, i64 f.kind ∧ ValI f.init) := opens_slice Try.underlying28 (by kernel_rfl) opens_fld
/-- an expression whose numbers are of their kind -/
inductive ExpI : Exp → Prop where
  | mk {op : Int} {kids : List Exp} {name : List UInt8} {val : Val} : i64 op → (∀ k ∈ kids, ExpI k) → ValI val → ExpI (.mk op kids name val)
theorem opens_exp : ∀ N : Nat, Opens Try.prog N 27 (kExp N) ExpI
  | 0 => opens_none
  | N + 1 =>
    (opens_iso (d := kPair kI (kPair (kSl (kExp N)) (kPair kStr kVal))) (fun e : Exp => (e.op, e.kids, e.name, e.val)) (fun p => .mk p.1 p.2.1 p.2.2.1 p.2.2.2) (fun _ => rfl) (opens_struct Try.underlying27 (by show _ = 8; kernel_rfl)
      (opensF_cons rfl (by kernel_rfl) (opens_i64 Try.underlying3) (opensF_cons rfl (by kernel_rfl) (opens_slice Try.underlying22 (by rw [kExp_sz]; kernel_rfl) (opens_exp N))
        (opensF_cons rfl (by kernel_rfl) (opens_str Try.underlying9) (opensF_one rfl (by kernel_rfl) opens_val)))))).weak fun e h => by
      obtain ⟨op, kids, name, val⟩ := e
      exact .mk h.1 h.2.1 h.2.2.2
end Go.Proofs.Ytijlamajcdekkaa

/- Package expr, walked: is an expression small? -/
namespace Go.Proofs.Ytijlamajcdekkaa
open Go.RowKit
set_option linter.unusedVariables false
def Loc1 (N : Nat) (t : TypeId) (cm : Array Value) (W : World) : Prop := W.heap[N]? = some (.cells cm t (0, 0))
theorem Loc1.below {N : Nat} {t : TypeId} {cm : Array Value} {W W' : World} (h : Loc1 N t cm W) (hb : Below W.heap.size W W') : Loc1 N t cm W' := (hb.block _ (lt_of_heap h)).trans h
theorem Loc1.ext {N g : Nat} {t : TypeId} {cm : Array Value} {W W' : World} (h : Loc1 N t cm W) (hb : Ext (fun k => k ≠ g) W W') (hn : N ≠ g) : Loc1 N t cm W' := (hb.block _ (lt_of_heap h) hn).trans h
theorem heap_set_ne' {w : World} {b k : Nat} {o : Obj} (h : w.heap[k]? = some o) (hb : k ≠ b) (i : Nat) (u : Value) : (w.setCell ⟨b, i, none⟩ u).heap[k]? = some o := (Below.heap_setCell _ _ _ _ hb).trans h
/-- a float is stored -/
theorem store_f64 (w : World) (a : Addr) (b : Nat) : (store a (.float .f64 b)).run Try.prog w = stored Try.prog w a (.float .f64 b) .plain := run_store Try.prog w a _ _ rfl
/-- an expression's cells -/
def eCells (e : Exp) (A : Option Addr) (c : Nat) : Array Value := #[.int .i64 e.op, .slice A e.kids.length c, .string ⟨e.name.toArray⟩, .int .i64 e.val.kind, .int .i64 e.val.int, .bool e.val.bool, .string ⟨e.val.text.toArray⟩, .float .f64 e.val.num]
theorem exp_at {ok : Nat → Prop} {w : World} {n : Nat} {A : Option Addr} {N c : Nat} {l : List Exp} (h : Sl (kExp n) ok w (.slice A N c) l) {i : Nat} (hi : i < N) :
    ∃ ad e k B d, A = some ad ∧ l[i]? = some e ∧ n = k + 1 ∧ Sl (kExp k) ok w (.slice B e.kids.length d) e.kids ∧ w.cell? (ad.add (i * 8)) = some (.int .i64 e.op) ∧
      w.cell? ⟨(ad.add (i * 8)).block, (ad.add (i * 8)).off + 1, none⟩ = some (.slice B e.kids.length d) ∧ w.cell? ⟨(ad.add (i * 8)).block, (ad.add (i * 8)).off + 2, none⟩ = some (.string ⟨e.name.toArray⟩) ∧
      w.cell? ⟨(ad.add (i * 8)).block, (ad.add (i * 8)).off + 3, none⟩ = some (.int .i64 e.val.kind) ∧ w.cell? ⟨(ad.add (i * 8)).block, (ad.add (i * 8)).off + 4, none⟩ = some (.int .i64 e.val.int) ∧
      w.cell? ⟨(ad.add (i * 8)).block, (ad.add (i * 8)).off + 5, none⟩ = some (.bool e.val.bool) ∧ w.cell? ⟨(ad.add (i * 8)).block, (ad.add (i * 8)).off + 6, none⟩ = some (.string ⟨e.val.text.toArray⟩) ∧
      w.cell? ⟨(ad.add (i * 8)).block, (ad.add (i * 8)).off + 7, none⟩ = some (.float .f64 e.val.num) := by
  obtain ⟨ad, e, cs, ea, he, hr, h0, hj⟩ := cells_at h hi
  rw [kExp_sz] at h0 hj
  obtain ⟨k, B, d, rfl, rfl, hs⟩ := exp_open hr
  exact ⟨ad, e, k, B, d, ea, he, rfl, hs, h0 _ rfl, hj 0 _ rfl, hj 1 _ rfl, hj 2 _ rfl, hj 3 _ rfl, hj 4 _ rfl, hj 5 _ rfl, hj 6 _ rfl⟩
/-- what is left of the parts; false: it is not small -/
def spD : Nat → Exp → Int → Bool × Int
  | 0, _, n => (false, n - 1)
  | d + 1, e, n => if n - 1 < 0 then (false, n - 1) else e.kids.foldl (fun r k => if r.1 then spD d k r.2 else r) (true, n - 1)
abbrev spF (d : Nat) (r : Bool × Int) (k : Exp) : Bool × Int := if r.1 then spD d k r.2 else r
theorem spF_no (d : Nat) : ∀ (l : List Exp) (n : Int), l.foldl (spF d) (false, n) = (false, n)
  | [], _ => rfl
  | k :: l, n => by rw [List.foldl_cons]; exact spF_no d l n
theorem spF_next {d : Nat} {l : List Exp} {i : Nat} {x : Exp} {a : Bool × Int} {n : Int} (h : (l.take i).foldl (spF d) a = (true, n)) (hx : l[i]? = some x) : (l.take (i + 1)).foldl (spF d) a = spD d x n := by
  rw [List.take_add_one, hx, List.foldl_append, h]
  rfl
theorem spF_stop {d : Nat} {l : List Exp} {i : Nat} {x : Exp} {a : Bool × Int} {n m : Int} (h : (l.take i).foldl (spF d) a = (true, n)) (hx : l[i]? = some x) (hs : spD d x n = (false, m)) : l.foldl (spF d) a = (false, m) := by
  have := spF_next h hx
  rw [hs] at this
  rw [← List.take_append_drop (i + 1) l, List.foldl_append, this, spF_no]
theorem spD_le : ∀ (d : Nat) (e : Exp) (n m : Int), spD d e n = (true, m) → 0 ≤ m ∧ m ≤ n
  | 0, e, n, m, h => by simp [spD] at h
  | d + 1, e, n, m, h => by
    rw [spD] at h
    by_cases hn : n - 1 < 0
    · rw [if_pos hn] at h
      simp at h
    · rw [if_neg hn] at h
      have : ∀ (l : List Exp) (n m : Int), 0 ≤ n → l.foldl (spF d) (true, n) = (true, m) → 0 ≤ m ∧ m ≤ n := by
        intro l
        induction l with
        | nil => intro n m hn h; simp at h; omega
        | cons k l ih =>
          intro n m hn h
          rw [List.foldl_cons] at h
          have e1 : spF d (true, n) k = spD d k n := rfl
          rw [e1] at h
          cases hq : spD d k n with
          | mk b q =>
          rw [hq] at h
          cases b with
          | false => rw [spF_no] at h; simp at h
          | true =>
            have h1 := spD_le d k n q hq
            have h2 := ih q m h1.1 h
            omega
      have := this e.kids (n - 1) m (by omega) h
      omega
def RetSp (g : Nat) (w : World) (r : Bool × Int) (e : Ending) (w' : World) : Prop := e = .returned (.bool r.1) ∧ w'.heap[g]? = some (.cells #[.int .i64 r.2] 92 (0, 0)) ∧ Ext (fun k => k ≠ g) w w'
section
variable {w : World}
theorem spend_c (g : Nat) : ∀ (d n : Nat) (w : World) (cs : List Value) (e : Exp) (N : Int), d ≤ 6 → (kExp n).R (fun k => k ≠ g) w cs e → 0 ≤ N → N ≤ 24 → w.heap[g]? = some (.cells #[.int .i64 N] 92 (0, 0)) →
    Calls Try.prog 46 #[.pointer (some ⟨g, 0, none⟩), .agg cs.toArray, .int .i64 (d : Int)] w (RetSp g w (spD d e N)) := by
  intro d
  induction d with
  | zero =>
    intro n w cs e N hd h h0 h1 hg
    obtain ⟨k, A, c, rfl, rfl, hs⟩ := exp_open h
    have hgl := lt_of_heap hg
    have g0 : w.cell? ⟨g, 0, none⟩ = some (.int .i64 N) := cell_of hg 0
    have f0 : w.frozen? ⟨g, 0, none⟩ = false := free_of hg 0
    have G1 := Lib.hid (show ((w.setCell ⟨g, 0, none⟩ (.int .i64 (N - 1))).alloc (.cells #[.int .i64 e.op, .slice A e.kids.length c, .string ⟨e.name.toArray⟩, .int .i64 e.val.kind, .int .i64 e.val.int, .bool e.val.bool, .string ⟨e.val.text.toArray⟩, .float .f64 e.val.num] 27)).heap[g]? = some (.cells #[.int .i64 (N - 1)] 92 (0, 0)) from by
      have := heap_set hg 0 (.int .i64 (N - 1))
      exact (Below.heap_alloc _ _ _ (by simpa using hgl)).trans (by simpa using this))
    have X1 := Lib.hid (show Ext (fun b => b ≠ g) w ((w.setCell ⟨g, 0, none⟩ (.int .i64 (N - 1))).alloc (.cells #[.int .i64 e.op, .slice A e.kids.length c, .string ⟨e.name.toArray⟩, .int .i64 e.val.kind, .int .i64 e.val.int, .bool e.val.bool, .string ⟨e.val.text.toArray⟩, .float .f64 e.val.num] 27)) from (ext_set_ne (Ext.refl _ _) 0 _).trans (ext_alloc _ _ _))
    have hz : (0 : Int) ≤ N := h0
    have SF := store_f64
    by_cases hN : N = 0
    · subst hN
      have E := Lib.hid (show spD 0 e 0 = (false, 0 - 1) from rfl)
      have G1 := Lib.hid (by simpa using G1.out : (((w.setCell ⟨g, 0, none⟩ (.int .i64 (-1))).alloc (.cells #[.int .i64 e.op, .slice A e.kids.length c, .string ⟨e.name.toArray⟩, .int .i64 e.val.kind, .int .i64 e.val.int, .bool e.val.bool, .string ⟨e.val.text.toArray⟩, .float .f64 e.val.num] 27))).heap[g]? = some (.cells #[.int .i64 (-1)] 92 (0, 0)))
      have X1 := Lib.hid (by simpa using X1.out : Ext (fun b => b ≠ g) w ((w.setCell ⟨g, 0, none⟩ (.int .i64 (-1))).alloc (.cells #[.int .i64 e.op, .slice A e.kids.length c, .string ⟨e.name.toArray⟩, .int .i64 e.val.kind, .int .i64 e.val.int, .bool e.val.bool, .string ⟨e.val.text.toArray⟩, .float .f64 e.val.num] 27)))
      clear h hg hs
      go_enter Try.func46, Try.ntmps46
      go_wp2_with fail
      go_ret
      rw [E.out]
      exact ⟨rfl, G1.out, X1.out⟩
    have E := Lib.hid (show spD 0 e N = (false, N - 1) from rfl)
    have hN1 : ¬ N - 1 < 0 := by omega
    clear h hg hs
    go_enter Try.func46, Try.ntmps46
    go_wp2_with fail
    go_ret
    rw [E.out]
    exact ⟨rfl, G1.out, X1.out⟩
  | succ d ih =>
    intro n w cs e N hd h h0 h1 hg
    obtain ⟨k, A, c, rfl, rfl, hs⟩ := exp_open h
    have hgl := lt_of_heap hg
    have g0 : w.cell? ⟨g, 0, none⟩ = some (.int .i64 N) := cell_of hg 0
    have f0 : w.frozen? ⟨g, 0, none⟩ = false := free_of hg 0
    have G1 := Lib.hid (show ((w.setCell ⟨g, 0, none⟩ (.int .i64 (N - 1))).alloc (.cells #[.int .i64 e.op, .slice A e.kids.length c, .string ⟨e.name.toArray⟩, .int .i64 e.val.kind, .int .i64 e.val.int, .bool e.val.bool, .string ⟨e.val.text.toArray⟩, .float .f64 e.val.num] 27)).heap[g]? = some (.cells #[.int .i64 (N - 1)] 92 (0, 0)) from by
      have := heap_set hg 0 (.int .i64 (N - 1))
      exact (Below.heap_alloc _ _ _ (by simpa using hgl)).trans (by simpa using this))
    have X1 := Lib.hid (show Ext (fun b => b ≠ g) w ((w.setCell ⟨g, 0, none⟩ (.int .i64 (N - 1))).alloc (.cells #[.int .i64 e.op, .slice A e.kids.length c, .string ⟨e.name.toArray⟩, .int .i64 e.val.kind, .int .i64 e.val.int, .bool e.val.bool, .string ⟨e.val.text.toArray⟩, .float .f64 e.val.num] 27)) from (ext_set_ne (Ext.refl _ _) 0 _).trans (ext_alloc _ _ _))
    have hz : (0 : Int) ≤ N := h0
    have SF := store_f64
    by_cases hN : N = 0
    · subst hN
      have E := Lib.hid (show spD (d + 1) e 0 = (false, 0 - 1) from by simp [spD])
      have G1 := Lib.hid (by simpa using G1.out : (((w.setCell ⟨g, 0, none⟩ (.int .i64 (-1))).alloc (.cells #[.int .i64 e.op, .slice A e.kids.length c, .string ⟨e.name.toArray⟩, .int .i64 e.val.kind, .int .i64 e.val.int, .bool e.val.bool, .string ⟨e.val.text.toArray⟩, .float .f64 e.val.num] 27))).heap[g]? = some (.cells #[.int .i64 (-1)] 92 (0, 0)))
      have X1 := Lib.hid (by simpa using X1.out : Ext (fun b => b ≠ g) w ((w.setCell ⟨g, 0, none⟩ (.int .i64 (-1))).alloc (.cells #[.int .i64 e.op, .slice A e.kids.length c, .string ⟨e.name.toArray⟩, .int .i64 e.val.kind, .int .i64 e.val.int, .bool e.val.bool, .string ⟨e.val.text.toArray⟩, .float .f64 e.val.num] 27)))
      clear h hg hs
      go_enter Try.func46, Try.ntmps46
      go_wp2_with fail
      go_ret
      rw [E.out]
      exact ⟨rfl, G1.out, X1.out⟩
    have hN1 : ¬ N - 1 < 0 := by omega
    have hdd : ((d + 1 : Nat) : Int) = (d : Int) + 1 := by omega
    have hd1 : ¬ ((d : Int) + 1 = 0) := by omega
    have hd6 : (d : Int) ≤ 5 := by omega
    have E := Lib.hid (show spD (d + 1) e N = e.kids.foldl (spF d) (true, N - 1) by rw [spD, if_neg hN1])
    have IH := Lib.hid ih
    clear ih
    have HS := Lib.hid hs
    have hmax := hs.len.2.2.1
    have hnc := hs.len.2.1
    have L1 := Lib.hid (show Loc1 w.heap.size 27 #[.int .i64 e.op, .slice A e.kids.length c, .string ⟨e.name.toArray⟩, .int .i64 e.val.kind, .int .i64 e.val.int, .bool e.val.bool, .string ⟨e.val.text.toArray⟩, .float .f64 e.val.num] ((w.setCell ⟨g, 0, none⟩ (.int .i64 (N - 1))).alloc (.cells #[.int .i64 e.op, .slice A e.kids.length c, .string ⟨e.name.toArray⟩, .int .i64 e.val.kind, .int .i64 e.val.int, .bool e.val.bool, .string ⟨e.val.text.toArray⟩, .float .f64 e.val.num] 27)) from by
      unfold Loc1
      have h := heap_new (w.setCell ⟨g, 0, none⟩ (.int .i64 (N - 1))) (.cells #[.int .i64 e.op, .slice A e.kids.length c, .string ⟨e.name.toArray⟩, .int .i64 e.val.kind, .int .i64 e.val.int, .bool e.val.bool, .string ⟨e.val.text.toArray⟩, .float .f64 e.val.num] 27)
      rw [World.size_setCell] at h
      exact h)
    clear h hg hs
    rw [hdd]
    go_enter Try.func46, Try.ntmps46
    go_wp2_with fail
    go_loopw [28] (fun v wr => ∃ (i : Nat) (N' : Int), i ≤ e.kids.length ∧ v = .int .i64 i ∧ (e.kids.take i).foldl (spF d) (true, N - 1) = (true, N') ∧ 0 ≤ N' ∧ N' ≤ 24 ∧ wr.heap[g]? = some (.cells #[.int .i64 N'] 92 (0, 0)) ∧ Ext (fun b => b ≠ g) w wr ∧ Loc1 w.heap.size 27 #[.int .i64 e.op, .slice A e.kids.length c, .string ⟨e.name.toArray⟩, .int .i64 e.val.kind, .int .i64 e.val.int, .bool e.val.bool, .string ⟨e.val.text.toArray⟩, .float .f64 e.val.num] wr) (fun v _ => e.kids.length - (intOf v).toNat)
    case atStart => exact ⟨0, N - 1, Nat.zero_le _, rfl, rfl, by omega, by omega, G1.out, X1.out, L1.out⟩
    case round =>
      obtain ⟨i, N', hi, rfl, hf, hn0, hn1, hg', hx, hl⟩ := hrel
      have HF := Lib.hid hf
      have HG := Lib.hid hg'
      have HX := Lib.hid hx
      have HL := Lib.hid hl
      have hgr := lt_of_heap hg'
      have hlr := lt_of_heap hl
      clear hf hg' hx hl G1 X1 L1
      by_cases hlt : i < e.kids.length
      · obtain ⟨ad, x, k', B, d', rfl, he, rfl, hs', c0, c1, c2, c3, c4, c5, c6, c7⟩ := exp_at (HS.out.ext HX.out) hlt
        have HE := Lib.hid he
        have HS' := Lib.hid hs'
        clear he hs'
        have hx0 : x.kids.length ≤ d' := HS'.out.len.2.1
        have BK := Lib.hid (show Below wr.heap.size wr (wr.alloc (.cells #[.int .i64 x.op, .slice B x.kids.length d', .string ⟨x.name.toArray⟩, .int .i64 x.val.kind, .int .i64 x.val.int, .bool x.val.bool, .string ⟨x.val.text.toArray⟩, .float .f64 x.val.num] 27)) from (Below.refl _ _).alloc (Nat.le_refl _) _)
        have HC := Lib.hid (IH.out (k' + 1) (wr.alloc (.cells #[.int .i64 x.op, .slice B x.kids.length d', .string ⟨x.name.toArray⟩, .int .i64 x.val.kind, .int .i64 x.val.int, .bool x.val.bool, .string ⟨x.val.text.toArray⟩, .float .f64 x.val.num] 27)) _ x N' (by omega) (exp_mk (HS'.out.below BK.out)) hn0 hn1 ((BK.out.block _ hgr).trans HG.out))
        go_wp2_with fail
        refine HC.out.mono ?_
        rintro e1 w2 ⟨rfl, hg2, hx2⟩
        have X2 := Lib.hid ((HX.out.trans (Below.ext BK.out _)).trans hx2)
        have L2 := Lib.hid ((HL.out.below BK.out).ext hx2 (by omega))
        have G2 := Lib.hid hg2
        clear HC hg2 hx2 c0 c1 c2 c3 c4 c5 c6 c7
        cases hr : spD d x N' with
        | mk b n2 =>
        rw [hr] at G2
        cases b
        · have E2 := Lib.hid (E.out.trans (spF_stop HF.out HE.out hr))
          go_wp2_with fail
          go_ret
          rw [E2.out]
          exact ⟨rfl, G2.out, X2.out⟩
        · have hle := spD_le d x N' n2 hr
          have HF2 := Lib.hid ((spF_next HF.out HE.out).trans hr)
          go_wp2_with fail
          go_roundw
          case rel => exact ⟨i + 1, n2, by omega, by go_num, HF2.out, by omega, by omega, G2.out, X2.out, L2.out⟩
          case measure => simp [intOf]; omega
      · have E2 := Lib.hid (show spD (d + 1) e N = (true, N') from E.out.trans (by have h := HF.out; rw [List.take_of_length_le (show e.kids.length ≤ i by omega)] at h; exact h))
        go_wp2_with fail
        go_ret
        rw [E2.out]
        exact ⟨rfl, HG.out, HX.out⟩
def small (e : Exp) : Bool := (spD 6 e 24).1
theorem small_c {ok : Nat → Prop} {n : Nat} {cs : List Value} {e : Exp} (h : (kExp n).R ok w cs e) : Calls Try.prog 32 #[.agg cs.toArray] w (Ret w (.bool (small e))) := by
  obtain ⟨k, A, c, rfl, rfl, hs⟩ := exp_open h
  have BB := Lib.hid (show Below w.heap.size w ((w.alloc (.cells #[.int .i64 e.op, .slice A e.kids.length c, .string ⟨e.name.toArray⟩, .int .i64 e.val.kind, .int .i64 e.val.int, .bool e.val.bool, .string ⟨e.val.text.toArray⟩, .float .f64 e.val.num] 27)).alloc (.cells #[.int .i64 24] 92)) from ((Below.refl _ _).alloc (Nat.le_refl _) _).alloc (by simp) _)
  have HG := Lib.hid (show ((w.alloc (.cells #[.int .i64 e.op, .slice A e.kids.length c, .string ⟨e.name.toArray⟩, .int .i64 e.val.kind, .int .i64 e.val.int, .bool e.val.bool, .string ⟨e.val.text.toArray⟩, .float .f64 e.val.num] 27)).alloc (.cells #[.int .i64 24] 92)).heap[w.heap.size + 1]? = some (.cells #[.int .i64 24] 92 (0, 0)) from by have := heap_new (w.alloc (.cells #[.int .i64 e.op, .slice A e.kids.length c, .string ⟨e.name.toArray⟩, .int .i64 e.val.kind, .int .i64 e.val.int, .bool e.val.bool, .string ⟨e.val.text.toArray⟩, .float .f64 e.val.num] 27)) (.cells #[.int .i64 24] 92); simpa using this)
  have HB := Lib.hid ((kExp (k + 1)).weak (ok' := fun b => b ≠ w.heap.size + 1) (Kd.below (Kd.bound h) BB.out) fun b hb => by have := hb.2; omega)
  have HC := Lib.hid (spend_c (w.heap.size + 1) 6 (k + 1) ((w.alloc (.cells #[.int .i64 e.op, .slice A e.kids.length c, .string ⟨e.name.toArray⟩, .int .i64 e.val.kind, .int .i64 e.val.int, .bool e.val.bool, .string ⟨e.val.text.toArray⟩, .float .f64 e.val.num] 27)).alloc (.cells #[.int .i64 24] 92)) _ e 24 (by omega) HB.out (by omega) (by omega) HG.out)
  have E := Lib.hid (show small e = (spD 6 e 24).1 from rfl)
  generalize spD 6 e 24 = r at *
  rw [show ((6 : Nat) : Int) = 6 from rfl] at HC
  clear h hs
  go_enter Try.func32, Try.ntmps32
  go_wp2_with fail
  refine HC.out.mono ?_
  rintro e1 w1 ⟨rfl, _, hx⟩
  have HX := Lib.hid (BB.out.trans (hx.below fun b hb => ⟨by simp; omega, by omega⟩ : Below w.heap.size _ w1))
  clear hx
  go_wp2_with fail
  go_ret
  rw [E.out]
  exact ⟨rfl, HX.out⟩
end
end Go.Proofs.Ytijlamajcdekkaa

/- Short words: a block's cells. -/
namespace Go.Proofs.Ytijlamajcdekkaa
open Go.RowKit
set_option linter.unusedVariables false
set_option linter.unusedSimpArgs false
theorem kk2 {b : Nat} {T : TypeId} {o0 o1 : Value} {w : World} (h : Loc1 b T #[o0, o1] w) : RowKit.Hid (∀ W : World, Below w.heap.size w W → (W.cell? ⟨b, 0, none⟩ = some o0 ∧ W.cell? ⟨b, 1, none⟩ = some o1) ∧ b < W.heap.size) :=
  Lib.hid fun W hW => ⟨⟨cell_of (h.below hW) 0, cell_of (h.below hW) 1⟩, lt_of_heap (h.below hW)⟩
theorem kk3 {b : Nat} {T : TypeId} {o0 o1 o2 : Value} {w : World} (h : Loc1 b T #[o0, o1, o2] w) : RowKit.Hid (∀ W : World, Below w.heap.size w W → (W.cell? ⟨b, 0, none⟩ = some o0 ∧ W.cell? ⟨b, 1, none⟩ = some o1 ∧ W.cell? ⟨b, 2, none⟩ = some o2) ∧ b < W.heap.size) :=
  Lib.hid fun W hW => ⟨⟨cell_of (h.below hW) 0, cell_of (h.below hW) 1, cell_of (h.below hW) 2⟩, lt_of_heap (h.below hW)⟩
theorem kk4 {b : Nat} {T : TypeId} {o0 o1 o2 o3 : Value} {w : World} (h : Loc1 b T #[o0, o1, o2, o3] w) : RowKit.Hid (∀ W : World, Below w.heap.size w W → (W.cell? ⟨b, 0, none⟩ = some o0 ∧ W.cell? ⟨b, 1, none⟩ = some o1 ∧ W.cell? ⟨b, 2, none⟩ = some o2 ∧ W.cell? ⟨b, 3, none⟩ = some o3) ∧ b < W.heap.size) :=
  Lib.hid fun W hW => ⟨⟨cell_of (h.below hW) 0, cell_of (h.below hW) 1, cell_of (h.below hW) 2, cell_of (h.below hW) 3⟩, lt_of_heap (h.below hW)⟩
theorem kk5 {b : Nat} {T : TypeId} {o0 o1 o2 o3 o4 : Value} {w : World} (h : Loc1 b T #[o0, o1, o2, o3, o4] w) : RowKit.Hid (∀ W : World, Below w.heap.size w W → (W.cell? ⟨b, 0, none⟩ = some o0 ∧ W.cell? ⟨b, 1, none⟩ = some o1 ∧ W.cell? ⟨b, 2, none⟩ = some o2 ∧ W.cell? ⟨b, 3, none⟩ = some o3 ∧ W.cell? ⟨b, 4, none⟩ = some o4) ∧ b < W.heap.size) :=
  Lib.hid fun W hW => ⟨⟨cell_of (h.below hW) 0, cell_of (h.below hW) 1, cell_of (h.below hW) 2, cell_of (h.below hW) 3, cell_of (h.below hW) 4⟩, lt_of_heap (h.below hW)⟩
theorem kk6 {b : Nat} {T : TypeId} {o0 o1 o2 o3 o4 o5 : Value} {w : World} (h : Loc1 b T #[o0, o1, o2, o3, o4, o5] w) : RowKit.Hid (∀ W : World, Below w.heap.size w W → (W.cell? ⟨b, 0, none⟩ = some o0 ∧ W.cell? ⟨b, 1, none⟩ = some o1 ∧ W.cell? ⟨b, 2, none⟩ = some o2 ∧ W.cell? ⟨b, 3, none⟩ = some o3 ∧ W.cell? ⟨b, 4, none⟩ = some o4 ∧ W.cell? ⟨b, 5, none⟩ = some o5) ∧ b < W.heap.size) :=
  Lib.hid fun W hW => ⟨⟨cell_of (h.below hW) 0, cell_of (h.below hW) 1, cell_of (h.below hW) 2, cell_of (h.below hW) 3, cell_of (h.below hW) 4, cell_of (h.below hW) 5⟩, lt_of_heap (h.below hW)⟩
theorem kk7 {b : Nat} {T : TypeId} {o0 o1 o2 o3 o4 o5 o6 : Value} {w : World} (h : Loc1 b T #[o0, o1, o2, o3, o4, o5, o6] w) : RowKit.Hid (∀ W : World, Below w.heap.size w W → (W.cell? ⟨b, 0, none⟩ = some o0 ∧ W.cell? ⟨b, 1, none⟩ = some o1 ∧ W.cell? ⟨b, 2, none⟩ = some o2 ∧ W.cell? ⟨b, 3, none⟩ = some o3 ∧ W.cell? ⟨b, 4, none⟩ = some o4 ∧ W.cell? ⟨b, 5, none⟩ = some o5 ∧ W.cell? ⟨b, 6, none⟩ = some o6) ∧ b < W.heap.size) :=
  Lib.hid fun W hW => ⟨⟨cell_of (h.below hW) 0, cell_of (h.below hW) 1, cell_of (h.below hW) 2, cell_of (h.below hW) 3, cell_of (h.below hW) 4, cell_of (h.below hW) 5, cell_of (h.below hW) 6⟩, lt_of_heap (h.below hW)⟩
theorem kk8 {b : Nat} {T : TypeId} {o0 o1 o2 o3 o4 o5 o6 o7 : Value} {w : World} (h : Loc1 b T #[o0, o1, o2, o3, o4, o5, o6, o7] w) : RowKit.Hid (∀ W : World, Below w.heap.size w W → (W.cell? ⟨b, 0, none⟩ = some o0 ∧ W.cell? ⟨b, 1, none⟩ = some o1 ∧ W.cell? ⟨b, 2, none⟩ = some o2 ∧ W.cell? ⟨b, 3, none⟩ = some o3 ∧ W.cell? ⟨b, 4, none⟩ = some o4 ∧ W.cell? ⟨b, 5, none⟩ = some o5 ∧ W.cell? ⟨b, 6, none⟩ = some o6 ∧ W.cell? ⟨b, 7, none⟩ = some o7) ∧ b < W.heap.size) :=
  Lib.hid fun W hW => ⟨⟨cell_of (h.below hW) 0, cell_of (h.below hW) 1, cell_of (h.below hW) 2, cell_of (h.below hW) 3, cell_of (h.below hW) 4, cell_of (h.below hW) 5, cell_of (h.below hW) 6, cell_of (h.below hW) 7⟩, lt_of_heap (h.below hW)⟩
theorem kk9 {b : Nat} {T : TypeId} {o0 o1 o2 o3 o4 o5 o6 o7 o8 : Value} {w : World} (h : Loc1 b T #[o0, o1, o2, o3, o4, o5, o6, o7, o8] w) : RowKit.Hid (∀ W : World, Below w.heap.size w W → (W.cell? ⟨b, 0, none⟩ = some o0 ∧ W.cell? ⟨b, 1, none⟩ = some o1 ∧ W.cell? ⟨b, 2, none⟩ = some o2 ∧ W.cell? ⟨b, 3, none⟩ = some o3 ∧ W.cell? ⟨b, 4, none⟩ = some o4 ∧ W.cell? ⟨b, 5, none⟩ = some o5 ∧ W.cell? ⟨b, 6, none⟩ = some o6 ∧ W.cell? ⟨b, 7, none⟩ = some o7 ∧ W.cell? ⟨b, 8, none⟩ = some o8) ∧ b < W.heap.size) :=
  Lib.hid fun W hW => ⟨⟨cell_of (h.below hW) 0, cell_of (h.below hW) 1, cell_of (h.below hW) 2, cell_of (h.below hW) 3, cell_of (h.below hW) 4, cell_of (h.below hW) 5, cell_of (h.below hW) 6, cell_of (h.below hW) 7, cell_of (h.below hW) 8⟩, lt_of_heap (h.below hW)⟩
theorem kk10 {b : Nat} {T : TypeId} {o0 o1 o2 o3 o4 o5 o6 o7 o8 o9 : Value} {w : World} (h : Loc1 b T #[o0, o1, o2, o3, o4, o5, o6, o7, o8, o9] w) : RowKit.Hid (∀ W : World, Below w.heap.size w W → (W.cell? ⟨b, 0, none⟩ = some o0 ∧ W.cell? ⟨b, 1, none⟩ = some o1 ∧ W.cell? ⟨b, 2, none⟩ = some o2 ∧ W.cell? ⟨b, 3, none⟩ = some o3 ∧ W.cell? ⟨b, 4, none⟩ = some o4 ∧ W.cell? ⟨b, 5, none⟩ = some o5 ∧ W.cell? ⟨b, 6, none⟩ = some o6 ∧ W.cell? ⟨b, 7, none⟩ = some o7 ∧ W.cell? ⟨b, 8, none⟩ = some o8 ∧ W.cell? ⟨b, 9, none⟩ = some o9) ∧ b < W.heap.size) :=
  Lib.hid fun W hW => ⟨⟨cell_of (h.below hW) 0, cell_of (h.below hW) 1, cell_of (h.below hW) 2, cell_of (h.below hW) 3, cell_of (h.below hW) 4, cell_of (h.below hW) 5, cell_of (h.below hW) 6, cell_of (h.below hW) 7, cell_of (h.below hW) 8, cell_of (h.below hW) 9⟩, lt_of_heap (h.below hW)⟩
theorem kk11 {b : Nat} {T : TypeId} {o0 o1 o2 o3 o4 o5 o6 o7 o8 o9 o10 : Value} {w : World} (h : Loc1 b T #[o0, o1, o2, o3, o4, o5, o6, o7, o8, o9, o10] w) : RowKit.Hid (∀ W : World, Below w.heap.size w W → (W.cell? ⟨b, 0, none⟩ = some o0 ∧ W.cell? ⟨b, 1, none⟩ = some o1 ∧ W.cell? ⟨b, 2, none⟩ = some o2 ∧ W.cell? ⟨b, 3, none⟩ = some o3 ∧ W.cell? ⟨b, 4, none⟩ = some o4 ∧ W.cell? ⟨b, 5, none⟩ = some o5 ∧ W.cell? ⟨b, 6, none⟩ = some o6 ∧ W.cell? ⟨b, 7, none⟩ = some o7 ∧ W.cell? ⟨b, 8, none⟩ = some o8 ∧ W.cell? ⟨b, 9, none⟩ = some o9 ∧ W.cell? ⟨b, 10, none⟩ = some o10) ∧ b < W.heap.size) :=
  Lib.hid fun W hW => ⟨⟨cell_of (h.below hW) 0, cell_of (h.below hW) 1, cell_of (h.below hW) 2, cell_of (h.below hW) 3, cell_of (h.below hW) 4, cell_of (h.below hW) 5, cell_of (h.below hW) 6, cell_of (h.below hW) 7, cell_of (h.below hW) 8, cell_of (h.below hW) 9, cell_of (h.below hW) 10⟩, lt_of_heap (h.below hW)⟩
theorem kk12 {b : Nat} {T : TypeId} {o0 o1 o2 o3 o4 o5 o6 o7 o8 o9 o10 o11 : Value} {w : World} (h : Loc1 b T #[o0, o1, o2, o3, o4, o5, o6, o7, o8, o9, o10, o11] w) : RowKit.Hid (∀ W : World, Below w.heap.size w W → (W.cell? ⟨b, 0, none⟩ = some o0 ∧ W.cell? ⟨b, 1, none⟩ = some o1 ∧ W.cell? ⟨b, 2, none⟩ = some o2 ∧ W.cell? ⟨b, 3, none⟩ = some o3 ∧ W.cell? ⟨b, 4, none⟩ = some o4 ∧ W.cell? ⟨b, 5, none⟩ = some o5 ∧ W.cell? ⟨b, 6, none⟩ = some o6 ∧ W.cell? ⟨b, 7, none⟩ = some o7 ∧ W.cell? ⟨b, 8, none⟩ = some o8 ∧ W.cell? ⟨b, 9, none⟩ = some o9 ∧ W.cell? ⟨b, 10, none⟩ = some o10 ∧ W.cell? ⟨b, 11, none⟩ = some o11) ∧ b < W.heap.size) :=
  Lib.hid fun W hW => ⟨⟨cell_of (h.below hW) 0, cell_of (h.below hW) 1, cell_of (h.below hW) 2, cell_of (h.below hW) 3, cell_of (h.below hW) 4, cell_of (h.below hW) 5, cell_of (h.below hW) 6, cell_of (h.below hW) 7, cell_of (h.below hW) 8, cell_of (h.below hW) 9, cell_of (h.below hW) 10, cell_of (h.below hW) 11⟩, lt_of_heap (h.below hW)⟩
theorem kk13 {b : Nat} {T : TypeId} {o0 o1 o2 o3 o4 o5 o6 o7 o8 o9 o10 o11 o12 : Value} {w : World} (h : Loc1 b T #[o0, o1, o2, o3, o4, o5, o6, o7, o8, o9, o10, o11, o12] w) : RowKit.Hid (∀ W : World, Below w.heap.size w W → (W.cell? ⟨b, 0, none⟩ = some o0 ∧ W.cell? ⟨b, 1, none⟩ = some o1 ∧ W.cell? ⟨b, 2, none⟩ = some o2 ∧ W.cell? ⟨b, 3, none⟩ = some o3 ∧ W.cell? ⟨b, 4, none⟩ = some o4 ∧ W.cell? ⟨b, 5, none⟩ = some o5 ∧ W.cell? ⟨b, 6, none⟩ = some o6 ∧ W.cell? ⟨b, 7, none⟩ = some o7 ∧ W.cell? ⟨b, 8, none⟩ = some o8 ∧ W.cell? ⟨b, 9, none⟩ = some o9 ∧ W.cell? ⟨b, 10, none⟩ = some o10 ∧ W.cell? ⟨b, 11, none⟩ = some o11 ∧ W.cell? ⟨b, 12, none⟩ = some o12) ∧ b < W.heap.size) :=
  Lib.hid fun W hW => ⟨⟨cell_of (h.below hW) 0, cell_of (h.below hW) 1, cell_of (h.below hW) 2, cell_of (h.below hW) 3, cell_of (h.below hW) 4, cell_of (h.below hW) 5, cell_of (h.below hW) 6, cell_of (h.below hW) 7, cell_of (h.below hW) 8, cell_of (h.below hW) 9, cell_of (h.below hW) 10, cell_of (h.below hW) 11, cell_of (h.below hW) 12⟩, lt_of_heap (h.below hW)⟩
end Go.Proofs.Ytijlamajcdekkaa
