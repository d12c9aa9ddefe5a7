/- Texts that go together. -/
import Derived.Test.YtjnhgfmjehaalaaGreatMC
import Derived.Deep.CutRange
import Derived.Deep.DeepMust
/- Chapter 6: contracts in memory; lists gone through; names. -/
namespace Go.Proofs.YtjnhgfmjehaalaaGreat
open Go.RowKit
set_option linter.unusedVariables false
set_option linter.unusedSimpArgs false
structure Stg where
 name : List UInt8
 need : Int
 orgs : List Int
structure Eff where
 field : List UInt8
 expr : Exp
structure Mov where
 name : List UInt8
 frm : Int
 tgt : Int
 guard : Exp
 effects : List Eff
 org : Int
structure Con where
 name : List UInt8
 fields : List Fld
 stages : List Stg
 moves : List Mov
def kStg : Kd Stg := kIso (kPair kStr (kPair kI (kSl kI))) fun s => (s.name, s.need, s.orgs)
def kEff (n : Nat) : Kd Eff := kIso (kPair kStr (kExp n)) fun e => (e.field, e.expr)
def kMov (n : Nat) : Kd Mov := kIso (kPair kStr (kPair kI (kPair kI (kPair (kExp n) (kPair (kSl (kEff n)) kI))))) fun m => (m.name, m.frm, m.tgt, m.guard, m.effects, m.org)
def kCon (n : Nat) : Kd Con := kIso (kPair kStr (kPair (kSl kFld) (kPair (kSl kStg) (kSl (kMov n))))) fun c => (c.name, c.fields, c.stages, c.moves)
theorem kEff_sz (n : Nat) : (kEff n).sz = 9 := by show 1 + (kExp n).sz = 9; rw [kExp_sz]
theorem kMov_sz (n : Nat) : (kMov n).sz = 13 := by show 1 + (1 + (1 + ((kExp n).sz + (1 + 1)))) = 13; rw [kExp_sz]
section
variable {ok : Nat → Prop} {w : World} {cs : List Value} {n : Nat}
theorem stg_open {s : Stg} (h : kStg.R ok w cs s) : ∃ A c, cs = [.string ⟨s.name.toArray⟩, .int .i64 s.need, .slice A s.orgs.length c] ∧ Sl kI ok w (.slice A s.orgs.length c) s.orgs := by
 obtain ⟨_, _, rfl, rfl, _, _, rfl, rfl, v, rfl, hs⟩ := h
 obtain ⟨A, c, rfl, _⟩ := hs.form
 exact ⟨A, c, rfl, hs⟩
theorem stg_mk {s : Stg} {v : Value} (h : Sl kI ok w v s.orgs) : kStg.R ok w [.string ⟨s.name.toArray⟩, .int .i64 s.need, v] s :=
 ⟨[_], _, rfl, rfl, [_], _, rfl, rfl, v, rfl, h⟩
theorem eff_open {e : Eff} (h : (kEff n).R ok w cs e) : ∃ k A c, n = k + 1 ∧ cs = .string ⟨e.field.toArray⟩ :: [.int .i64 e.expr.op, .slice A e.expr.kids.length c, .string ⟨e.expr.name.toArray⟩, .int .i64 e.expr.val.kind, .int .i64 e.expr.val.int, .bool e.expr.val.bool, .string ⟨e.expr.val.text.toArray⟩, .float .f64 e.expr.val.num] ∧ Sl (kExp k) ok w (.slice A e.expr.kids.length c) e.expr.kids := by
 obtain ⟨_, _, rfl, rfl, h⟩ := h
 obtain ⟨k, A, c, hk, rfl, hs⟩ := exp_open h
 exact ⟨k, A, c, hk, rfl, hs⟩
theorem eff_mk {e : Eff} {c : List Value} (h : (kExp n).R ok w c e.expr) : (kEff n).R ok w (.string ⟨e.field.toArray⟩ :: c) e := ⟨[_], _, rfl, rfl, h⟩
theorem mov_open {m : Mov} (h : (kMov n).R ok w cs m) : ∃ k A c D d, n = k + 1 ∧ cs = [.string ⟨m.name.toArray⟩, .int .i64 m.frm, .int .i64 m.tgt, .int .i64 m.guard.op, .slice A m.guard.kids.length c, .string ⟨m.guard.name.toArray⟩, .int .i64 m.guard.val.kind, .int .i64 m.guard.val.int, .bool m.guard.val.bool, .string ⟨m.guard.val.text.toArray⟩, .float .f64 m.guard.val.num, .slice D m.effects.length d, .int .i64 m.org] ∧
 Sl (kExp k) ok w (.slice A m.guard.kids.length c) m.guard.kids ∧ Sl (kEff n) ok w (.slice D m.effects.length d) m.effects := by
 obtain ⟨_, _, rfl, rfl, _, _, rfl, rfl, _, _, rfl, rfl, _, _, rfl, hg, _, _, rfl, ⟨v, rfl, hs⟩, rfl⟩ := h
 obtain ⟨k, A, c, hk, rfl, he⟩ := exp_open hg
 obtain ⟨D, d, rfl, _⟩ := hs.form
 exact ⟨k, A, c, D, d, hk, rfl, he, hs⟩
theorem mov_mk {k : Nat} {m : Mov} {v u : Value} (h : Sl (kExp k) ok w v m.guard.kids) (hs : Sl (kEff (k + 1)) ok w u m.effects) : (kMov (k + 1)).R ok w [.string ⟨m.name.toArray⟩, .int .i64 m.frm, .int .i64 m.tgt, .int .i64 m.guard.op, v, .string ⟨m.guard.name.toArray⟩, .int .i64 m.guard.val.kind, .int .i64 m.guard.val.int, .bool m.guard.val.bool, .string ⟨m.guard.val.text.toArray⟩, .float .f64 m.guard.val.num, u, .int .i64 m.org] m :=
 ⟨[_], _, rfl, rfl, [_], _, rfl, rfl, [_], _, rfl, rfl, [_, _, _, _, _, _, _, _], _, rfl, exp_mk h, [_], _, rfl, ⟨u, rfl, hs⟩, rfl⟩
theorem con_open {c : Con} (h : (kCon n).R ok w cs c) : ∃ A a B b D d, cs = [.string ⟨c.name.toArray⟩, .slice A c.fields.length a, .slice B c.stages.length b, .slice D c.moves.length d] ∧
 Sl kFld ok w (.slice A c.fields.length a) c.fields ∧ Sl kStg ok w (.slice B c.stages.length b) c.stages ∧ Sl (kMov n) ok w (.slice D c.moves.length d) c.moves := by
 obtain ⟨_, _, rfl, rfl, _, _, rfl, ⟨v, rfl, h1⟩, _, _, rfl, ⟨u, rfl, h2⟩, t, rfl, h3⟩ := h
 obtain ⟨A, a, rfl, _⟩ := h1.form
 obtain ⟨B, b, rfl, _⟩ := h2.form
 obtain ⟨D, d, rfl, _⟩ := h3.form
 exact ⟨A, a, B, b, D, d, rfl, h1, h2, h3⟩
theorem con_mk {c : Con} {v u t : Value} (h1 : Sl kFld ok w v c.fields) (h2 : Sl kStg ok w u c.stages) (h3 : Sl (kMov n) ok w t c.moves) : (kCon n).R ok w [.string ⟨c.name.toArray⟩, v, u, t] c :=
 ⟨[_], _, rfl, rfl, [_], _, rfl, ⟨v, rfl, h1⟩, [_], _, rfl, ⟨u, rfl, h2⟩, ⟨t, rfl, h3⟩⟩
theorem stg_at {A : Option Addr} {N c : Nat} {l : List Stg} (h : Sl kStg ok w (.slice A N c) l) {i : Nat} (hi : i < N) : ∃ ad s B d, A = some ad ∧ l[i]? = some s ∧ Sl kI ok w (.slice B s.orgs.length d) s.orgs ∧ w.cell? (ad.add (i * 3)) = some (.string ⟨s.name.toArray⟩) ∧
 w.cell? ⟨(ad.add (i * 3)).block, (ad.add (i * 3)).off + 1, none⟩ = some (.int .i64 s.need) ∧ w.cell? ⟨(ad.add (i * 3)).block, (ad.add (i * 3)).off + 2, none⟩ = some (.slice B s.orgs.length d) := by
 obtain ⟨ad, s, cs, ea, he, hr, h0, hj⟩ := cells_at h hi
 obtain ⟨B, d, rfl, hs⟩ := stg_open hr
 exact ⟨ad, s, B, d, ea, he, hs, h0 _ rfl, hj 0 _ rfl, hj 1 _ rfl⟩
theorem eff_at {A : Option Addr} {N c : Nat} {l : List Eff} (h : Sl (kEff n) ok w (.slice A N c) l) {i : Nat} (hi : i < N) : ∃ ad e k B d, A = some ad ∧ l[i]? = some e ∧ n = k + 1 ∧ Sl (kExp k) ok w (.slice B e.expr.kids.length d) e.expr.kids ∧ w.cell? (ad.add (i * 9)) = some (.string ⟨e.field.toArray⟩) ∧
 w.cell? ⟨(ad.add (i * 9)).block, (ad.add (i * 9)).off + 1, none⟩ = some (.int .i64 e.expr.op) ∧ w.cell? ⟨(ad.add (i * 9)).block, (ad.add (i * 9)).off + 2, none⟩ = some (.slice B e.expr.kids.length d) ∧ w.cell? ⟨(ad.add (i * 9)).block, (ad.add (i * 9)).off + 3, none⟩ = some (.string ⟨e.expr.name.toArray⟩) ∧
 w.cell? ⟨(ad.add (i * 9)).block, (ad.add (i * 9)).off + 4, none⟩ = some (.int .i64 e.expr.val.kind) ∧ w.cell? ⟨(ad.add (i * 9)).block, (ad.add (i * 9)).off + 5, none⟩ = some (.int .i64 e.expr.val.int) ∧ w.cell? ⟨(ad.add (i * 9)).block, (ad.add (i * 9)).off + 6, none⟩ = some (.bool e.expr.val.bool) ∧
 w.cell? ⟨(ad.add (i * 9)).block, (ad.add (i * 9)).off + 7, none⟩ = some (.string ⟨e.expr.val.text.toArray⟩) ∧ w.cell? ⟨(ad.add (i * 9)).block, (ad.add (i * 9)).off + 8, none⟩ = some (.float .f64 e.expr.val.num) := by
 obtain ⟨ad, e, cs, ea, he, hr, h0, hj⟩ := cells_at h hi
 rw [kEff_sz] at h0 hj
 obtain ⟨k, B, d, hk, rfl, hs⟩ := eff_open hr
 exact ⟨ad, e, k, B, d, ea, he, hk, hs, h0 _ rfl, hj 0 _ rfl, hj 1 _ rfl, hj 2 _ rfl, hj 3 _ rfl, hj 4 _ rfl, hj 5 _ rfl, hj 6 _ rfl, hj 7 _ rfl⟩
theorem mov_at {A : Option Addr} {N c : Nat} {l : List Mov} (h : Sl (kMov n) ok w (.slice A N c) l) {i : Nat} (hi : i < N) : ∃ ad m k B b D d, A = some ad ∧ l[i]? = some m ∧ n = k + 1 ∧ Sl (kExp k) ok w (.slice B m.guard.kids.length b) m.guard.kids ∧ Sl (kEff n) ok w (.slice D m.effects.length d) m.effects ∧ w.cell? (ad.add (i * 13)) = some (.string ⟨m.name.toArray⟩) ∧
 w.cell? ⟨(ad.add (i * 13)).block, (ad.add (i * 13)).off + 1, none⟩ = some (.int .i64 m.frm) ∧ w.cell? ⟨(ad.add (i * 13)).block, (ad.add (i * 13)).off + 2, none⟩ = some (.int .i64 m.tgt) ∧ w.cell? ⟨(ad.add (i * 13)).block, (ad.add (i * 13)).off + 3, none⟩ = some (.int .i64 m.guard.op) ∧
 w.cell? ⟨(ad.add (i * 13)).block, (ad.add (i * 13)).off + 4, none⟩ = some (.slice B m.guard.kids.length b) ∧ w.cell? ⟨(ad.add (i * 13)).block, (ad.add (i * 13)).off + 5, none⟩ = some (.string ⟨m.guard.name.toArray⟩) ∧ w.cell? ⟨(ad.add (i * 13)).block, (ad.add (i * 13)).off + 6, none⟩ = some (.int .i64 m.guard.val.kind) ∧
 w.cell? ⟨(ad.add (i * 13)).block, (ad.add (i * 13)).off + 7, none⟩ = some (.int .i64 m.guard.val.int) ∧ w.cell? ⟨(ad.add (i * 13)).block, (ad.add (i * 13)).off + 8, none⟩ = some (.bool m.guard.val.bool) ∧ w.cell? ⟨(ad.add (i * 13)).block, (ad.add (i * 13)).off + 9, none⟩ = some (.string ⟨m.guard.val.text.toArray⟩) ∧
 w.cell? ⟨(ad.add (i * 13)).block, (ad.add (i * 13)).off + 10, none⟩ = some (.float .f64 m.guard.val.num) ∧ w.cell? ⟨(ad.add (i * 13)).block, (ad.add (i * 13)).off + 11, none⟩ = some (.slice D m.effects.length d) ∧ w.cell? ⟨(ad.add (i * 13)).block, (ad.add (i * 13)).off + 12, none⟩ = some (.int .i64 m.org) := by
 obtain ⟨ad, m, cs, ea, he, hr, h0, hj⟩ := cells_at h hi
 rw [kMov_sz] at h0 hj
 obtain ⟨k, B, b, D, d, hk, rfl, hs, he'⟩ := mov_open hr
 exact ⟨ad, m, k, B, b, D, d, ea, he, hk, hs, he', h0 _ rfl, hj 0 _ rfl, hj 1 _ rfl, hj 2 _ rfl, hj 3 _ rfl, hj 4 _ rfl, hj 5 _ rfl, hj 6 _ rfl, hj 7 _ rfl, hj 8 _ rfl, hj 9 _ rfl, hj 10 _ rfl, hj 11 _ rfl⟩
theorem str_at {A : Option Addr} {N c : Nat} {l : List (List UInt8)} (h : Sl kStr ok w (.slice A N c) l) {i : Nat} (hi : i < N) : ∃ ad s, A = some ad ∧ l[i]? = some s ∧ w.cell? (ad.add i) = some (.string ⟨s.toArray⟩) := h.at1 hi
theorem int_at {A : Option Addr} {N c : Nat} {l : List Int} (h : Sl kI ok w (.slice A N c) l) {i : Nat} (hi : i < N) : ∃ ad s, A = some ad ∧ l[i]? = some s ∧ w.cell? (ad.add i) = some (.int .i64 s) := Sl.at1 (f := fun x : Int => .int .i64 x) (h1 := fun _ => rfl) h hi
end
theorem cells4 {w : World} {b : Nat} {t : TypeId} {f : Nat × Nat} {v0 v1 v2 v3 : Value} (h : w.heap[b]? = some (.cells #[v0, v1, v2, v3] t f)) : w.cell? ⟨b, 0, none⟩ = some v0 ∧ w.cell? ⟨b, 1, none⟩ = some v1 ∧ w.cell? ⟨b, 2, none⟩ = some v2 ∧ w.cell? ⟨b, 3, none⟩ = some v3 :=
 ⟨cell_of h 0, cell_of h 1, cell_of h 2, cell_of h 3⟩
theorem cells9 {w : World} {b : Nat} {t : TypeId} {f : Nat × Nat} {v0 v1 v2 v3 v4 v5 v6 v7 v8 : Value} (h : w.heap[b]? = some (.cells #[v0, v1, v2, v3, v4, v5, v6, v7, v8] t f)) : w.cell? ⟨b, 0, none⟩ = some v0 ∧ w.cell? ⟨b, 1, none⟩ = some v1 ∧ w.cell? ⟨b, 2, none⟩ = some v2 ∧ w.cell? ⟨b, 3, none⟩ = some v3 ∧ w.cell? ⟨b, 4, none⟩ = some v4 ∧ w.cell? ⟨b, 5, none⟩ = some v5 ∧ w.cell? ⟨b, 6, none⟩ = some v6 ∧ w.cell? ⟨b, 7, none⟩ = some v7 ∧ w.cell? ⟨b, 8, none⟩ = some v8 :=
 ⟨cell_of h 0, cell_of h 1, cell_of h 2, cell_of h 3, cell_of h 4, cell_of h 5, cell_of h 6, cell_of h 7, cell_of h 8⟩
theorem cells13 {w : World} {b : Nat} {t : TypeId} {f : Nat × Nat} {v0 v1 v2 v3 v4 v5 v6 v7 v8 v9 v10 v11 v12 : Value} (h : w.heap[b]? = some (.cells #[v0, v1, v2, v3, v4, v5, v6, v7, v8, v9, v10, v11, v12] t f)) : w.cell? ⟨b, 0, none⟩ = some v0 ∧ w.cell? ⟨b, 1, none⟩ = some v1 ∧ w.cell? ⟨b, 2, none⟩ = some v2 ∧ w.cell? ⟨b, 3, none⟩ = some v3 ∧ w.cell? ⟨b, 4, none⟩ = some v4 ∧ w.cell? ⟨b, 5, none⟩ = some v5 ∧ w.cell? ⟨b, 6, none⟩ = some v6 ∧ w.cell? ⟨b, 7, none⟩ = some v7 ∧ w.cell? ⟨b, 8, none⟩ = some v8 ∧ w.cell? ⟨b, 9, none⟩ = some v9 ∧ w.cell? ⟨b, 10, none⟩ = some v10 ∧ w.cell? ⟨b, 11, none⟩ = some v11 ∧ w.cell? ⟨b, 12, none⟩ = some v12 :=
 ⟨cell_of h 0, cell_of h 1, cell_of h 2, cell_of h 3, cell_of h 4, cell_of h 5, cell_of h 6, cell_of h 7, cell_of h 8, cell_of h 9, cell_of h 10, cell_of h 11, cell_of h 12⟩
/-- a function that has a body is entered -/
theorem enters {f : FuncId} {fn : Func} (hf : Tryz.prog.funcs[f]? = some fn) (hn : (fn.name == "runtime.NumGoroutine") = false) (hb : fn.body.isNone = false) (args : Array Value) (W : World) : (callFunc f args).run Tryz.prog W = .ok (.enter f args) W := by
 simp [callFunc, go_sem, hf, hb]
 have hn' : ¬ fn.name = "runtime.NumGoroutine" := by simpa using hn
 have hb' : ¬ fn.body = none := by intro h; rw [h] at hb; cases hb
 rw [if_neg hn', if_neg hb']
/-! ### lists gone through -/
def allI {α : Type} (p : Nat → α → Bool) (l : List α) : Bool := l.zipIdx.all fun x => p x.2 x.1
section
variable {α : Type} {p : Nat → α → Bool} {l : List α} {n i : Nat} {y : α}
theorem allI_iff : allI p l = true ↔ ∀ (j : Nat) (x : α), l[j]? = some x → p j x = true := by
 unfold allI
 rw [List.all_eq_true]
 constructor
 ·intro h j x hx
  exact h (x, j) (by rw [List.mem_zipIdx_iff_getElem?]; exact hx)
 ·intro h x hx
  rw [List.mem_zipIdx_iff_getElem?] at hx
  exact h _ _ hx
theorem allI_no (he : l[i]? = some y) (hy : p i y = false) : allI p l = false := by
 cases h : allI p l
 ·rfl
 ·rw [allI_iff.1 h i y he] at hy; cases hy
theorem allI_yes (hl : l.length ≤ n) (h : ∀ (j : Nat) (x : α), j < n → l[j]? = some x → p j x = true) : allI p l = true := allI_iff.2 fun j x hx => h j x (by have := (List.getElem?_eq_some_iff.1 hx).1; omega) hx
theorem allI_step {q : Nat → α → Bool} {b : Bool} (h : ∀ (j : Nat) (x : α), j < i → l[j]? = some x → q j x = b) (he : l[i]? = some y) (hy : q i y = b) : ∀ (j : Nat) (x : α), j < i + 1 → l[j]? = some x → q j x = b := fun j x hj hx => by
 rcases Nat.lt_or_ge j i with h' | h'
 ·exact h j x h' hx
 ·obtain rfl : j = i := by omega
  rw [he] at hx
  injection hx with hx
  rw [← hx]; exact hy
theorem allI_nil {q : Nat → α → Bool} {b : Bool} : ∀ (j : Nat) (x : α), j < 0 → l[j]? = some x → q j x = b := fun j _ hj => absurd hj (Nat.not_lt_zero j)
theorem idx_at {p : α → Bool} (h : ∀ (j : Nat) (x : α), j < i → l[j]? = some x → p x = false) (he : l[i]? = some y) (hy : p y = true) : idx p l = (i : Nat) := by
 have : l.findIdx? p = some i := by
  rw [List.findIdx?_eq_some_iff_getElem]
  obtain ⟨hkl, hke⟩ := List.getElem?_eq_some_iff.1 he
  refine ⟨hkl, by rw [hke]; exact hy, fun j hj => ?_⟩
  rw [h j l[j] hj (List.getElem?_eq_getElem (by omega))]; simp
 unfold idx
 rw [this]
theorem idx_none {p : α → Bool} (hl : l.length ≤ n) (h : ∀ (j : Nat) (x : α), j < n → l[j]? = some x → p x = false) : idx p l = -1 := by
 have : l.findIdx? p = none := by
  rw [List.findIdx?_eq_none_iff]
  intro x hx
  obtain ⟨j, hj, rfl⟩ := List.getElem_of_mem hx
  exact h j _ (by omega) (List.getElem?_eq_getElem hj)
 unfold idx
 rw [this]
theorem idx_lt {p : α → Bool} (h : 0 ≤ idx p l) : ∃ i x, idx p l = (i : Nat) ∧ l[i]? = some x ∧ p x = true := by
 unfold idx at *
 cases hf : l.findIdx? p with
 | none => rw [hf] at h; exact absurd h (by decide)
 | some i =>
  rw [List.findIdx?_eq_some_iff_getElem] at hf
  obtain ⟨hi, hp, _⟩ := hf
  exact ⟨i, l[i], rfl, List.getElem?_eq_getElem hi, hp⟩
theorem idx_any {p : α → Bool} : decide (0 ≤ idx p l) = l.any p := by
 cases h : l.any p
 ·rw [show idx p l = -1 from idx_none (n := l.length) (Nat.le_refl _) fun j x _ hx => by
   have := List.any_eq_false.1 h x (List.mem_of_getElem? hx)
   simpa using this]
  decide
 ·rw [List.any_eq_true] at h
  obtain ⟨x, hx, hp⟩ := h
  unfold idx
  cases hf : l.findIdx? p with
  | none => rw [List.findIdx?_eq_none_iff] at hf; have := hf x hx; rw [hp] at this; cases this
  | some i => simp
end
def named (s : List UInt8) : Bool := decide (0 < s.length) && decide (s.length ≤ 16)
theorem named_eq (s : List UInt8) : named s = (decide (0 < s.length) && decide (s.length ≤ 16)) := rfl
section
variable {w : World}
theorem named_c (s : List UInt8) : Calls Tryz.prog 47 #[.string ⟨s.toArray⟩] w (Ret w (.bool (named s))) := by
 have E := Lib.hid (named_eq s)
 generalize named s = r at *
 go_enter Tryz.func47, Tryz.ntmps47
 go_wp2_with fail
 all_goals
  go_ret
  rw [E.out]
  refine ⟨?_, Below.refl _ _⟩
 all_goals (first | (simp [*]; done) | (simp [*]; omega))
end
end Go.Proofs.YtjnhgfmjehaalaaGreat
/- Chapter 6: lists gone through by a function. -/
namespace Go.Proofs.YtjnhgfmjehaalaaGreat
open Go.RowKit
set_option linter.unusedVariables false
set_option linter.unusedSimpArgs false
section
variable {w : World}
set_option maxRecDepth 20000 in
theorem ixf_s {ok : Nat → Prop} {A : Option Addr} {n c : Nat} {l : List _} {m : Nat} (g : FuncId) (caps : Array Value) (p : _ → Bool) (h : Sl kStr ok w (.slice A n c) l)
 (hgf : ∀ (args : Array Value) (W : World), (callFunc g args).run Tryz.prog W = .ok (.enter g args) W) (hg : ∀ (W : World) (e : List UInt8), Below w.heap.size w W → e ∈ l → Calls Tryz.prog g (#[.string ⟨e.toArray⟩] ++ caps) W (Ret W (.bool (p e)))) :
 Calls Tryz.prog 150 #[.slice A n c, .func (.func g) #[] caps] w (Ret w (.int .i64 (idx p l))) := by
 have H := Lib.hid h
 have HG := Lib.hid hg
 have HF := Lib.hid hgf
 have hmax := h.len.2.2.1
 have hnc := h.len.2.1
 clear h hg hgf
 go_enter Tryz.func150, Tryz.ntmps150
 go_wp2_with fail
 go_loopw [8] (fun v wr => ∃ k : Nat, k ≤ n ∧ v = .int .i64 k ∧ (∀ j x, j < k → l[j]? = some x → p x = false) ∧ Below w.heap.size w wr) (fun v _ => n - (intOf v).toNat)
 case atStart => exact ⟨0, Nat.zero_le _, rfl, fun j x hj => absurd hj (Nat.not_lt_zero _), Below.refl _ _⟩
 case round =>
  obtain ⟨k, hk, rfl, hp, hb⟩ := hrel
  have HP := Lib.hid hp
  clear hp
  by_cases hlt : k < n
  ·obtain ⟨ad, e, rfl, he, c0⟩ := str_at (H.out.below hb) hlt
   have HE := Lib.hid he
   clear he
   go_wp2_with fail
   rw [HF.out, Oper.upon_enter]
   refine (HG.out _ e (by (focus (repeat (first | with_reducible exact Below.refl _ _ | with_reducible assumption | with_reducible refine bel_al _ ?_ | with_reducible refine bel_dr ?_ | with_reducible refine bel_dn _ ?_ | with_reducible refine bel_tr (by assumption) ?_)))) (List.mem_of_getElem? HE.out)).mono ?_
   rintro x9 w1 ⟨rfl, hb1⟩
   cases hm : p e
   ·have HM := Lib.hid hm
    go_wp2_with fail
    go_roundw
    case rel => exact ⟨k + 1, by omega, by go_num, allI_step (q := fun _ x => p x) HP.out HE.out HM.out, bW⟩
    case measure => simp [intOf]; omega
   ·have E1 := Lib.hid (idx_at HP.out HE.out hm)
    go_wp2_with fail
    go_ret
    rw [E1.out]
    exact ⟨rfl, bW⟩
  ·have E1 := Lib.hid (idx_none (n := k) (by have := H.out.len.1; omega) HP.out)
   go_wp2_with fail
   go_ret
   rw [E1.out]
   exact ⟨rfl, hb⟩
theorem anf_s {ok : Nat → Prop} {A : Option Addr} {n c : Nat} {l : List _} {m : Nat} (g : FuncId) (caps : Array Value) (p : _ → Bool) (h : Sl kStr ok w (.slice A n c) l)
 (hgf : ∀ (args : Array Value) (W : World), (callFunc g args).run Tryz.prog W = .ok (.enter g args) W) (hg : ∀ (W : World) (e : List UInt8), Below w.heap.size w W → e ∈ l → Calls Tryz.prog g (#[.string ⟨e.toArray⟩] ++ caps) W (Ret W (.bool (p e)))) :
 Calls Tryz.prog 100 #[.slice A n c, .func (.func g) #[] caps] w (Ret w (.bool (l.any p))) := by
 have H := Lib.hid (ixf_s (m := m) g caps p h hgf hg)
 have E := Lib.hid (idx_any (p := p) (l := l))
 clear h hgf hg
 go_enter Tryz.func100, Tryz.ntmps100
 go_wp2_with fail
 refine H.out.mono ?_
 rintro x9 w1 ⟨rfl, hb1⟩
 generalize idx p l = r at *
 by_cases hr : 0 ≤ r
 ·go_wp2_with fail
  go_ret
  rw [← E.out, decide_eq_true hr]
  exact ⟨rfl, bW⟩
 ·go_wp2_with fail
  go_ret
  rw [← E.out, decide_eq_false (by omega)]
  exact ⟨rfl, bW⟩
set_option maxRecDepth 20000 in
theorem ixf_f {ok : Nat → Prop} {A : Option Addr} {n c : Nat} {l : List _} {m : Nat} (g : FuncId) (caps : Array Value) (p : _ → Bool) (h : Sl kFld ok w (.slice A n c) l)
 (hgf : ∀ (args : Array Value) (W : World), (callFunc g args).run Tryz.prog W = .ok (.enter g args) W) (hg : ∀ (W : World) (e : Fld) (B : Option Addr) (d : Nat), Below w.heap.size w W → e ∈ l → Sl kStr ok W (.slice B e.enum.length d) e.enum →Calls Tryz.prog g (#[.agg #[.string ⟨e.name.toArray⟩, .int .i64 e.kind, .slice B e.enum.length d, .int .i64 e.init.kind, .int .i64 e.init.int, .bool e.init.bool, .string ⟨e.init.text.toArray⟩, .float .f64 e.init.num]] ++ caps) W (Ret W (.bool (p e)))) :
 Calls Tryz.prog 99 #[.slice A n c, .func (.func g) #[] caps] w (Ret w (.int .i64 (idx p l))) := by
 have H := Lib.hid h
 have HG := Lib.hid hg
 have HF := Lib.hid hgf
 have hmax := h.len.2.2.1
 have hnc := h.len.2.1
 clear h hg hgf
 go_enter Tryz.func99, Tryz.ntmps99
 go_wp2_with fail
 go_loopw [8] (fun v wr => ∃ k : Nat, k ≤ n ∧ v = .int .i64 k ∧ (∀ j x, j < k → l[j]? = some x → p x = false) ∧ Below w.heap.size w wr) (fun v _ => n - (intOf v).toNat)
 case atStart => exact ⟨0, Nat.zero_le _, rfl, fun j x hj => absurd hj (Nat.not_lt_zero _), Below.refl _ _⟩
 case round =>
  obtain ⟨k, hk, rfl, hp, hb⟩ := hrel
  have HP := Lib.hid hp
  clear hp
  by_cases hlt : k < n
  ·obtain ⟨ad, e, B, d, rfl, he, hs, c0, c1, c2, c3, c4, c5, c6, c7⟩ := fld_at (H.out.below hb) hlt
   have HE := Lib.hid he
   clear he
   go_wp2_with fail
   rw [HF.out, Oper.upon_enter]
   refine (HG.out _ e B d (by (focus (repeat (first | with_reducible exact Below.refl _ _ | with_reducible assumption | with_reducible refine bel_al _ ?_ | with_reducible refine bel_dr ?_ | with_reducible refine bel_dn _ ?_ | with_reducible refine bel_tr (by assumption) ?_)))) (List.mem_of_getElem? HE.out) hs).mono ?_
   rintro x9 w1 ⟨rfl, hb1⟩
   cases hm : p e
   ·have HM := Lib.hid hm
    go_wp2_with fail
    go_roundw
    case rel => exact ⟨k + 1, by omega, by go_num, allI_step (q := fun _ x => p x) HP.out HE.out HM.out, bW⟩
    case measure => simp [intOf]; omega
   ·have E1 := Lib.hid (idx_at HP.out HE.out hm)
    go_wp2_with fail
    go_ret
    rw [E1.out]
    exact ⟨rfl, bW⟩
  ·have E1 := Lib.hid (idx_none (n := k) (by have := H.out.len.1; omega) HP.out)
   go_wp2_with fail
   go_ret
   rw [E1.out]
   exact ⟨rfl, hb⟩
theorem anf_f {ok : Nat → Prop} {A : Option Addr} {n c : Nat} {l : List _} {m : Nat} (g : FuncId) (caps : Array Value) (p : _ → Bool) (h : Sl kFld ok w (.slice A n c) l)
 (hgf : ∀ (args : Array Value) (W : World), (callFunc g args).run Tryz.prog W = .ok (.enter g args) W) (hg : ∀ (W : World) (e : Fld) (B : Option Addr) (d : Nat), Below w.heap.size w W → e ∈ l → Sl kStr ok W (.slice B e.enum.length d) e.enum →Calls Tryz.prog g (#[.agg #[.string ⟨e.name.toArray⟩, .int .i64 e.kind, .slice B e.enum.length d, .int .i64 e.init.kind, .int .i64 e.init.int, .bool e.init.bool, .string ⟨e.init.text.toArray⟩, .float .f64 e.init.num]] ++ caps) W (Ret W (.bool (p e)))) :
 Calls Tryz.prog 50 #[.slice A n c, .func (.func g) #[] caps] w (Ret w (.bool (l.any p))) := by
 have H := Lib.hid (ixf_f (m := m) g caps p h hgf hg)
 have E := Lib.hid (idx_any (p := p) (l := l))
 clear h hgf hg
 go_enter Tryz.func50, Tryz.ntmps50
 go_wp2_with fail
 refine H.out.mono ?_
 rintro x9 w1 ⟨rfl, hb1⟩
 generalize idx p l = r at *
 by_cases hr : 0 ≤ r
 ·go_wp2_with fail
  go_ret
  rw [← E.out, decide_eq_true hr]
  exact ⟨rfl, bW⟩
 ·go_wp2_with fail
  go_ret
  rw [← E.out, decide_eq_false (by omega)]
  exact ⟨rfl, bW⟩
set_option maxRecDepth 20000 in
theorem ixf_g {ok : Nat → Prop} {A : Option Addr} {n c : Nat} {l : List _} {m : Nat} (g : FuncId) (caps : Array Value) (p : _ → Bool) (h : Sl kStg ok w (.slice A n c) l)
 (hgf : ∀ (args : Array Value) (W : World), (callFunc g args).run Tryz.prog W = .ok (.enter g args) W) (hg : ∀ (W : World) (e : Stg) (B : Option Addr) (d : Nat), Below w.heap.size w W → e ∈ l → Sl kI ok W (.slice B e.orgs.length d) e.orgs →Calls Tryz.prog g (#[.agg #[.string ⟨e.name.toArray⟩, .int .i64 e.need, .slice B e.orgs.length d]] ++ caps) W (Ret W (.bool (p e)))) :
 Calls Tryz.prog 103 #[.slice A n c, .func (.func g) #[] caps] w (Ret w (.int .i64 (idx p l))) := by
 have H := Lib.hid h
 have HG := Lib.hid hg
 have HF := Lib.hid hgf
 have hmax := h.len.2.2.1
 have hnc := h.len.2.1
 clear h hg hgf
 go_enter Tryz.func103, Tryz.ntmps103
 go_wp2_with fail
 go_loopw [8] (fun v wr => ∃ k : Nat, k ≤ n ∧ v = .int .i64 k ∧ (∀ j x, j < k → l[j]? = some x → p x = false) ∧ Below w.heap.size w wr) (fun v _ => n - (intOf v).toNat)
 case atStart => exact ⟨0, Nat.zero_le _, rfl, fun j x hj => absurd hj (Nat.not_lt_zero _), Below.refl _ _⟩
 case round =>
  obtain ⟨k, hk, rfl, hp, hb⟩ := hrel
  have HP := Lib.hid hp
  clear hp
  by_cases hlt : k < n
  ·obtain ⟨ad, e, B, d, rfl, he, hs, c0, c1, c2⟩ := stg_at (H.out.below hb) hlt
   have HE := Lib.hid he
   clear he
   go_wp2_with fail
   rw [HF.out, Oper.upon_enter]
   refine (HG.out _ e B d (by (focus (repeat (first | with_reducible exact Below.refl _ _ | with_reducible assumption | with_reducible refine bel_al _ ?_ | with_reducible refine bel_dr ?_ | with_reducible refine bel_dn _ ?_ | with_reducible refine bel_tr (by assumption) ?_)))) (List.mem_of_getElem? HE.out) hs).mono ?_
   rintro x9 w1 ⟨rfl, hb1⟩
   cases hm : p e
   ·have HM := Lib.hid hm
    go_wp2_with fail
    go_roundw
    case rel => exact ⟨k + 1, by omega, by go_num, allI_step (q := fun _ x => p x) HP.out HE.out HM.out, bW⟩
    case measure => simp [intOf]; omega
   ·have E1 := Lib.hid (idx_at HP.out HE.out hm)
    go_wp2_with fail
    go_ret
    rw [E1.out]
    exact ⟨rfl, bW⟩
  ·have E1 := Lib.hid (idx_none (n := k) (by have := H.out.len.1; omega) HP.out)
   go_wp2_with fail
   go_ret
   rw [E1.out]
   exact ⟨rfl, hb⟩
theorem anf_g {ok : Nat → Prop} {A : Option Addr} {n c : Nat} {l : List _} {m : Nat} (g : FuncId) (caps : Array Value) (p : _ → Bool) (h : Sl kStg ok w (.slice A n c) l)
 (hgf : ∀ (args : Array Value) (W : World), (callFunc g args).run Tryz.prog W = .ok (.enter g args) W) (hg : ∀ (W : World) (e : Stg) (B : Option Addr) (d : Nat), Below w.heap.size w W → e ∈ l → Sl kI ok W (.slice B e.orgs.length d) e.orgs →Calls Tryz.prog g (#[.agg #[.string ⟨e.name.toArray⟩, .int .i64 e.need, .slice B e.orgs.length d]] ++ caps) W (Ret W (.bool (p e)))) :
 Calls Tryz.prog 55 #[.slice A n c, .func (.func g) #[] caps] w (Ret w (.bool (l.any p))) := by
 have H := Lib.hid (ixf_g (m := m) g caps p h hgf hg)
 have E := Lib.hid (idx_any (p := p) (l := l))
 clear h hgf hg
 go_enter Tryz.func55, Tryz.ntmps55
 go_wp2_with fail
 refine H.out.mono ?_
 rintro x9 w1 ⟨rfl, hb1⟩
 generalize idx p l = r at *
 by_cases hr : 0 ≤ r
 ·go_wp2_with fail
  go_ret
  rw [← E.out, decide_eq_true hr]
  exact ⟨rfl, bW⟩
 ·go_wp2_with fail
  go_ret
  rw [← E.out, decide_eq_false (by omega)]
  exact ⟨rfl, bW⟩
set_option maxRecDepth 20000 in
theorem ixf_m {ok : Nat → Prop} {A : Option Addr} {n c : Nat} {l : List _} {m : Nat} (g : FuncId) (caps : Array Value) (p : _ → Bool) (h : Sl (kMov m) ok w (.slice A n c) l)
 (hgf : ∀ (args : Array Value) (W : World), (callFunc g args).run Tryz.prog W = .ok (.enter g args) W) (hg : ∀ (W : World) (e : Mov) (k : Nat) (B : Option Addr) (b : Nat) (D : Option Addr) (d : Nat), Below w.heap.size w W → e ∈ l → m = k + 1 → Sl (kExp k) ok W (.slice B e.guard.kids.length b) e.guard.kids → Sl (kEff m) ok W (.slice D e.effects.length d) e.effects →Calls Tryz.prog g (#[.agg #[.string ⟨e.name.toArray⟩, .int .i64 e.frm, .int .i64 e.tgt, .int .i64 e.guard.op, .slice B e.guard.kids.length b, .string ⟨e.guard.name.toArray⟩, .int .i64 e.guard.val.kind, .int .i64 e.guard.val.int, .bool e.guard.val.bool, .string ⟨e.guard.val.text.toArray⟩, .float .f64 e.guard.val.num, .slice D e.effects.length d, .int .i64 e.org]] ++ caps) W (Ret W (.bool (p e)))) :
 Calls Tryz.prog 105 #[.slice A n c, .func (.func g) #[] caps] w (Ret w (.int .i64 (idx p l))) := by
 have H := Lib.hid h
 have HG := Lib.hid hg
 have HF := Lib.hid hgf
 have hmax := h.len.2.2.1
 have hnc := h.len.2.1
 clear h hg hgf
 go_enter Tryz.func105, Tryz.ntmps105
 go_wp2_with fail
 go_loopw [8] (fun v wr => ∃ k : Nat, k ≤ n ∧ v = .int .i64 k ∧ (∀ j x, j < k → l[j]? = some x → p x = false) ∧ Below w.heap.size w wr) (fun v _ => n - (intOf v).toNat)
 case atStart => exact ⟨0, Nat.zero_le _, rfl, fun j x hj => absurd hj (Nat.not_lt_zero _), Below.refl _ _⟩
 case round =>
  obtain ⟨k, hk, rfl, hp, hb⟩ := hrel
  have HP := Lib.hid hp
  clear hp
  by_cases hlt : k < n
  ·obtain ⟨ad, e, k', B, b, D, d, rfl, he, hk', hs, hs', c0, c1, c2, c3, c4, c5, c6, c7, c8, c9, c10, c11, c12⟩ := mov_at (H.out.below hb) hlt
   have HE := Lib.hid he
   have HK := Lib.hid hk'; clear hk';clear he
   go_wp2_with fail
   rw [HF.out, Oper.upon_enter]
   refine (HG.out _ e k' B b D d (by (focus (repeat (first | with_reducible exact Below.refl _ _ | with_reducible assumption | with_reducible refine bel_al _ ?_ | with_reducible refine bel_dr ?_ | with_reducible refine bel_dn _ ?_ | with_reducible refine bel_tr (by assumption) ?_)))) (List.mem_of_getElem? HE.out) HK.out hs hs').mono ?_
   rintro x9 w1 ⟨rfl, hb1⟩
   cases hm : p e
   ·have HM := Lib.hid hm
    go_wp2_with fail
    go_roundw
    case rel => exact ⟨k + 1, by omega, by go_num, allI_step (q := fun _ x => p x) HP.out HE.out HM.out, bW⟩
    case measure => simp [intOf]; omega
   ·have E1 := Lib.hid (idx_at HP.out HE.out hm)
    go_wp2_with fail
    go_ret
    rw [E1.out]
    exact ⟨rfl, bW⟩
  ·have E1 := Lib.hid (idx_none (n := k) (by have := H.out.len.1; omega) HP.out)
   go_wp2_with fail
   go_ret
   rw [E1.out]
   exact ⟨rfl, hb⟩
theorem anf_m {ok : Nat → Prop} {A : Option Addr} {n c : Nat} {l : List _} {m : Nat} (g : FuncId) (caps : Array Value) (p : _ → Bool) (h : Sl (kMov m) ok w (.slice A n c) l)
 (hgf : ∀ (args : Array Value) (W : World), (callFunc g args).run Tryz.prog W = .ok (.enter g args) W) (hg : ∀ (W : World) (e : Mov) (k : Nat) (B : Option Addr) (b : Nat) (D : Option Addr) (d : Nat), Below w.heap.size w W → e ∈ l → m = k + 1 → Sl (kExp k) ok W (.slice B e.guard.kids.length b) e.guard.kids → Sl (kEff m) ok W (.slice D e.effects.length d) e.effects →Calls Tryz.prog g (#[.agg #[.string ⟨e.name.toArray⟩, .int .i64 e.frm, .int .i64 e.tgt, .int .i64 e.guard.op, .slice B e.guard.kids.length b, .string ⟨e.guard.name.toArray⟩, .int .i64 e.guard.val.kind, .int .i64 e.guard.val.int, .bool e.guard.val.bool, .string ⟨e.guard.val.text.toArray⟩, .float .f64 e.guard.val.num, .slice D e.effects.length d, .int .i64 e.org]] ++ caps) W (Ret W (.bool (p e)))) :
 Calls Tryz.prog 60 #[.slice A n c, .func (.func g) #[] caps] w (Ret w (.bool (l.any p))) := by
 have H := Lib.hid (ixf_m (m := m) g caps p h hgf hg)
 have E := Lib.hid (idx_any (p := p) (l := l))
 clear h hgf hg
 go_enter Tryz.func60, Tryz.ntmps60
 go_wp2_with fail
 refine H.out.mono ?_
 rintro x9 w1 ⟨rfl, hb1⟩
 generalize idx p l = r at *
 by_cases hr : 0 ≤ r
 ·go_wp2_with fail
  go_ret
  rw [← E.out, decide_eq_true hr]
  exact ⟨rfl, bW⟩
 ·go_wp2_with fail
  go_ret
  rw [← E.out, decide_eq_false (by omega)]
  exact ⟨rfl, bW⟩
/-- the place of a text -/
theorem sidx_c {ok : Nat → Prop} {A : Option Addr} {n c : Nat} {l : List (List UInt8)} (s : List UInt8) (h : Sl kStr ok w (.slice A n c) l) :
 Calls Tryz.prog 149 #[.slice A n c, .string ⟨s.toArray⟩] w (Ret w (.int .i64 (idx (fun x => x == s) l))) := by
 have H := Lib.hid h
 have hmax := h.len.2.2.1
 have hnc := h.len.2.1
 clear h
 go_enter Tryz.func149, Tryz.ntmps149
 go_wp2_with fail
 go_loopw [8] (fun v wr => ∃ k : Nat, k ≤ n ∧ v = .int .i64 k ∧ (∀ j x, j < k → l[j]? = some x → (fun x => x == s) x = false) ∧ Below w.heap.size w wr) (fun v _ => n - (intOf v).toNat)
 case atStart => exact ⟨0, Nat.zero_le _, rfl, fun j x hj => absurd hj (Nat.not_lt_zero _), Below.refl _ _⟩
 case round =>
  obtain ⟨k, hk, rfl, hp, hb⟩ := hrel
  have HP := Lib.hid hp
  clear hp
  by_cases hlt : k < n
  ·obtain ⟨ad, e, rfl, he, c0⟩ := str_at (H.out.below hb) hlt
   have HE := Lib.hid he
   clear he
   by_cases hm : s = e
   ·have E1 := Lib.hid (idx_at HP.out HE.out (by rw [hm]; simp))
    have hm' : (s == e) = true := by simpa using hm
    clear hm
    go_wp2_with fail
    go_ret
    rw [E1.out]
    exact ⟨rfl, hb⟩
   ·have HM := Lib.hid (show (fun x => x == s) e = false by simpa using fun h : e = s => hm h.symm)
    have hm' : (s == e) = false := by simpa using hm
    clear hm
    go_wp2_with fail
    go_roundw
    case rel => exact ⟨k + 1, by omega, by go_num, allI_step (q := fun _ x => x == s) HP.out HE.out HM.out, hb⟩
    case measure => simp [intOf]; omega
  ·have E1 := Lib.hid (idx_none (n := k) (by have := H.out.len.1; omega) HP.out)
   go_wp2_with fail
   go_ret
   rw [E1.out]
   exact ⟨rfl, hb⟩
theorem shas_c {ok : Nat → Prop} {A : Option Addr} {n c : Nat} {l : List (List UInt8)} (s : List UInt8) (h : Sl kStr ok w (.slice A n c) l) :
 Calls Tryz.prog 151 #[.slice A n c, .string ⟨s.toArray⟩] w (Ret w (.bool (l.any fun x => x == s))) := by
 have H := Lib.hid (sidx_c s h)
 have E := Lib.hid (idx_any (p := fun x => x == s) (l := l))
 clear h
 go_enter Tryz.func151, Tryz.ntmps151
 go_wp2_with fail
 refine H.out.mono ?_
 rintro x9 w1 ⟨rfl, hb1⟩
 generalize idx (fun x => x == s) l = r at *
 by_cases hr : 0 ≤ r
 ·go_wp2_with fail
  go_ret
  rw [← E.out, decide_eq_true hr]
  exact ⟨rfl, bW⟩
 ·go_wp2_with fail
  go_ret
  rw [← E.out, decide_eq_false (by omega)]
  exact ⟨rfl, bW⟩
/-- no text stands twice -/
def apartB (l : List (List UInt8)) : Bool := allI (fun i s => idx (fun x => x == s) l == (i : Int)) l
theorem apart_c {ok : Nat → Prop} {A : Option Addr} {n c : Nat} {l : List (List UInt8)} (h : Sl kStr ok w (.slice A n c) l) :
 Calls Tryz.prog 98 #[.slice A n c] w (Ret w (.bool (apartB l))) := by
 have H := Lib.hid h
 have hmax := h.len.2.2.1
 have hnc := h.len.2.1
 have E := Lib.hid (show apartB l = allI (fun i s => idx (fun x => x == s) l == (i : Int)) l from rfl)
 generalize apartB l = r at *
 clear h
 go_enter Tryz.func98, Tryz.ntmps98
 go_wp2_with fail
 go_loopw [7] (fun v wr => ∃ k : Nat, k ≤ n ∧ v = .int .i64 k ∧ (∀ j x, j < k → l[j]? = some x → (fun (i : Nat) s => idx (fun x => x == s) l == (i : Int)) j x = true) ∧ Below w.heap.size w wr) (fun v _ => n - (intOf v).toNat)
 case atStart => exact ⟨0, Nat.zero_le _, rfl, fun j x hj => absurd hj (Nat.not_lt_zero _), Below.refl _ _⟩
 case round =>
  obtain ⟨k, hk, rfl, hp, hb⟩ := hrel
  have HP := Lib.hid hp
  clear hp
  by_cases hlt : k < n
  ·obtain ⟨ad, e, rfl, he, c0⟩ := str_at (H.out.below hb) hlt
   have HE := Lib.hid he
   clear he
   go_wp2_with fail
   refine (sidx_c e (H.out.below (by (focus (repeat (first | with_reducible exact Below.refl _ _ | with_reducible assumption | with_reducible refine bel_al _ ?_ | with_reducible refine bel_dr ?_ | with_reducible refine bel_dn _ ?_ | with_reducible refine bel_tr (by assumption) ?_)))))).mono ?_
   rintro x9 w1 ⟨rfl, hb1⟩
   have HI := Lib.hid (show (idx (fun x => x == e) l == (k : Int)) = (fun (i : Nat) s => idx (fun x => x == s) l == (i : Int)) k e from rfl)
   generalize idx (fun x => x == e) l = r1 at HI ⊢
   by_cases hm : r1 = (k : Int)
   ·have HM := Lib.hid (show (fun (i : Nat) s => idx (fun x => x == s) l == (i : Int)) k e = true by rw [← HI.out, hm]; simp)
    have hm' : (r1 != (k : Int)) = false := by simpa using hm
    clear hm
    go_wp2_with fail
    go_roundw
    case rel => exact ⟨k + 1, by omega, by go_num, allI_step HP.out HE.out HM.out, bW⟩
    case measure => simp [intOf]; omega
   ·have E1 := Lib.hid (E.out.trans (allI_no HE.out (HI.out.symm.trans (by simpa using hm))))
    have hm' : (r1 != (k : Int)) = true := by simpa using hm
    clear hm
    go_wp2_with fail
    go_ret
    rw [E1.out]
    exact ⟨rfl, bW⟩
  ·have E1 := Lib.hid (E.out.trans (allI_yes (n := k) (by have := H.out.len.1; omega) HP.out))
   go_wp2_with fail
   go_ret
   rw [E1.out]
   exact ⟨rfl, hb⟩
end
end Go.Proofs.YtjnhgfmjehaalaaGreat
