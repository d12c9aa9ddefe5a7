/- Expressions, values and fields in memory. -/
import Derived.Test.YtjnhgfmjehaalaaW
namespace Go.Proofs.Ytjnhgfmjehaalaa
open Go.RowKit
set_option linter.unusedVariables false
structure Val where
  kind : Int
  int : Int
  bool : Bool
  text : List UInt8
  num : Nat
  deriving DecidableEq
structure Fld where
  name : List UInt8
  kind : Int
  enum : List (List UInt8)
  init : Val
  deriving DecidableEq
inductive Exp where
  | mk (op : Int) (kids : List Exp) (name : List UInt8) (val : Val)
def Exp.op : Exp → Int | .mk o _ _ _ => o
def Exp.kids : Exp → List Exp | .mk _ k _ _ => k
def Exp.name : Exp → List UInt8 | .mk _ _ n _ => n
def Exp.val : Exp → Val | .mk _ _ _ v => v
def kI : Kd Int := kInt .i64
def kVal : Kd Val := kIso (kPair kI (kPair kI (kPair kBool (kPair kStr kF64)))) fun v => (v.kind, v.int, v.bool, v.text, v.num)
def kFld : Kd Fld := kIso (kPair kStr (kPair kI (kPair (kSl kStr) kVal))) fun f => (f.name, f.kind, f.enum, f.init)
def kNo (α : Type) (n : Nat) (h : 0 < n) : Kd α where
  sz := n
  pos := h
  R := fun _ _ _ _ => False
  len := fun h => h.elim
  one := fun h => h.elim
  move := fun h _ => h.elim
  weak := fun h _ => h.elim
/-- expressions of so many stories -/
def kExp : Nat → Kd Exp
  | 0 => kNo Exp 8 (by decide)
  | n + 1 => kIso (kPair kI (kPair (kSl (kExp n)) (kPair kStr kVal))) fun e => (e.op, e.kids, e.name, e.val)
theorem kExp_sz (n : Nat) : (kExp n).sz = 8 := by cases n <;> rfl
section
variable {ok : Nat → Prop} {w : World} {cs : List Value}
theorem val_open {v : Val} (h : kVal.R ok w cs v) : cs = [.int .i64 v.kind, .int .i64 v.int, .bool v.bool, .string ⟨v.text.toArray⟩, .float .f64 v.num] := by
  obtain ⟨_, _, rfl, rfl, _, _, rfl, rfl, _, _, rfl, rfl, _, _, rfl, rfl, rfl⟩ := h
  rfl
theorem val_mk (ok : Nat → Prop) (w : World) (v : Val) : kVal.R ok w [.int .i64 v.kind, .int .i64 v.int, .bool v.bool, .string ⟨v.text.toArray⟩, .float .f64 v.num] v :=
  ⟨[_], _, rfl, rfl, [_], _, rfl, rfl, [_], _, rfl, rfl, [_], _, rfl, rfl, rfl⟩
theorem fld_open {f : Fld} (h : kFld.R ok w cs f) : ∃ A c, cs = [.string ⟨f.name.toArray⟩, .int .i64 f.kind, .slice A f.enum.length c, .int .i64 f.init.kind, .int .i64 f.init.int, .bool f.init.bool, .string ⟨f.init.text.toArray⟩, .float .f64 f.init.num] ∧ Sl kStr ok w (.slice A f.enum.length c) f.enum := by
  obtain ⟨_, _, rfl, rfl, _, _, rfl, rfl, _, _, rfl, ⟨v, rfl, hs⟩, hv⟩ := h
  obtain ⟨A, c, rfl, _⟩ := hs.form
  have := val_open hv
  subst this
  exact ⟨A, c, rfl, hs⟩
theorem fld_mk {f : Fld} {v : Value} (h : Sl kStr ok w v f.enum) : kFld.R ok w [.string ⟨f.name.toArray⟩, .int .i64 f.kind, v, .int .i64 f.init.kind, .int .i64 f.init.int, .bool f.init.bool, .string ⟨f.init.text.toArray⟩, .float .f64 f.init.num] f :=
  ⟨[_], _, rfl, rfl, [_], _, rfl, rfl, [_], _, rfl, ⟨v, rfl, h⟩, val_mk _ _ _⟩
theorem exp_open {n : Nat} {e : Exp} (h : (kExp n).R ok w cs e) : ∃ k A c, n = k + 1 ∧ cs = [.int .i64 e.op, .slice A e.kids.length c, .string ⟨e.name.toArray⟩, .int .i64 e.val.kind, .int .i64 e.val.int, .bool e.val.bool, .string ⟨e.val.text.toArray⟩, .float .f64 e.val.num] ∧ Sl (kExp k) ok w (.slice A e.kids.length c) e.kids := by
  cases n with
  | zero => exact h.elim
  | succ k =>
    obtain ⟨_, _, rfl, rfl, _, _, rfl, ⟨v, rfl, hs⟩, _, _, rfl, rfl, hv⟩ := h
    obtain ⟨A, c, rfl, _⟩ := hs.form
    have := val_open hv
    subst this
    exact ⟨k, A, c, rfl, rfl, hs⟩
theorem exp_mk {n : Nat} {e : Exp} {v : Value} (h : Sl (kExp n) ok w v e.kids) : (kExp (n + 1)).R ok w [.int .i64 e.op, v, .string ⟨e.name.toArray⟩, .int .i64 e.val.kind, .int .i64 e.val.int, .bool e.val.bool, .string ⟨e.val.text.toArray⟩, .float .f64 e.val.num] e :=
  ⟨[_], _, rfl, rfl, [_], _, rfl, ⟨v, rfl, h⟩, [_], _, rfl, rfl, val_mk _ _ _⟩
/-- more stories do no harm -/
theorem Sl.kind {α : Type} {d d' : Kd α} (hsz : d.sz = d'.sz) (hR : ∀ {ok w cs x}, d.R ok w cs x → d'.R ok w cs x) {v : Value} {xs : List α} (h : Sl d ok w v xs) : Sl d' ok w v xs := by
  obtain ⟨A, n, c, e, hl, hn, hc, hA, hx⟩ := h
  refine ⟨A, n, c, e, hl, hn, hc, hA, fun i x hi => ?_⟩
  obtain ⟨ad, cs, ea, ho, hr, hcell⟩ := hx i x hi
  exact ⟨ad, cs, ea, ho, hR hr, fun j u hu => by rw [← hsz]; exact hcell j u hu⟩
theorem exp_up : ∀ (n : Nat) {ok : Nat → Prop} {w : World} {cs : List Value} {e : Exp}, (kExp n).R ok w cs e → (kExp (n + 1)).R ok w cs e
  | 0, _, _, _, _, h => h.elim
  | n + 1, _, _, _, _, h => by
    obtain ⟨_, _, rfl, h1, _, _, rfl, ⟨v, rfl, hs⟩, h2⟩ := h
    exact ⟨_, _, rfl, h1, _, _, rfl, ⟨v, rfl, hs.kind (by rw [kExp_sz, kExp_sz]) (fun hr => exp_up n hr)⟩, h2⟩
theorem exp_le {n m : Nat} (hm : n ≤ m) {e : Exp} (h : (kExp n).R ok w cs e) : (kExp m).R ok w cs e := by
  induction hm with
  | refl => exact h
  | step _ ih => exact exp_up _ ih
/-- a part in a slice: its cells, as the walk has them -/
theorem cells_at {α : Type} {d : Kd α} {A : Option Addr} {n c : Nat} {l : List α} (h : Sl d ok w (.slice A n c) l) {i : Nat} (hi : i < n) :
    ∃ ad e cs, A = some ad ∧ l[i]? = some e ∧ d.R ok w cs e ∧ (∀ u, cs[0]? = some u → w.cell? (ad.add (i * d.sz)) = some u) ∧ ∀ j u, cs[j + 1]? = some u → w.cell? ⟨(ad.add (i * d.sz)).block, (ad.add (i * d.sz)).off + (j + 1), none⟩ = some u := by
  have hl := h.len.1
  obtain ⟨ad, cs, ea, _, hr, hc⟩ := h.at_ (List.getElem?_eq_getElem (show i < l.length by omega))
  refine ⟨ad, _, cs, ea, List.getElem?_eq_getElem (by omega), hr, fun u hu => by simpa using hc 0 u hu, fun j u hu => ?_⟩
  rw [← add_field ad (i * d.sz) (j + 1) (by omega)]
  exact hc (j + 1) u hu
end
end Go.Proofs.Ytjnhgfmjehaalaa
