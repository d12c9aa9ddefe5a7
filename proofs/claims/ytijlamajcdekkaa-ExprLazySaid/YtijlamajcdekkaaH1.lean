/- Expressions that a law builds. -/
import Derived.Test.YtijlamajcdekkaaG2
namespace Go.Proofs.Ytijlamajcdekkaa
open Go.RowKit
set_option linter.unusedVariables false
theorem Loc1.new (w : World) (t : TypeId) (cm : Array Value) : Loc1 w.heap.size t cm (w.alloc (.cells cm t)) := heap_new _ _
theorem Loc1.newE (w : World) (t : TypeId) (cm : Array Value) {g : Nat} (hg : g = w.heap.size) : Loc1 g t cm (w.alloc (.cells cm t)) := by subst hg; exact heap_new _ _
theorem Loc1.al {g : Nat} {t : TypeId} {cm : Array Value} {w : World} (o : Obj) (h : Loc1 g t cm w) : Loc1 g t cm (w.alloc o) := h.below ((Below.refl _ _).alloc (Nat.le_refl _) _)
theorem Loc1.st {g b i : Nat} {t : TypeId} {cm : Array Value} {w : World} {v : Value} (hne : g ≠ b) (h : Loc1 g t cm w) : Loc1 g t cm (w.setCell ⟨b, i, none⟩ v) := heap_set_ne' h hne i v
theorem bel_st {w W : World} {b i : Nat} {v : Value} (hb : w.heap.size ≤ b) (h : Below w.heap.size w W) : Below w.heap.size w (W.setCell ⟨b, i, none⟩ v) := below_ext_ne h (ext_set_ne (Ext.refl (fun k => k ≠ b) W) i v) hb (Nat.le_refl _)
theorem Loc1.dr {g : Nat} {t : TypeId} {cm : Array Value} {w : World} (h : Loc1 g t cm w) : Loc1 g t cm w.drew := h
theorem Loc1.bel {g : Nat} {t : TypeId} {cm : Array Value} {w w' : World} (hb : Below w.heap.size w w') (h : Loc1 g t cm w) : Loc1 g t cm w' := h.below hb
theorem bel_al {w W : World} (o : Obj) (h : Below w.heap.size w W) : Below w.heap.size w (W.alloc o) := below_alloc h (Nat.le_refl _) o
theorem bel_dr {w W : World} (h : Below w.heap.size w W) : Below w.heap.size w W.drew := h.drew
theorem bel_tr {w W W' : World} (hb : Below W.heap.size W W') (h : Below w.heap.size w W) : Below w.heap.size w W' := below_self h hb
/-- a row of a block of its own -/
theorem sl_row {α : Type} {d : Kd α} {ok : Nat → Prop} {w : World} {g : Nat} {t : TypeId} {cs : List Value} {xs : List α} {n : Nat} (h : Loc1 g t cs.toArray w) (hk : ok g) (hx : Rps d ok w xs cs) (hn : xs.length = n) (hmax : n ≤ maxLen) : Sl d ok w (.slice (some ⟨g, 0, none⟩) n n) xs := by
  refine ⟨_, _, n, rfl, hn, Nat.le_refl _, hmax, (fun x => nomatch x), fun i x hi => ?_⟩
  obtain ⟨c, hr, hu⟩ := hx.at_ hi
  refine ⟨_, c, rfl, hk, hr, fun j u hj => ?_⟩
  have h1 := hu j u hj
  have ha : (⟨g, 0, none⟩ : Addr).add (i * d.sz + j) = ⟨g, i * d.sz + j, none⟩ := by unfold Addr.add; split <;> simp_all
  rw [ha, cell_of h]
  simpa using h1
section
variable {w : World}
/-- a constant -/
def cE (v : Val) : Exp := .mk 1 [] [] v
/-- an operation -/
def oE (o : Int) (ks : List Exp) : Exp := .mk o ks [] zeroV
theorem con_R (n : Nat) (w : World) (v : Val) : (kExp (n + 1)).R (fun _ => True) w [.int .i64 1, .slice none 0 0, .string ⟨#[]⟩, .int .i64 v.kind, .int .i64 v.int, .bool v.bool, .string ⟨v.text.toArray⟩, .float .f64 v.num] (cE v) :=
  exp_mk (e := cE v) (Sl.nil _ _ _)
theorem op_R {n : Nat} {w : World} {A : Option Addr} {N c : Nat} {ks : List Exp} (o : Int) (h : Sl (kExp n) (fun _ => True) w (.slice A N c) ks) : (kExp (n + 1)).R (fun _ => True) w [.int .i64 o, .slice A N c, .string ⟨#[]⟩, .int .i64 0, .int .i64 0, .bool false, .string ⟨#[]⟩, .float .f64 0] (oE o ks) :=
  exp_mk (e := oE o ks) h
theorem two_R {n : Nat} {w : World} {g : Nat} {t : TypeId} {cm : Array Value} {c1 c2 : List Value} {e1 e2 : Exp} (h : Loc1 g t cm w) (h1 : (kExp n).R (fun _ => True) w c1 e1) (h2 : (kExp n).R (fun _ => True) w c2 e2) (hc : cm = (c1 ++ c2).toArray) : Sl (kExp n) (fun _ => True) w (.slice (some ⟨g, 0, none⟩) 2 2) [e1, e2] := by
  subst hc
  exact sl_row h trivial ⟨c1, c2, rfl, h1, c2, [], by simp, h2, rfl⟩ rfl (by unfold maxLen; omega)
theorem three_R {n : Nat} {w : World} {g : Nat} {t : TypeId} {cm : Array Value} {c1 c2 c3 : List Value} {e1 e2 e3 : Exp} (h : Loc1 g t cm w) (h1 : (kExp n).R (fun _ => True) w c1 e1) (h2 : (kExp n).R (fun _ => True) w c2 e2) (h3 : (kExp n).R (fun _ => True) w c3 e3) (hc : cm = (c1 ++ (c2 ++ c3)).toArray) : Sl (kExp n) (fun _ => True) w (.slice (some ⟨g, 0, none⟩) 3 3) [e1, e2, e3] := by
  subst hc
  exact sl_row h trivial ⟨c1, c2 ++ c3, rfl, h1, c2, c3, rfl, h2, c3, [], by simp, h3, rfl⟩ rfl (by unfold maxLen; omega)
end
theorem kR_below {n : Nat} {w W : World} {cs : List Value} {e : Exp} (h : (kExp n).R (fun _ => True) w cs e) (hb : Below w.heap.size w W) : (kExp n).R (fun _ => True) W cs e := by
  obtain ⟨k, A, c, rfl, rfl, hs⟩ := exp_open h
  exact exp_mk (hs.below hb)
def RetE (n : Nat) (w : World) (cs : List Value) (x : Exp) (e : Ending) (w' : World) : Prop := e = .returned (.agg cs.toArray) ∧ (kExp n).R (fun _ => True) w' cs x ∧ Below w.heap.size w w'
section
variable {w : World}
theorem opk_c {n : Nat} {o : Int} {A : Option Addr} {N c : Nat} {ks : List Exp} (h : Sl (kExp n) (fun _ => True) w (.slice A N c) ks) : Calls Try.prog 14 #[.int .i64 o, .slice A N c] w
    (RetE (n + 1) w [.int .i64 o, .slice A N c, .string ⟨#[]⟩, .int .i64 0, .int .i64 0, .bool false, .string ⟨#[]⟩, .float .f64 0] (oE o ks)) :=
  (op_c o A N c).mono fun _ _ h' => ⟨h'.1, op_R o (h.below h'.2), h'.2⟩
theorem conI_c (n : Int) : Calls Try.prog 15 #[.agg #[.int .i64 1, .int .i64 n, .bool false, .string ⟨#[]⟩, .float .f64 0]] w (Ret w (.agg #[.int .i64 1, .slice none 0 0, .string ⟨#[]⟩, .int .i64 1, .int .i64 n, .bool false, .string ⟨#[]⟩, .float .f64 0])) := con_c (intV n)
theorem conT_c (b : Bool) : Calls Try.prog 15 #[.agg #[.int .i64 2, .int .i64 0, .bool b, .string ⟨#[]⟩, .float .f64 0]] w (Ret w (.agg #[.int .i64 1, .slice none 0 0, .string ⟨#[]⟩, .int .i64 2, .int .i64 0, .bool b, .string ⟨#[]⟩, .float .f64 0])) := con_c (truthV b)
theorem conN_c (n : Nat) : Calls Try.prog 15 #[.agg #[.int .i64 4, .int .i64 0, .bool false, .string ⟨#[]⟩, .float .f64 n]] w (Ret w (.agg #[.int .i64 1, .slice none 0 0, .string ⟨#[]⟩, .int .i64 4, .int .i64 0, .bool false, .string ⟨#[]⟩, .float .f64 n])) := con_c (numV n)
end
/-! ### the examples -/
def fA : Fld := ⟨[97], 1, [], zeroV⟩
def aE : Exp := .mk 2 [] [97] zeroV
def ex1 : Exp := oE 4 [aE, cE (intV 1)]
def ex2 : Exp := oE 9 [aE, cE (numV 4609434218613702656)]
def ex3 : Exp := oE 10 [cE (truthV false), oE 8 [oE 7 [cE (intV 1), cE (intV 0)], cE (intV 1)]]
def ex4 : Exp := oE 7 [cE (intV 1), cE (intV 0)]
theorem aE_R (n : Nat) (w : World) : (kExp (n + 1)).R (fun _ => True) w [.int .i64 2, .slice none 0 0, .string ⟨#[97]⟩, .int .i64 0, .int .i64 0, .bool false, .string ⟨#[]⟩, .float .f64 0] aE := exp_mk (e := aE) (Sl.nil _ _ _)
theorem fA_S {w : World} {g : Nat} {t : TypeId} (h : Loc1 g t #[.string ⟨#[97]⟩, .int .i64 1, .slice none 0 0, .int .i64 0, .int .i64 0, .bool false, .string ⟨#[]⟩, .float .f64 0] w) : Sl kFld (fun _ => True) w (.slice (some ⟨g, 0, none⟩) 1 1) [fA] :=
  sl_row (cs := [.string ⟨#[97]⟩, .int .i64 1, .slice none 0 0, .int .i64 0, .int .i64 0, .bool false, .string ⟨#[]⟩, .float .f64 0]) h trivial ⟨_, [], rfl, fld_mk (f := fA) (Sl.nil _ _ _), rfl⟩ rfl (by unfold maxLen; omega)
theorem vA_S {w : World} {g : Nat} {t : TypeId} (v : Val) (h : Loc1 g t #[.int .i64 v.kind, .int .i64 v.int, .bool v.bool, .string ⟨v.text.toArray⟩, .float .f64 v.num] w) : Sl kVal (fun _ => True) w (.slice (some ⟨g, 0, none⟩) 1 1) [v] :=
  sl_row (cs := [.int .i64 v.kind, .int .i64 v.int, .bool v.bool, .string ⟨v.text.toArray⟩, .float .f64 v.num]) h trivial ⟨_, [], rfl, val_mk _ _ v, rfl⟩ rfl (by unfold maxLen; omega)
theorem ex1_v : evalR [fA] [intV 2] 4 ex1 = (intV 3, 0) := by decide +kernel
theorem ex2_v : chkE [fA] 4 ex2 = (0, 40) := by decide +kernel
theorem ex3_v : evalR [] [] 4 ex3 = (truthV false, 0) := by decide +kernel
theorem ex4_v : evalR [] [] 4 ex4 = (zeroV, 42) := by decide +kernel
section
variable {w : World}
theorem ev1_c {A A2 : Option Addr} {N N2 c c2 : Nat} {cs : List Value} (h : (kExp 4).R (fun _ => True) w cs ex1) (hf : Sl kFld (fun _ => True) w (.slice A N c) [fA]) (hv : Sl kVal (fun _ => True) w (.slice A2 N2 c2) [intV 2]) :
    Calls Try.prog 12 #[.agg cs.toArray, .slice A N c, .slice A2 N2 c2] w (Ret w (.tuple #[.agg #[.int .i64 1, .int .i64 3, .bool false, .string ⟨#[]⟩, .float .f64 0], .int .i64 0])) := by
  have H := ev_c h hf hv
  rw [ex1_v] at H
  exact H
theorem ev3_c {A A2 : Option Addr} {N N2 c c2 : Nat} {cs : List Value} (h : (kExp 4).R (fun _ => True) w cs ex3) (hf : Sl kFld (fun _ => True) w (.slice A N c) []) (hv : Sl kVal (fun _ => True) w (.slice A2 N2 c2) []) :
    Calls Try.prog 12 #[.agg cs.toArray, .slice A N c, .slice A2 N2 c2] w (Ret w (.tuple #[.agg #[.int .i64 2, .int .i64 0, .bool false, .string ⟨#[]⟩, .float .f64 0], .int .i64 0])) := by
  have H := ev_c h hf hv
  rw [ex3_v] at H
  exact H
theorem ev4_c {A A2 : Option Addr} {N N2 c c2 : Nat} {cs : List Value} (h : (kExp 4).R (fun _ => True) w cs ex4) (hf : Sl kFld (fun _ => True) w (.slice A N c) []) (hv : Sl kVal (fun _ => True) w (.slice A2 N2 c2) []) :
    Calls Try.prog 12 #[.agg cs.toArray, .slice A N c, .slice A2 N2 c2] w (Ret w (.tuple #[.agg #[.int .i64 0, .int .i64 0, .bool false, .string ⟨#[]⟩, .float .f64 0], .int .i64 42])) := by
  have H := ev_c h hf hv
  rw [ex4_v] at H
  exact H
theorem ck2_c {A : Option Addr} {N c : Nat} {cs : List Value} (h : (kExp 4).R (fun _ => True) w cs ex2) (hf : Sl kFld (fun _ => True) w (.slice A N c) [fA]) :
    Calls Try.prog 9 #[.agg cs.toArray, .slice A N c] w (Ret w (.tuple #[.int .i64 0, .int .i64 40])) := by
  have H := check_c h hf
  rw [ex2_v] at H
  exact H
end
theorem at_op (o : Int) {P : Program} {f : FuncId} {x : Value} {w : World} {R : Ending → World → Prop} (h : Calls P f #[.int .i64 o, x] w R) : Calls P f #[.int .i64 o, x] w R := h
theorem sameTT_c {w : World} : Calls Try.prog 18 #[.agg #[.int .i64 2, .int .i64 0, .bool false, .string ⟨#[]⟩, .float .f64 0], .agg #[.int .i64 2, .int .i64 0, .bool false, .string ⟨#[]⟩, .float .f64 0]] w (Ret w (.bool true)) := by
  have H := same4_c (w := w) (truthV false) (truthV false)
  rw [show sameV (truthV false) (truthV false) = true by decide +kernel] at H
  exact H
end Go.Proofs.Ytijlamajcdekkaa
