/- Texts that go together. -/
import Derived.Test.YtijlamajcdekkaaMC
import Derived.Test.YtijlamajcdekkaaMQ
/- The laws' own small functions, walked: uses, few, op, con. -/
namespace Go.Proofs.Ytijlamajcdekkaa
open Go.RowKit
set_option linter.unusedVariables false
/-- does an expression name a field? -/
def usE (name : List UInt8) : Nat → Exp → Bool
  | 0, _ => false
  | n + 1, e => e.name == name || e.kids.any (usE name n)
def fewS (fl : List Fld) (vs : List Val) : Bool := decide (fl.length ≤ 20) && decide (vs.length ≤ 20) && (fl.all (fun f => decide (f.name.length ≤ 200)) && vs.all (fun v => decide (v.text.length ≤ 200)))
theorem all_no {α : Type} {p : α → Bool} {l : List α} {i : Nat} {x : α} (h : l[i]? = some x) (hp : p x = false) : l.all p = false := by
  rw [List.all_eq_false]
  exact ⟨x, List.mem_of_getElem? h, by rw [hp]; decide⟩
theorem all_yes {α : Type} {p : α → Bool} {l : List α} {n : Nat} (hn : l.length ≤ n) (h : ∀ (i : Nat) (x : α), i < n → l[i]? = some x → p x = true) : l.all p = true := by
  rw [List.all_eq_true]
  intro x hx
  obtain ⟨i, hi, rfl⟩ := List.getElem_of_mem hx
  exact h i _ (by omega) (List.getElem?_eq_getElem hi)
theorem any_yes {α : Type} {p : α → Bool} {l : List α} {i : Nat} {x : α} (h : l[i]? = some x) (hp : p x = true) : l.any p = true := by
  rw [List.any_eq_true]
  exact ⟨x, List.mem_of_getElem? h, hp⟩
theorem any_no {α : Type} {p : α → Bool} {l : List α} {n : Nat} (hn : l.length ≤ n) (h : ∀ (i : Nat) (x : α), i < n → l[i]? = some x → p x = false) : l.any p = false := by
  rw [List.any_eq_false]
  intro x hx
  obtain ⟨i, hi, rfl⟩ := List.getElem_of_mem hx
  rw [h i _ (by omega) (List.getElem?_eq_getElem hi)]
  decide
section
variable {w : World}
set_option maxHeartbeats 2000000 in
theorem uses_c {ok : Nat → Prop} (name : List UInt8) : ∀ (n : Nat) (w : World) (cs : List Value) (e : Exp), (kExp n).R ok w cs e →
    Calls Try.prog 19 #[.agg cs.toArray, .string ⟨name.toArray⟩] w (Ret w (.bool (usE name n e))) := by
  intro n
  induction n with
  | zero => intro w cs e h; exact h.elim
  | succ n ih =>
    intro w cs e h
    obtain ⟨k, A, c, hk, rfl, hs⟩ := exp_open h
    obtain rfl : n = k := by omega
    have SF := store_f64
    have E := Lib.hid (show usE name (n + 1) e = (e.name == name || e.kids.any (usE name n)) from rfl)
    have IH := Lib.hid ih
    clear ih
    have hmax := hs.len.2.2.1
    have hnc := hs.len.2.1
    have B0 := Lib.hid (show Below w.heap.size w (w.alloc (.cells #[.int .i64 e.op, .slice A e.kids.length c, .string ⟨e.name.toArray⟩, .int .i64 e.val.kind, .int .i64 e.val.int, .bool e.val.bool, .string ⟨e.val.text.toArray⟩, .float .f64 e.val.num] 27)) from (Below.refl _ _).alloc (Nat.le_refl _) _)
    have L0 := Lib.hid (show Loc1 w.heap.size 27 #[.int .i64 e.op, .slice A e.kids.length c, .string ⟨e.name.toArray⟩, .int .i64 e.val.kind, .int .i64 e.val.int, .bool e.val.bool, .string ⟨e.val.text.toArray⟩, .float .f64 e.val.num] (w.alloc (.cells #[.int .i64 e.op, .slice A e.kids.length c, .string ⟨e.name.toArray⟩, .int .i64 e.val.kind, .int .i64 e.val.int, .bool e.val.bool, .string ⟨e.val.text.toArray⟩, .float .f64 e.val.num] 27)) from heap_new _ _)
    have HS := Lib.hid hs
    clear h hs
    generalize usE name (n + 1) e = r at *
    by_cases hnm : e.name = name
    · have E2 := Lib.hid (show r = true by rw [E.out, hnm]; simp)
      have hnb : (e.name == name) = true := by simpa using hnm
      clear hnm
      go_enter Try.func19, Try.ntmps19
      go_wp2_with fail
      go_ret
      rw [E2.out]
      exact ⟨rfl, B0.out⟩
    · have hnb : (e.name == name) = false := by simpa using hnm
      replace E := Lib.hid (show r = e.kids.any (usE name n) by rw [E.out, hnb]; rfl)
      clear hnm
      go_enter Try.func19, Try.ntmps19
      go_wp2_with fail
      go_loopw [5] (fun v5 wr => ∃ i : Nat, i ≤ e.kids.length ∧ v5 = .int .i64 i ∧ (∀ (j : Nat) (x : Exp), j < i → e.kids[j]? = some x → usE name n x = false) ∧ Below w.heap.size w wr ∧ Loc1 w.heap.size 27 #[.int .i64 e.op, .slice A e.kids.length c, .string ⟨e.name.toArray⟩, .int .i64 e.val.kind, .int .i64 e.val.int, .bool e.val.bool, .string ⟨e.val.text.toArray⟩, .float .f64 e.val.num] wr) (fun v5 _ => e.kids.length - (intOf v5).toNat)
      case atStart => exact ⟨0, Nat.zero_le _, rfl, fun j x hj => absurd hj (Nat.not_lt_zero _), B0.out, L0.out⟩
      case round =>
        obtain ⟨i, hi, rfl, hp, hb, hl⟩ := hrel
        have HP := Lib.hid hp
        have HB := Lib.hid hb
        have HL := Lib.hid hl
        clear hp hb hl B0 L0
        obtain ⟨q0, q1, -⟩ := cells8 HL.out
        have hzl := lt_of_heap HL.out
        by_cases hlt : i < e.kids.length
        · obtain ⟨ad, x, k', B, d', rfl, he, hk', hs', c0, c1, c2, c3, c4, c5, c6, c7⟩ := exp_at (HS.out.below HB.out) hlt
          have HE := Lib.hid he
          have HC := Lib.hid (IH.out wr _ x (hk' ▸ exp_mk hs'))
          clear he hs'
          go_wp2_with fail
          refine HC.out.mono ?_
          rintro e1 w2 ⟨rfl, hb⟩
          have B2 := Lib.hid (below_self HB.out hb)
          have L2 := Lib.hid (HL.out.below hb)
          clear HC hb c0 c1 c2 c3 c4 c5 c6 c7
          cases hu : usE name n x
          · have HU := Lib.hid hu
            go_wp2_with fail
            go_roundw
            case rel =>
              refine ⟨i + 1, by omega, by go_num, fun j y hj hy => ?_, B2.out, L2.out⟩
              rcases Nat.lt_or_ge j i with h | h
              · exact HP.out j y h hy
              · obtain rfl : j = i := by omega
                rw [HE.out] at hy
                injection hy with hy
                rw [← hy]
                exact HU.out
            case measure => simp [intOf]; omega
          · have E2 := Lib.hid (show r = true by rw [E.out]; exact any_yes HE.out hu)
            go_wp2_with fail
            go_ret
            rw [E2.out]
            exact ⟨rfl, B2.out⟩
        · have E2 := Lib.hid (show r = false by rw [E.out]; exact any_no (n := i) (by omega) HP.out)
          go_wp2_with fail
          go_ret
          rw [E2.out]
          exact ⟨rfl, HB.out⟩
theorem few_eq (fl : List Fld) (vs : List Val) : fewS fl vs = (decide (fl.length ≤ 20) && decide (vs.length ≤ 20) && (fl.all (fun f => decide (f.name.length ≤ 200)) && vs.all (fun v => decide (v.text.length ≤ 200)))) := rfl
set_option maxHeartbeats 2000000 in
theorem few_c {ok ok2 : Nat → Prop} {A A2 : Option Addr} {N N2 c c2 : Nat} {fl : List Fld} {vs : List Val} (hf : Sl kFld ok w (.slice A N c) fl) (hv : Sl kVal ok2 w (.slice A2 N2 c2) vs) :
    Calls Try.prog 8 #[.agg #[.slice A N c, .slice A2 N2 c2]] w (Ret w (.bool (fewS fl vs))) := by
  have E := Lib.hid (few_eq fl vs)
  have HF := Lib.hid hf
  have HV := Lib.hid hv
  have lf := Lib.hid hf.len.1
  have lv := Lib.hid hv.len.1
  have hn1 := hf.len.2.1
  have hm1 := hf.len.2.2.1
  have hn2 := hv.len.2.1
  have hm2 := hv.len.2.2.1
  have B0 := Lib.hid (show Below w.heap.size w (w.alloc (.cells #[.slice A N c, .slice A2 N2 c2] 31)) from (Below.refl _ _).alloc (Nat.le_refl _) _)
  have L0 := Lib.hid (show Loc1 w.heap.size 31 #[.slice A N c, .slice A2 N2 c2] (w.alloc (.cells #[.slice A N c, .slice A2 N2 c2] 31)) from heap_new _ _)
  clear hf hv
  generalize fewS fl vs = r at *
  by_cases h1 : (N : Int) > 20
  · have E2 := Lib.hid (show r = false by rw [E.out, decide_eq_false (by have := lf.out; omega)]; rfl)
    go_enter Try.func8, Try.ntmps8
    go_wp2_with fail
    go_ret
    rw [E2.out]
    exact ⟨rfl, B0.out⟩
  by_cases h2 : (N2 : Int) > 20
  · have E2 := Lib.hid (show r = false by rw [E.out, decide_eq_false (show ¬ vs.length ≤ 20 by have := lv.out; omega), Bool.and_false]; rfl)
    go_enter Try.func8, Try.ntmps8
    go_wp2_with fail
    go_ret
    rw [E2.out]
    exact ⟨rfl, B0.out⟩
  replace E := Lib.hid (show r = (fl.all (fun f => decide (f.name.length ≤ 200)) && vs.all (fun v => decide (v.text.length ≤ 200))) by
    rw [E.out, decide_eq_true (show fl.length ≤ 20 by have := lf.out; omega), decide_eq_true (show vs.length ≤ 20 by have := lv.out; omega)]; rfl)
  go_enter Try.func8, Try.ntmps8
  go_wp2_with fail
  go_loopw [3] (fun v3 wr => ∃ i : Nat, i ≤ N ∧ v3 = .int .i64 i ∧ (∀ (j : Nat) (x : Fld), j < i → fl[j]? = some x → decide (x.name.length ≤ 200) = true) ∧ Below w.heap.size w wr ∧ Loc1 w.heap.size 31 #[.slice A N c, .slice A2 N2 c2] wr) (fun v3 _ => N - (intOf v3).toNat)
  case atStart => exact ⟨0, Nat.zero_le _, rfl, fun j x hj => absurd hj (Nat.not_lt_zero _), B0.out, L0.out⟩
  case round =>
    obtain ⟨i, hi, rfl, hp, hb, hl⟩ := hrel
    have HP := Lib.hid hp
    have HB := Lib.hid hb
    have HL := Lib.hid hl
    clear hp hb hl B0 L0
    have q0 := cell_of HL.out 0
    have q1 := cell_of HL.out 1
    simp only [List.getElem?_toArray, List.getElem?_cons_zero, List.getElem?_cons_succ] at q0 q1
    have hzl := lt_of_heap HL.out
    by_cases hlt : i < N
    · obtain ⟨ad, f, B, d, rfl, he, -, d0, -⟩ := fld_at (HF.out.below HB.out) hlt
      have HE := Lib.hid he
      clear he
      by_cases hg : (f.name.length : Int) > 200
      · have E2 := Lib.hid (show r = false by rw [E.out, all_no HE.out (decide_eq_false (by omega))]; rfl)
        go_wp2_with fail
        go_ret
        rw [E2.out]
        exact ⟨rfl, HB.out⟩
      · have HG := Lib.hid (show decide (f.name.length ≤ 200) = true from decide_eq_true (by omega))
        go_wp2_with fail
        go_roundw
        case rel =>
          refine ⟨i + 1, by omega, by go_num, fun j y hj hy => ?_, HB.out, HL.out⟩
          rcases Nat.lt_or_ge j i with h | h
          · exact HP.out j y h hy
          · obtain rfl : j = i := by omega
            rw [HE.out] at hy
            injection hy with hy
            rw [← hy]
            exact HG.out
        case measure => simp [intOf]; omega
    · replace E := Lib.hid (show r = vs.all (fun v => decide (v.text.length ≤ 200)) by rw [E.out, all_yes (n := i) (by have := lf.out; omega) HP.out]; rfl)
      clear HP
      go_wp2_with fail
      go_loopw [4] (fun v4 wx => ∃ i : Nat, i ≤ N2 ∧ v4 = .int .i64 i ∧ (∀ (j : Nat) (x : Val), j < i → vs[j]? = some x → decide (x.text.length ≤ 200) = true) ∧ Below w.heap.size w wx ∧ Loc1 w.heap.size 31 #[.slice A N c, .slice A2 N2 c2] wx) (fun v4 _ => N2 - (intOf v4).toNat)
      case atStart => exact ⟨0, Nat.zero_le _, rfl, fun j x hj => absurd hj (Nat.not_lt_zero _), HB.out, HL.out⟩
      case round =>
        clear HB HL q0 q1 hzl hi hlt
        obtain ⟨i, hi, rfl, hp, hb, hl⟩ := hrel
        have HP := Lib.hid hp
        have HB := Lib.hid hb
        have HL := Lib.hid hl
        clear hp hb hl
        have q0 := cell_of HL.out 0
        have q1 := cell_of HL.out 1
        simp only [List.getElem?_toArray, List.getElem?_cons_zero, List.getElem?_cons_succ] at q0 q1
        have hzl := lt_of_heap HL.out
        by_cases hlt : i < N2
        · obtain ⟨ad, v, rfl, he, c0, c1, c2_, c3, c4⟩ := val_at (HV.out.below HB.out) hlt
          have HE := Lib.hid he
          clear he
          by_cases hg : (v.text.length : Int) > 200
          · have E2 := Lib.hid (show r = false by rw [E.out, all_no HE.out (decide_eq_false (by omega))])
            go_wp2_with fail
            go_ret
            rw [E2.out]
            exact ⟨rfl, HB.out⟩
          · have HG := Lib.hid (show decide (v.text.length ≤ 200) = true from decide_eq_true (by omega))
            go_wp2_with fail
            go_roundw
            case rel =>
              refine ⟨i + 1, by omega, by go_num, fun j y hj hy => ?_, HB.out, HL.out⟩
              rcases Nat.lt_or_ge j i with h | h
              · exact HP.out j y h hy
              · obtain rfl : j = i := by omega
                rw [HE.out] at hy
                injection hy with hy
                rw [← hy]
                exact HG.out
            case measure => simp [intOf]; omega
        · have E2 := Lib.hid (show r = true by rw [E.out, all_yes (n := i) (by have := lv.out; omega) HP.out])
          go_wp2_with fail
          go_ret
          rw [E2.out]
          exact ⟨rfl, HB.out⟩
theorem con_c (v : Val) : Calls Try.prog 15 #[.agg #[.int .i64 v.kind, .int .i64 v.int, .bool v.bool, .string ⟨v.text.toArray⟩, .float .f64 v.num]] w
    (Ret w (.agg #[.int .i64 1, .slice none 0 0, .string ⟨#[]⟩, .int .i64 v.kind, .int .i64 v.int, .bool v.bool, .string ⟨v.text.toArray⟩, .float .f64 v.num])) := by
  have SF := store_f64
  go_enter Try.func15, Try.ntmps15
  go_wp21
  exact bodyPost_ret (v := .agg #[.int .i64 1, .slice none 0 0, .string ⟨#[]⟩, .int .i64 v.kind, .int .i64 v.int, .bool v.bool, .string ⟨v.text.toArray⟩, .float .f64 v.num]) (by simp [results, Try.results15, go_sem]) rfl ⟨rfl, by go_grown⟩
theorem op_c (n : Int) (A : Option Addr) (N c : Nat) : Calls Try.prog 14 #[.int .i64 n, .slice A N c] w
    (Ret w (.agg #[.int .i64 n, .slice A N c, .string ⟨#[]⟩, .int .i64 0, .int .i64 0, .bool false, .string ⟨#[]⟩, .float .f64 0])) := by
  have SF := store_f64
  go_enter Try.func14, Try.ntmps14
  go_wp21
  exact bodyPost_ret (v := .agg #[.int .i64 n, .slice A N c, .string ⟨#[]⟩, .int .i64 0, .int .i64 0, .bool false, .string ⟨#[]⟩, .float .f64 0]) (by simp [results, Try.results14, go_sem]) rfl ⟨rfl, by go_grown⟩
end
end Go.Proofs.Ytijlamajcdekkaa

/- Expressions that a law builds. -/
namespace Go.Proofs.Ytijlamajcdekkaa
open Go.RowKit
set_option linter.unusedVariables false
section
variable {w : World}
/-- a constant -/
def cE (v : Val) : Exp := .mk 1 [] [] v
/-- an operation -/
def oE (o : Int) (ks : List Exp) : Exp := .mk o ks [] zeroV
theorem con_R (n : Nat) (w : World) (v : Val) : (kExp (n + 1)).R (fun _ => True) w [.int .i64 1, .slice none 0 0, .string ⟨#[]⟩, .int .i64 v.kind, .int .i64 v.int, .bool v.bool, .string ⟨v.text.toArray⟩, .float .f64 v.num] (cE v) :=
  exp_mk (e := cE v) (Sl.nil _ _ _)
theorem op_R {n : Nat} {w : World} {A : Option Addr} {N c : Nat} {ks : List Exp} (o : Int) (h : Sl (kExp n) (fun _ => True) w (.slice A N c) ks) : (kExp (n + 1)).R (fun _ => True) w [.int .i64 o, .slice A N c, .string ⟨#[]⟩, .int .i64 0, .int .i64 0, .bool false, .string ⟨#[]⟩, .float .f64 0] (oE o ks) :=
  exp_mk (e := oE o ks) h
theorem two_R {n : Nat} {w : World} {g : Nat} {t : TypeId} {cm : Array Value} {c1 c2 : List Value} {e1 e2 : Exp} (h : Loc1 g t cm w) (h1 : (kExp n).R (fun _ => True) w c1 e1) (h2 : (kExp n).R (fun _ => True) w c2 e2) (hc : cm = (c1 ++ c2).toArray) : Sl (kExp n) (fun _ => True) w (.slice (some ⟨g, 0, none⟩) 2 2) [e1, e2] := by
  subst hc
  exact sl_row h trivial ⟨c1, c2, rfl, h1, c2, [], by simp, h2, rfl⟩ rfl (by unfold maxLen; omega)
theorem three_R {n : Nat} {w : World} {g : Nat} {t : TypeId} {cm : Array Value} {c1 c2 c3 : List Value} {e1 e2 e3 : Exp} (h : Loc1 g t cm w) (h1 : (kExp n).R (fun _ => True) w c1 e1) (h2 : (kExp n).R (fun _ => True) w c2 e2) (h3 : (kExp n).R (fun _ => True) w c3 e3) (hc : cm = (c1 ++ (c2 ++ c3)).toArray) : Sl (kExp n) (fun _ => True) w (.slice (some ⟨g, 0, none⟩) 3 3) [e1, e2, e3] := by
  subst hc
  exact sl_row h trivial ⟨c1, c2 ++ c3, rfl, h1, c2, c3, rfl, h2, c3, [], by simp, h3, rfl⟩ rfl (by unfold maxLen; omega)
end
theorem kR_below {n : Nat} {w W : World} {cs : List Value} {e : Exp} (h : (kExp n).R (fun _ => True) w cs e) (hb : Below w.heap.size w W) : (kExp n).R (fun _ => True) W cs e := by
  obtain ⟨k, A, c, rfl, rfl, hs⟩ := exp_open h
  exact exp_mk (hs.below hb)
def RetE (n : Nat) (w : World) (cs : List Value) (x : Exp) (e : Ending) (w' : World) : Prop := e = .returned (.agg cs.toArray) ∧ (kExp n).R (fun _ => True) w' cs x ∧ Below w.heap.size w w'
section
variable {w : World}
theorem opk_c {n : Nat} {o : Int} {A : Option Addr} {N c : Nat} {ks : List Exp} (h : Sl (kExp n) (fun _ => True) w (.slice A N c) ks) : Calls Try.prog 14 #[.int .i64 o, .slice A N c] w
    (RetE (n + 1) w [.int .i64 o, .slice A N c, .string ⟨#[]⟩, .int .i64 0, .int .i64 0, .bool false, .string ⟨#[]⟩, .float .f64 0] (oE o ks)) :=
  (op_c o A N c).mono fun _ _ h' => ⟨h'.1, op_R o (h.below h'.2), h'.2⟩
theorem conI_c (n : Int) : Calls Try.prog 15 #[.agg #[.int .i64 1, .int .i64 n, .bool false, .string ⟨#[]⟩, .float .f64 0]] w (Ret w (.agg #[.int .i64 1, .slice none 0 0, .string ⟨#[]⟩, .int .i64 1, .int .i64 n, .bool false, .string ⟨#[]⟩, .float .f64 0])) := con_c (intV n)
theorem conT_c (b : Bool) : Calls Try.prog 15 #[.agg #[.int .i64 2, .int .i64 0, .bool b, .string ⟨#[]⟩, .float .f64 0]] w (Ret w (.agg #[.int .i64 1, .slice none 0 0, .string ⟨#[]⟩, .int .i64 2, .int .i64 0, .bool b, .string ⟨#[]⟩, .float .f64 0])) := con_c (truthV b)
theorem conN_c (n : Nat) : Calls Try.prog 15 #[.agg #[.int .i64 4, .int .i64 0, .bool false, .string ⟨#[]⟩, .float .f64 n]] w (Ret w (.agg #[.int .i64 1, .slice none 0 0, .string ⟨#[]⟩, .int .i64 4, .int .i64 0, .bool false, .string ⟨#[]⟩, .float .f64 n])) := con_c (numV n)
end
/-! ### the examples -/
def fA : Fld := ⟨[97], 1, [], zeroV⟩
def aE : Exp := .mk 2 [] [97] zeroV
def ex1 : Exp := oE 4 [aE, cE (intV 1)]
def ex2 : Exp := oE 9 [aE, cE (numV 4609434218613702656)]
def ex3 : Exp := oE 10 [cE (truthV false), oE 8 [oE 7 [cE (intV 1), cE (intV 0)], cE (intV 1)]]
def ex4 : Exp := oE 7 [cE (intV 1), cE (intV 0)]
theorem aE_R (n : Nat) (w : World) : (kExp (n + 1)).R (fun _ => True) w [.int .i64 2, .slice none 0 0, .string ⟨#[97]⟩, .int .i64 0, .int .i64 0, .bool false, .string ⟨#[]⟩, .float .f64 0] aE := exp_mk (e := aE) (Sl.nil _ _ _)
theorem fA_S {w : World} {g : Nat} {t : TypeId} (h : Loc1 g t #[.string ⟨#[97]⟩, .int .i64 1, .slice none 0 0, .int .i64 0, .int .i64 0, .bool false, .string ⟨#[]⟩, .float .f64 0] w) : Sl kFld (fun _ => True) w (.slice (some ⟨g, 0, none⟩) 1 1) [fA] :=
  sl_row (cs := [.string ⟨#[97]⟩, .int .i64 1, .slice none 0 0, .int .i64 0, .int .i64 0, .bool false, .string ⟨#[]⟩, .float .f64 0]) h trivial ⟨_, [], rfl, fld_mk (f := fA) (Sl.nil _ _ _), rfl⟩ rfl (by unfold maxLen; omega)
theorem vA_S {w : World} {g : Nat} {t : TypeId} (v : Val) (h : Loc1 g t #[.int .i64 v.kind, .int .i64 v.int, .bool v.bool, .string ⟨v.text.toArray⟩, .float .f64 v.num] w) : Sl kVal (fun _ => True) w (.slice (some ⟨g, 0, none⟩) 1 1) [v] :=
  sl_row (cs := [.int .i64 v.kind, .int .i64 v.int, .bool v.bool, .string ⟨v.text.toArray⟩, .float .f64 v.num]) h trivial ⟨_, [], rfl, val_mk _ _ v, rfl⟩ rfl (by unfold maxLen; omega)
theorem ex1_v : evalR [fA] [intV 2] 4 ex1 = (intV 3, 0) := by decide +kernel
theorem ex2_v : chkE [fA] 4 ex2 = (0, 40) := by decide +kernel
theorem ex3_v : evalR [] [] 4 ex3 = (truthV false, 0) := by decide +kernel
theorem ex4_v : evalR [] [] 4 ex4 = (zeroV, 42) := by decide +kernel
section
variable {w : World}
theorem ev1_c {A A2 : Option Addr} {N N2 c c2 : Nat} {cs : List Value} (h : (kExp 4).R (fun _ => True) w cs ex1) (hf : Sl kFld (fun _ => True) w (.slice A N c) [fA]) (hv : Sl kVal (fun _ => True) w (.slice A2 N2 c2) [intV 2]) :
    Calls Try.prog 12 #[.agg cs.toArray, .slice A N c, .slice A2 N2 c2] w (Ret w (.tuple #[.agg #[.int .i64 1, .int .i64 3, .bool false, .string ⟨#[]⟩, .float .f64 0], .int .i64 0])) := by
  have H := ev_c h hf hv
  rw [ex1_v] at H
  exact H
theorem ev3_c {A A2 : Option Addr} {N N2 c c2 : Nat} {cs : List Value} (h : (kExp 4).R (fun _ => True) w cs ex3) (hf : Sl kFld (fun _ => True) w (.slice A N c) []) (hv : Sl kVal (fun _ => True) w (.slice A2 N2 c2) []) :
    Calls Try.prog 12 #[.agg cs.toArray, .slice A N c, .slice A2 N2 c2] w (Ret w (.tuple #[.agg #[.int .i64 2, .int .i64 0, .bool false, .string ⟨#[]⟩, .float .f64 0], .int .i64 0])) := by
  have H := ev_c h hf hv
  rw [ex3_v] at H
  exact H
theorem ev4_c {A A2 : Option Addr} {N N2 c c2 : Nat} {cs : List Value} (h : (kExp 4).R (fun _ => True) w cs ex4) (hf : Sl kFld (fun _ => True) w (.slice A N c) []) (hv : Sl kVal (fun _ => True) w (.slice A2 N2 c2) []) :
    Calls Try.prog 12 #[.agg cs.toArray, .slice A N c, .slice A2 N2 c2] w (Ret w (.tuple #[.agg #[.int .i64 0, .int .i64 0, .bool false, .string ⟨#[]⟩, .float .f64 0], .int .i64 42])) := by
  have H := ev_c h hf hv
  rw [ex4_v] at H
  exact H
theorem ck2_c {A : Option Addr} {N c : Nat} {cs : List Value} (h : (kExp 4).R (fun _ => True) w cs ex2) (hf : Sl kFld (fun _ => True) w (.slice A N c) [fA]) :
    Calls Try.prog 9 #[.agg cs.toArray, .slice A N c] w (Ret w (.tuple #[.int .i64 0, .int .i64 40])) := by
  have H := check_c h hf
  rw [ex2_v] at H
  exact H
end
theorem at_op (o : Int) {P : Program} {f : FuncId} {x : Value} {w : World} {R : Ending → World → Prop} (h : Calls P f #[.int .i64 o, x] w R) : Calls P f #[.int .i64 o, x] w R := h
theorem sameTT_c {w : World} : Calls Try.prog 18 #[.agg #[.int .i64 2, .int .i64 0, .bool false, .string ⟨#[]⟩, .float .f64 0], .agg #[.int .i64 2, .int .i64 0, .bool false, .string ⟨#[]⟩, .float .f64 0]] w (Ret w (.bool true)) := by
  have H := same4_c (w := w) (truthV false) (truthV false)
  rw [show sameV (truthV false) (truthV false) = true by decide +kernel] at H
  exact H
end Go.Proofs.Ytijlamajcdekkaa
