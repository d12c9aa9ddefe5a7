/- Package expr, walked: the value of an expression that was checked. -/
import Derived.Test.YtijlamajcdekkaaE12
import Derived.Test.YtijlamajcdekkaaMP
namespace Go.Proofs.Ytijlamajcdekkaa
open Go.RowKit
set_option linter.unusedVariables false
def noE : Exp := .mk 0 [] [] zeroV
def toldR (r : Val × Int) : Except Int Val := if r.2 = 0 then .ok r.1 else .error r.2
/-- what comes of two values -/
def step2 (op : Int) (a b : Val) : Except Int Val :=
  if op = 10 ∨ op = 11 then .ok b else if op = 8 then .ok (truthV (equalV a b).1) else if op = 9 then .ok (truthV (lessV a b).1) else toldR (reckV op a b)
/-- what comes of the first value, and of the others if they count -/
def step1 (op : Int) (a : Val) (rb rc : Except Int Val) : Except Int Val :=
  if op = 12 then .ok (truthV (!a.bool))
  else if op = 3 then toldR (negV a)
  else if op = 16 then toldR (floatV a)
  else if op = 10 ∧ a.bool = false then .ok a
  else if op = 11 ∧ a.bool = true then .ok a
  else if op = 13 then if a.bool = true then rb else rc
  else match rb with
    | .error x => .error x
    | .ok b => step2 op a b
/-- the value of an expression that was checked -/
def evE (fl : List Fld) (vs : List Val) : Nat → Exp → Except Int Val
  | 0, _ => .error 0
  | n + 1, e =>
    if e.op = 1 then .ok e.val
    else if e.op = 2 then .ok (vs.getD (findF e.name fl).toNat zeroV)
    else match evE fl vs n (e.kids.getD 0 noE) with
      | .error x => .error x
      | .ok a => step1 e.op a (evE fl vs n (e.kids.getD 1 noE)) (evE fl vs n (e.kids.getD 2 noE))
theorem manyK_len (p : Exp → Except Int Int) : ∀ (l : List Exp) (ks : List Int), manyK p l = .ok ks → ks.length = l.length
  | [], ks, h => by injection h with h; rw [← h]; rfl
  | a :: l, ks, h => by
    rw [manyK] at h
    cases ha : p a with
    | error x => rw [ha] at h; cases h
    | ok k =>
      rw [ha] at h
      simp only at h
      cases hl : manyK p l with
      | error x => rw [hl] at h; cases h
      | ok ks' =>
        rw [hl] at h
        injection h with h
        rw [← h, List.length_cons, List.length_cons, manyK_len p l ks' hl]
theorem manyK_at (p : Exp → Except Int Int) : ∀ (l : List Exp) (ks : List Int), manyK p l = .ok ks → ∀ (i : Nat) (x : Exp), l[i]? = some x → p x = .ok (ks.getD i 0)
  | [], ks, h, i, x, hx => by simp at hx
  | a :: l, ks, h, i, x, hx => by
    rw [manyK] at h
    cases ha : p a with
    | error y => rw [ha] at h; cases h
    | ok k =>
      rw [ha] at h
      simp only at h
      cases hl : manyK p l with
      | error y => rw [hl] at h; cases h
      | ok ks' =>
        rw [hl] at h
        injection h with h
        subst h
        cases i with
        | zero =>
          rw [List.getElem?_cons_zero] at hx
          injection hx with hx
          subst hx
          exact ha
        | succ i =>
          rw [List.getElem?_cons_succ] at hx
          have := manyK_at p l ks' hl i x hx
          rw [this]
          rfl
theorem kE_open {fl : List Fld} {n : Nat} {e : Exp} {k : Int} (h : kE fl (n + 1) e = .ok k) : ∃ ks, manyK (kE fl n) e.kids = .ok ks ∧ kindOf fl e ks = .ok k := by
  rw [kE] at h
  cases hm : manyK (kE fl n) e.kids with
  | error x => rw [hm] at h; cases h
  | ok ks =>
    rw [hm] at h
    exact ⟨ks, rfl, h⟩
/-- the parts of what was checked were checked -/
theorem kE_kid {fl : List Fld} {n : Nat} {e x : Exp} {k : Int} {i : Nat} (h : kE fl (n + 1) e = .ok k) (hx : e.kids[i]? = some x) : ∃ k', kE fl n x = .ok k' := by
  obtain ⟨ks, h1, _⟩ := kE_open h
  exact ⟨_, manyK_at _ _ _ h1 i x hx⟩
theorem kE_ari {fl : List Fld} {n : Nat} {e : Exp} {k : Int} (h : kE fl (n + 1) e = .ok k) : ariF e.op = e.kids.length := by
  obtain ⟨ks, _, h2⟩ := kE_open h
  unfold kindOf kind3 at h2
  by_cases ha : ariF e.op = e.kids.length
  · exact ha
  · rw [if_pos ha] at h2; cases h2
theorem kE_find {fl : List Fld} {n : Nat} {e : Exp} {k : Int} (h : kE fl (n + 1) e = .ok k) (h2 : e.op = 2) : ∃ i f, findF e.name fl = (i : Nat) ∧ fl[i]? = some f ∧ f.kind = k ∧ f.name = e.name := by
  obtain ⟨ks, _, h3⟩ := kE_open h
  unfold kindOf kind3 at h3
  by_cases ha : ariF e.op = e.kids.length
  · rw [if_neg (fun h => h ha), if_neg (fun h => h (.inl h2))] at h3
    by_cases hv : e.op = 1 ∨ sameV e.val ⟨0, 0, false, [], 0⟩ = true
    · rw [if_neg (fun h => h hv), if_neg (by omega), if_pos h2] at h3
      split at h3
      · rename_i f hf
        split at h3
        · rename_i hp
          injection h3 with h3
          obtain ⟨i, f', e1, e2, e3⟩ := findF_some hp
          rw [e1] at hf
          have hf : fl[i]? = some f := hf
          rw [e2] at hf
          injection hf with hf
          subst hf
          exact ⟨i, f', e1, e2, h3, e3⟩
        · cases h3
      · cases h3
    · rw [if_pos hv] at h3; cases h3
  · rw [if_pos ha] at h3; cases h3
def RetV (w : World) (r : Except Int Val) (e : Ending) (w' : World) : Prop := (match r with | .ok v => e = .returned (.agg #[.int .i64 v.kind, .int .i64 v.int, .bool v.bool, .string ⟨v.text.toArray⟩, .float .f64 v.num]) | .error x => Bad x e) ∧ Below w.heap.size w w'
def LocE (N : Nat) (cs ce cv : Array Value) (W : World) : Prop := Loc1 N 74 cs W ∧ Loc1 (N + 1) 27 ce W ∧ Loc1 (N + 1 + 1) 25 cv W
theorem LocE.below {N : Nat} {cs ce cv : Array Value} {W W' : World} (h : LocE N cs ce cv W) (hb : Below W.heap.size W W') : LocE N cs ce cv W' := ⟨h.1.below hb, h.2.1.below hb, h.2.2.below hb⟩
theorem LocE.new (w : World) (cs ce cv : Array Value) : LocE w.heap.size cs ce cv (((w.alloc (.cells cs 74)).alloc (.cells ce 27)).alloc (.cells cv 25)) := by
  refine ⟨(Below.heap_alloc _ _ _ (by simp; omega)).trans ((Below.heap_alloc _ _ _ (by simp)).trans (heap_new _ _)), (Below.heap_alloc _ _ _ (by simp)).trans ?_, ?_⟩
  · have h := heap_new (w.alloc (.cells cs 74)) (.cells ce 27)
    rw [World.size_alloc] at h
    exact h
  · have h := heap_new ((w.alloc (.cells cs 74)).alloc (.cells ce 27)) (.cells cv 25)
    rw [World.size_alloc, World.size_alloc] at h
    exact h
theorem keepC {w W : World} {a : Addr} {v : Value} (h : w.cell? a = some v) (hW : Below w.heap.size w W) : W.cell? a = some v := (hW.cell (cell_lt h)).trans h
def JE (w : World) (cs ce : Array Value) (W : World) : Prop := Below w.heap.size w W ∧ Loc1 w.heap.size 74 cs W ∧ Loc1 (w.heap.size + 1) 27 ce W
theorem JE.below {w W W' : World} {cs ce : Array Value} (h : JE w cs ce W) (hb : Below W.heap.size W W') : JE w cs ce W' := ⟨below_self h.1 hb, h.2.1.below hb, h.2.2.below hb⟩
theorem JE.set5 {w W : World} {cs ce : Array Value} (h : JE w cs ce W) {b : Nat} (hb : w.heap.size + 1 < b) (v0 v1 v2 v3 v4 : Value) : JE w cs ce (set5 W b v0 v1 v2 v3 v4) :=
  ⟨below_ext_ne h.1 (set5_ext W b v0 v1 v2 v3 v4) (by omega) (Nat.le_refl _), h.2.1.ext (set5_ext W b v0 v1 v2 v3 v4) (by omega), h.2.2.ext (set5_ext W b v0 v1 v2 v3 v4) (by omega)⟩
theorem JE.lt {w W : World} {cs ce : Array Value} (h : JE w cs ce W) : w.heap.size + 1 < W.heap.size := lt_of_heap h.2.2
theorem addn (a : Addr) (k : Nat) (h : k ≠ 0) : a.add k = ⟨a.block, a.off + k, none⟩ := by unfold Addr.add; rw [if_neg h]
theorem getD_at {l : List Exp} {i : Nat} {x : Exp} (h : l[i]? = some x) : l.getD i noE = x := by rw [List.getD_eq_getElem?_getD, h]; rfl
theorem addz (a : Addr) : a.add 0 = a := by unfold Addr.add; rw [if_pos rfl]
theorem val_at {ok : Nat → Prop} {w : World} {A : Option Addr} {n c : Nat} {l : List Val} (h : Sl kVal ok w (.slice A n c) l) {i : Nat} (hi : i < n) :
    ∃ ad v, A = some ad ∧ l[i]? = some v ∧ w.cell? (ad.add (i * 5)) = some (.int .i64 v.kind) ∧ w.cell? ⟨(ad.add (i * 5)).block, (ad.add (i * 5)).off + 1, none⟩ = some (.int .i64 v.int) ∧
      w.cell? ⟨(ad.add (i * 5)).block, (ad.add (i * 5)).off + 2, none⟩ = some (.bool v.bool) ∧ w.cell? ⟨(ad.add (i * 5)).block, (ad.add (i * 5)).off + 3, none⟩ = some (.string ⟨v.text.toArray⟩) ∧
      w.cell? ⟨(ad.add (i * 5)).block, (ad.add (i * 5)).off + 4, none⟩ = some (.float .f64 v.num) := by
  obtain ⟨ad, v, cs, ea, he, hr, h0, hj⟩ := cells_at h hi
  obtain rfl := val_open hr
  exact ⟨ad, v, ea, he, h0 _ rfl, hj 0 _ rfl, hj 1 _ rfl, hj 2 _ rfl, hj 3 _ rfl⟩
/-- eval's contract at a depth of stories -/
def EvalOk (A A2 : Option Addr) (N c c2 : Nat) (fl : List Fld) (vs : List Val) (n : Nat) : Prop :=
  ∀ (w : World) (cs : List Value) (e : Exp) (k : Int), (kExp n).R (fun _ => True) w cs e → Sl kFld (fun _ => True) w (.slice A N c) fl → Sl kVal (fun _ => True) w (.slice A2 N c2) vs → kE fl n e = .ok k →
    Calls Try.prog 37 #[.agg #[.slice A N c, .slice A2 N c2], .agg cs.toArray] w (RetV w (evE fl vs n e))
set_option maxRecDepth 20000 in
set_option maxHeartbeats 4000000 in
theorem eval_const {A A2 : Option Addr} {N c c2 : Nat} {fl : List Fld} {vs : List Val} {n : Nat} (ih : EvalOk A A2 N c c2 fl vs n) {w : World} {cs : List Value} {e : Exp} {k : Int} (h : (kExp (n + 1)).R (fun _ => True) w cs e) (hf : Sl kFld (fun _ => True) w (.slice A N c) fl) (hv : Sl kVal (fun _ => True) w (.slice A2 N c2) vs) (hk : kE fl (n + 1) e = .ok k) (hop : e.op = 1) :
    Calls Try.prog 37 #[.agg #[.slice A N c, .slice A2 N c2], .agg cs.toArray] w (RetV w (evE fl vs (n + 1) e)) := by
  obtain ⟨m, B, d, hm, rfl, hs⟩ := exp_open h
  obtain rfl : n = m := by omega
  have IH := Lib.hid ih
  clear ih h
  have SF := store_f64
  have HK := Lib.hid hk
  have HA := Lib.hid (kE_ari hk)
  have B0 := Lib.hid (show Below w.heap.size w (((w.alloc (.cells #[.slice A N c, .slice A2 N c2] 74)).alloc (.cells #[.int .i64 e.op, .slice B e.kids.length d, .string ⟨e.name.toArray⟩, .int .i64 e.val.kind, .int .i64 e.val.int, .bool e.val.bool, .string ⟨e.val.text.toArray⟩, .float .f64 e.val.num] 27)).alloc (.cells #[.int .i64 0, .int .i64 0, .bool false, .string ⟨#[]⟩, .float .f64 0] 25)) from Below.three _ _ _ _)
  have L0 := Lib.hid (LocE.new w #[.slice A N c, .slice A2 N c2] #[.int .i64 e.op, .slice B e.kids.length d, .string ⟨e.name.toArray⟩, .int .i64 e.val.kind, .int .i64 e.val.int, .bool e.val.bool, .string ⟨e.val.text.toArray⟩, .float .f64 e.val.num] #[.int .i64 0, .int .i64 0, .bool false, .string ⟨#[]⟩, .float .f64 0])
  have HS := Lib.hid hs
  have HF := Lib.hid hf
  have HV := Lib.hid hv
  have hmax := hs.len.2.2.1
  have hnc := hs.len.2.1
  have HV1 := hv.len
  have E := Lib.hid (show evE fl vs (n + 1) e = if e.op = 1 then .ok e.val
    else if e.op = 2 then .ok (vs.getD (findF e.name fl).toNat zeroV)
    else match evE fl vs n (e.kids.getD 0 noE) with
      | .error x => .error x
      | .ok a => step1 e.op a (evE fl vs n (e.kids.getD 1 noE)) (evE fl vs n (e.kids.getD 2 noE)) from rfl)
  generalize evE fl vs (n + 1) e = r at *
  clear hs hf hv hk
  have h1 := hop
  clear hop
  replace E := Lib.hid (show r = .ok e.val by rw [E.out, if_pos h1])
  generalize hop : e.op = op at *
  subst h1
  go_enter Try.func37, Try.ntmps37
  go_wp2_with fail
  have HN := heap_new ((w.alloc (.cells #[.slice A N c, .slice A2 N c2] 74)).alloc (.cells #[.int .i64 1, .slice B e.kids.length d, .string ⟨e.name.toArray⟩, .int .i64 e.val.kind, .int .i64 e.val.int, .bool e.val.bool, .string ⟨e.val.text.toArray⟩, .float .f64 e.val.num] 27)) (.cells #[.int .i64 e.val.kind, .int .i64 e.val.int, .bool e.val.bool, .string ⟨e.val.text.toArray⟩, .float .f64 e.val.num] 25)
  rw [World.size_alloc, World.size_alloc] at HN
  obtain ⟨q0, q1, q2, q3, q4⟩ := cells5 HN
  rw [E.out]
  exact bodyPost_ret (v := .agg #[.int .i64 e.val.kind, .int .i64 e.val.int, .bool e.val.bool, .string ⟨e.val.text.toArray⟩, .float .f64 e.val.num]) (by simp [results, Try.results37, go_sem, q0, q1, q2, q3, q4]) rfl ⟨rfl, Below.three _ _ _ _⟩
set_option maxRecDepth 20000 in
set_option maxHeartbeats 4000000 in
theorem eval_field {A A2 : Option Addr} {N c c2 : Nat} {fl : List Fld} {vs : List Val} {n : Nat} (ih : EvalOk A A2 N c c2 fl vs n) {w : World} {cs : List Value} {e : Exp} {k : Int} (h : (kExp (n + 1)).R (fun _ => True) w cs e) (hf : Sl kFld (fun _ => True) w (.slice A N c) fl) (hv : Sl kVal (fun _ => True) w (.slice A2 N c2) vs) (hk : kE fl (n + 1) e = .ok k) (hop : e.op = 2) :
    Calls Try.prog 37 #[.agg #[.slice A N c, .slice A2 N c2], .agg cs.toArray] w (RetV w (evE fl vs (n + 1) e)) := by
  obtain ⟨m, B, d, hm, rfl, hs⟩ := exp_open h
  obtain rfl : n = m := by omega
  have IH := Lib.hid ih
  clear ih h
  have SF := store_f64
  have HK := Lib.hid hk
  have HA := Lib.hid (kE_ari hk)
  have B0 := Lib.hid (show Below w.heap.size w (((w.alloc (.cells #[.slice A N c, .slice A2 N c2] 74)).alloc (.cells #[.int .i64 e.op, .slice B e.kids.length d, .string ⟨e.name.toArray⟩, .int .i64 e.val.kind, .int .i64 e.val.int, .bool e.val.bool, .string ⟨e.val.text.toArray⟩, .float .f64 e.val.num] 27)).alloc (.cells #[.int .i64 0, .int .i64 0, .bool false, .string ⟨#[]⟩, .float .f64 0] 25)) from Below.three _ _ _ _)
  have L0 := Lib.hid (LocE.new w #[.slice A N c, .slice A2 N c2] #[.int .i64 e.op, .slice B e.kids.length d, .string ⟨e.name.toArray⟩, .int .i64 e.val.kind, .int .i64 e.val.int, .bool e.val.bool, .string ⟨e.val.text.toArray⟩, .float .f64 e.val.num] #[.int .i64 0, .int .i64 0, .bool false, .string ⟨#[]⟩, .float .f64 0])
  have HS := Lib.hid hs
  have HF := Lib.hid hf
  have HV := Lib.hid hv
  have hmax := hs.len.2.2.1
  have hnc := hs.len.2.1
  have HV1 := hv.len
  have E := Lib.hid (show evE fl vs (n + 1) e = if e.op = 1 then .ok e.val
    else if e.op = 2 then .ok (vs.getD (findF e.name fl).toNat zeroV)
    else match evE fl vs n (e.kids.getD 0 noE) with
      | .error x => .error x
      | .ok a => step1 e.op a (evE fl vs n (e.kids.getD 1 noE)) (evE fl vs n (e.kids.getD 2 noE)) from rfl)
  generalize evE fl vs (n + 1) e = r at *
  clear hs hf hv hk
  have h2 := hop
  have h1 : ¬ e.op = 1 := by omega
  clear hop
  
  have o1 : (e.op == 1) = false := by simpa using h1
  have o2 : (e.op == 2) = true := by simpa using h2
  obtain ⟨i, f, hfi, hf, hk, hnm⟩ := kE_find HK.out h2
  have hiN : i < N := by
    have h := (List.getElem?_eq_some_iff.1 hf).1
    rw [HF.out.len.1] at h
    exact h
  obtain ⟨ad, v, rfl, hv, c0, c1, c2_, c3, c4⟩ := val_at HV.out hiN
  replace E := Lib.hid (show r = .ok v by
    rw [E.out, if_neg h1, if_pos h2, hfi]
    show Except.ok (vs.getD i zeroV) = _
    rw [List.getD_eq_getElem?_getD, hv]
    rfl)
  have hi0 : (0 : Int) ≤ (i : Int) := by omega
  have hi1 : (i : Int) < (N : Int) := by omega
  have hNc := HV1.2.1
  have hNm := HV1.2.2.1
  have HC := Lib.hid (show ∀ W : World, Below w.heap.size w W → Calls Try.prog 49 #[.string ⟨e.name.toArray⟩, .slice A N c] W (Ret W (.int .i64 (i : Int))) from
    fun W hW => by rw [← hfi]; exact find_c e.name (HF.out.below hW))
  have KK := Lib.hid (show ∀ W : World, JE w #[.slice A N c, .slice (some ad) N c2] #[.int .i64 2, .slice B e.kids.length d, .string ⟨e.name.toArray⟩, .int .i64 e.val.kind, .int .i64 e.val.int, .bool e.val.bool, .string ⟨e.val.text.toArray⟩, .float .f64 e.val.num] W → W.cell? ⟨w.heap.size, 0, none⟩ = some (.slice A N c) ∧ W.cell? ⟨w.heap.size, 1, none⟩ = some (.slice (some ad) N c2) ∧ W.cell? ⟨w.heap.size + 1, 2, none⟩ = some (.string ⟨e.name.toArray⟩) ∧ W.cell? (ad.add (i * 5)) = some (.int .i64 v.kind) ∧ W.cell? ⟨(ad.add (i * 5)).block, (ad.add (i * 5)).off + 1, none⟩ = some (.int .i64 v.int) ∧ W.cell? ⟨(ad.add (i * 5)).block, (ad.add (i * 5)).off + 2, none⟩ = some (.bool v.bool) ∧ W.cell? ⟨(ad.add (i * 5)).block, (ad.add (i * 5)).off + 3, none⟩ = some (.string ⟨v.text.toArray⟩) ∧ W.cell? ⟨(ad.add (i * 5)).block, (ad.add (i * 5)).off + 4, none⟩ = some (.float .f64 v.num) from
    fun W hW => ⟨cell_of hW.2.1 0, cell_of hW.2.1 1, cell_of hW.2.2 2, keepC c0 hW.1, keepC c1 hW.1, keepC c2_ hW.1, keepC c3 hW.1, keepC c4 hW.1⟩)
  clear c0 c1 c2_ c3 c4 hfi hf hk hnm hv HV1
  go_enter Try.func37, Try.ntmps37
  go_wp2_with fail
  rw [h2] at B0 L0
  generalize (((w.alloc (.cells #[.slice A N c, .slice (some ad) N c2] 74)).alloc (.cells #[.int .i64 2, .slice B e.kids.length d, .string ⟨e.name.toArray⟩, .int .i64 e.val.kind, .int .i64 e.val.int, .bool e.val.bool, .string ⟨e.val.text.toArray⟩, .float .f64 e.val.num] 27)).alloc (.cells #[.int .i64 0, .int .i64 0, .bool false, .string ⟨#[]⟩, .float .f64 0] 25)) = w0 at *
  have J0 := Lib.hid (show JE w #[.slice A N c, .slice (some ad) N c2] #[.int .i64 2, .slice B e.kids.length d, .string ⟨e.name.toArray⟩, .int .i64 e.val.kind, .int .i64 e.val.int, .bool e.val.bool, .string ⟨e.val.text.toArray⟩, .float .f64 e.val.num] w0 from ⟨B0.out, L0.out.1, L0.out.2.1⟩)
  have T0 := Lib.hid (show Loc1 (w.heap.size + 1 + 1) 25 #[.int .i64 0, .int .i64 0, .bool false, .string ⟨#[]⟩, .float .f64 0] w0 from L0.out.2.2)
  clear B0 L0
  refine wp_region_held_drew (S := fun W => W.cell? ⟨w.heap.size, 0, none⟩ = some (.slice A N c) ∧ W.cell? ⟨w.heap.size, 1, none⟩ = some (.slice (some ad) N c2) ∧ W.cell? ⟨w.heap.size + 1, 2, none⟩ = some (.string ⟨e.name.toArray⟩) ∧ W.cell? (ad.add (i * 5)) = some (.int .i64 v.kind) ∧ W.cell? ⟨(ad.add (i * 5)).block, (ad.add (i * 5)).off + 1, none⟩ = some (.int .i64 v.int) ∧ W.cell? ⟨(ad.add (i * 5)).block, (ad.add (i * 5)).off + 2, none⟩ = some (.bool v.bool) ∧ W.cell? ⟨(ad.add (i * 5)).block, (ad.add (i * 5)).off + 3, none⟩ = some (.string ⟨v.text.toArray⟩) ∧ W.cell? ⟨(ad.add (i * 5)).block, (ad.add (i * 5)).off + 4, none⟩ = some (.float .f64 v.num)) (by kernel_rfl) (KK.out _ (J0.out.below (Below.refl _ _).drew)) (fun hHeld => ?_)
  refine wpAnyH_take (i := 0) (oi := { dst := some 19, op := Op.fieldAddr 74 (Operand.tmp 2) 1, type := 0, pos := "expr.go:146", after := #[], guard := none }) (v := .pointer (some ⟨w.heap.size, 1, none⟩)) rfl (by kernel_rfl) (by kernel_rfl) (by kernel_rfl) (fun _ _ _ h => h) (Or.inl ⟨by rfl, by (intro wz hSw; (try dsimp only at hSw); go_simp)⟩) (by assumption) ?_
  try simp only [Act.put, List.setIfInBounds_toArray, List.set_cons_zero, List.set_cons_succ]
  refine wpAnyH_take (i := 1) (oi := { dst := some 20, op := Op.load 29 (Operand.tmp 19), type := 29, pos := "expr.go:146", after := #[{ on := 0, ground := Ground.data }], guard := none }) (v := .slice (some ad) N c2) rfl (by kernel_rfl) (by kernel_rfl) (by kernel_rfl) (fun _ _ _ h => h) (Or.inl ⟨by rfl, by (intro wz hSw; (try dsimp only at hSw); go_simp)⟩) (by assumption) ?_
  try simp only [Act.put, List.setIfInBounds_toArray, List.set_cons_zero, List.set_cons_succ]
  refine wpAnyH_take (i := 2) (oi := { dst := some 21, op := Op.fieldAddr 27 (Operand.tmp 3) 2, type := 0, pos := "expr.go:146", after := #[], guard := none }) (v := .pointer (some ⟨w.heap.size + 1, 2, none⟩)) rfl (by kernel_rfl) (by kernel_rfl) (by kernel_rfl) (fun _ _ _ h => h) (Or.inl ⟨by rfl, by (intro wz hSw; (try dsimp only at hSw); go_simp)⟩) (by assumption) ?_
  try simp only [Act.put, List.setIfInBounds_toArray, List.set_cons_zero, List.set_cons_succ]
  refine wpAnyH_take (i := 3) (oi := { dst := some 22, op := Op.load 9 (Operand.tmp 21), type := 9, pos := "expr.go:146", after := #[{ on := 2, ground := Ground.data }], guard := none }) (v := .string ⟨e.name.toArray⟩) rfl (by kernel_rfl) (by kernel_rfl) (by kernel_rfl) (fun _ _ _ h => h) (Or.inl ⟨by rfl, by (intro wz hSw; (try dsimp only at hSw); go_simp)⟩) (by assumption) ?_
  try simp only [Act.put, List.setIfInBounds_toArray, List.set_cons_zero, List.set_cons_succ]
  refine wpAnyH_take (i := 4) (oi := { dst := some 23, op := Op.fieldAddr 74 (Operand.tmp 2) 0, type := 0, pos := "expr.go:146", after := #[], guard := none }) (v := .pointer (some ⟨w.heap.size, 0, none⟩)) rfl (by kernel_rfl) (by kernel_rfl) (by kernel_rfl) (fun _ _ _ h => h) (Or.inl ⟨by rfl, by (intro wz hSw; (try dsimp only at hSw); go_simp)⟩) (by assumption) ?_
  try simp only [Act.put, List.setIfInBounds_toArray, List.set_cons_zero, List.set_cons_succ]
  refine wpAnyH_take (i := 5) (oi := { dst := some 24, op := Op.load 28 (Operand.tmp 23), type := 28, pos := "expr.go:146", after := #[{ on := 4, ground := Ground.data }], guard := none }) (v := .slice A N c) rfl (by kernel_rfl) (by kernel_rfl) (by kernel_rfl) (fun _ _ _ h => h) (Or.inl ⟨by rfl, by (intro wz hSw; (try dsimp only at hSw); go_simp)⟩) (by assumption) ?_
  try simp only [Act.put, List.setIfInBounds_toArray, List.set_cons_zero, List.set_cons_succ]
  refine wpAnyH_ready (rs := [6]) (by kernel_rfl) (by simp) ?_
  refine AllReadyH.cons (o := { dst := some 25, op := Op.call { callee := Callee.value (Operand.func 49), args := #[Operand.tmp 22, Operand.tmp 24], argTypes := #[9, 28] }, type := 3, pos := "expr.go:146", after := #[{ on := 3, ground := Ground.data }, { on := 5, ground := Ground.data }], guard := none }) rfl (fun K hK => ?_) AllReadyH.nil
  go_simp
  refine (HC.out _ (J0.out.below (Below.refl _ _).drew).1).mono ?_
  rintro x9 v6 ⟨rfl, hb⟩
  have HB := Lib.hid (show Below w0.heap.size w0 v6 from below_self (Below.refl _ _).drew hb)
  have HJ := Lib.hid (J0.out.below HB.out)
  refine hK.out _ _ (KK.out _ HJ.out) (fun hHeld => ?_)
  clear hK K
  try simp only [Act.put, List.setIfInBounds_toArray, List.set_cons_zero, List.set_cons_succ]
  refine wpAnyH_take (i := 7) (oi := { dst := some 26, op := Op.indexAddr 29 (Operand.tmp 20) (Operand.tmp 25), type := 0, pos := "expr.go:146", after := #[{ on := 1, ground := Ground.data }, { on := 6, ground := Ground.data }], guard := none }) (v := .pointer (some (ad.add (i * 5)))) rfl (by kernel_rfl) (by kernel_rfl) (by kernel_rfl) (fun _ _ _ h => h) (Or.inl ⟨by rfl, by (intro wz hSw; (try dsimp only at hSw); go_simp)⟩) (by assumption) ?_
  try simp only [Act.put, List.setIfInBounds_toArray, List.set_cons_zero, List.set_cons_succ]
  refine wpAnyH_take (i := 8) (oi := { dst := some 27, op := Op.load 25 (Operand.tmp 26), type := 25, pos := "expr.go:146", after := #[{ on := 7, ground := Ground.data }], guard := none }) (v := .agg #[.int .i64 v.kind, .int .i64 v.int, .bool v.bool, .string ⟨v.text.toArray⟩, .float .f64 v.num]) rfl (by kernel_rfl) (by kernel_rfl) (by kernel_rfl) (fun _ _ _ h => h) (Or.inl ⟨by rfl, by (intro wz hSw; (try dsimp only at hSw); go_simp)⟩) (by assumption) ?_
  try simp only [Act.put, List.setIfInBounds_toArray, List.set_cons_zero, List.set_cons_succ]
  have LN := Lib.hid (show Loc1 (w.heap.size + 1 + 1) 25 #[.int .i64 0, .int .i64 0, .bool false, .string ⟨#[]⟩, .float .f64 0] v6 from T0.out.below HB.out)
  obtain ⟨m0, m1, m2, m3, m4⟩ := cells5 LN.out
  obtain ⟨u0, u1, u2, u3, u4⟩ := frees5 LN.out
  have hzn := lt_of_heap LN.out
  refine wpAnyH_ready (rs := [9]) (by kernel_rfl) (by simp) ?_
  refine AllReadyH.cons (o := { dst := none, op := Op.store 25 (Operand.tmp 4) (Operand.tmp 27), type := 0, pos := "expr.go:146", after := #[{ on := 8, ground := Ground.data }, { on := 6, ground := Ground.chain }, { on := 0, ground := Ground.phase }, { on := 1, ground := Ground.phase }, { on := 2, ground := Ground.phase }, { on := 3, ground := Ground.phase }, { on := 4, ground := Ground.phase }, { on := 5, ground := Ground.phase }, { on := 6, ground := Ground.phase }, { on := 7, ground := Ground.phase }, { on := 8, ground := Ground.phase }], guard := none }) rfl (fun K hK => ?_) AllReadyH.nil
  go_simp
  refine hK.out _ _ (KK.out _ (HJ.out.set5 (by omega) _ _ _ _ _)) (fun hHeld => ?_)
  clear hK K
  try simp only [Act.put, List.setIfInBounds_toArray, List.set_cons_zero, List.set_cons_succ]
  refine wpAnyH_done (by kernel_rfl) ?_ _
  have KH := set5_heap (.int .i64 v.kind) (.int .i64 v.int) (.bool v.bool) (.string ⟨v.text.toArray⟩) (.float .f64 v.num) LN.out
  have BH := (HJ.out.set5 (b := w.heap.size + 1 + 1) (by omega) (.int .i64 v.kind) (.int .i64 v.int) (.bool v.bool) (.string ⟨v.text.toArray⟩) (.float .f64 v.num)).1
  clear m0 m1 m2 m3 m4 u0 u1 u2 u3 u4
  obtain ⟨q0, q1, q2, q3, q4⟩ := cells5 KH
  clear KH
  change Exit.then _ _ _ _ (set5 v6 (w.heap.size + 1 + 1) (.int .i64 v.kind) (.int .i64 v.int) (.bool v.bool) (.string ⟨v.text.toArray⟩) (.float .f64 v.num))
  generalize (set5 v6 (w.heap.size + 1 + 1) (.int .i64 v.kind) (.int .i64 v.int) (.bool v.bool) (.string ⟨v.text.toArray⟩) (.float .f64 v.num)) = w6 at *
  go_wp2_with fail
  rw [E.out]
  exact bodyPost_ret (v := .agg #[.int .i64 v.kind, .int .i64 v.int, .bool v.bool, .string ⟨v.text.toArray⟩, .float .f64 v.num]) (by simp [results, Try.results37, go_sem, q0, q1, q2, q3, q4]) rfl ⟨rfl, BH⟩
end Go.Proofs.Ytijlamajcdekkaa
