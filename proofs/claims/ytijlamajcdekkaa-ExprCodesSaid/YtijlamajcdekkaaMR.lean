/- Texts that go together. -/
import Derived.Test.YtijlamajcdekkaaMA
import Derived.Test.YtijlamajcdekkaaMB
/- Package wire's reader, walked. -/
namespace Go.Proofs.Ytijlamajcdekkaa
open Go.RowKit
set_option linter.unusedVariables false
section
variable {xs ys : List UInt8} {ok : Nat → Prop} {w : World}
theorem Rd.cells {g : Nat} {rest : List UInt8} {err : Int} (h : Rd ok g w rest err) : ∃ A c, w.cell? ⟨g, 0, none⟩ = some (.slice A rest.length c) ∧ w.cell? ⟨g, 1, none⟩ = some (.int .i64 err) ∧ w.frozen? ⟨g, 0, none⟩ = false ∧ w.frozen? ⟨g, 1, none⟩ = false ∧ rest.length ≤ c ∧ (c : Int) ≤ 9223372036854775807 ∧ Sl kU8 (fun k => ok k ∧ k ≠ g) w (.slice A rest.length c) rest := by
  obtain ⟨A, c, hh, hs, _⟩ := h
  have := hs.len
  exact ⟨A, c, cell_of hh 0, cell_of hh 1, free_of hh 0, free_of hh 1, this.2.1, by omega, hs⟩
theorem Rd.below {g : Nat} {rest : List UInt8} {err : Int} {w' : World} (h : Rd ok g w rest err) (hb : Below w.heap.size w w') : Rd ok g w' rest err := by
  obtain ⟨A, c, hh, hs, hl⟩ := h
  exact ⟨A, c, (hb.block g (lt_of_heap hh)).trans hh, hs.below hb, hl⟩
theorem Rd.lt {g : Nat} {rest : List UInt8} {err : Int} (h : Rd ok g w rest err) : g < w.heap.size := by
  obtain ⟨A, c, hh, _, _⟩ := h
  exact lt_of_heap hh
theorem Rd.len {g : Nat} {rest : List UInt8} {err : Int} (h : Rd ok g w rest err) : rest.length ≤ 1099511627776 := by
  obtain ⟨A, c, _, _, h⟩ := h
  exact h
def TakeOk (ok : Nat → Prop) (g : Nat) (w : World) (rest : List UInt8) (n : Nat) (e : Ending) (w' : World) : Prop :=
  ∃ A c, e = .returned (.slice A n c) ∧ (0 < n → A.isNone = false) ∧ Sl kU8 (fun k => ok k ∧ k ≠ g) w' (.slice A n c) (rest.take n) ∧ Rd ok g w' (rest.drop n) 0 ∧ Ext (fun k => k ≠ g) w w'
def TakeNo (ok : Nat → Prop) (g : Nat) (w : World) (rest : List UInt8) (err : Int) (e : Ending) (w' : World) : Prop :=
  e = .returned (.slice none 0 0) ∧ Rd ok g w' rest err ∧ Ext (fun k => k ≠ g) w w'
theorem rd_err {g : Nat} {rest : List UInt8} {err : Int} (h : Rd ok g w rest err) (x : Int) : Rd ok g (w.setCell ⟨g, 1, none⟩ (.int .i64 x)) rest x ∧ Ext (fun k => k ≠ g) w (w.setCell ⟨g, 1, none⟩ (.int .i64 x)) := by
  obtain ⟨A, c, hh, hs, hl⟩ := h
  exact ⟨⟨A, c, heap_set hh 1 _, hs.ext (ext_set (fun e => e.2 rfl) _), hl⟩, ext_set_ne (Ext.refl _ _) 1 _⟩
theorem rd_take {g n : Nat} {rest : List UInt8} {err : Int} (h : Rd ok g w rest err) (hn : n ≤ rest.length) {A : Option Addr} {c : Nat} (hc : w.cell? ⟨g, 0, none⟩ = some (.slice A rest.length c)) :
    TakeOk ok g w rest n (.returned (.slice A n c)) ((w.setCell ⟨g, 1, none⟩ (.int .i64 0)).setCell ⟨g, 0, none⟩ (.slice (if c = n then A else A.map (·.add n)) (rest.length - n) (c - n))) := by
  obtain ⟨A', c', hh, hs, hl⟩ := h
  have h0 := cell_of hh 0
  rw [hc] at h0
  injection h0 with h0
  injection h0 with e1 _ e2
  subst e1 e2
  have x1 : Ext (fun k => ok k ∧ k ≠ g) w ((w.setCell ⟨g, 1, none⟩ (.int .i64 0)).setCell ⟨g, 0, none⟩ (.slice (if c = n then A else A.map (·.add n)) (rest.length - n) (c - n))) :=
    (ext_set (fun e => e.2 rfl) _).trans (ext_set (fun e => e.2 rfl) _)
  refine ⟨A, c, rfl, fun hp => ?_, (hs.take hn).ext x1, ⟨if c = n then A else A.map (·.add n), c - n, ?_, ?_, by rw [List.length_drop]; omega⟩, ext_set_ne (ext_set_ne (Ext.refl _ _) 1 _) 0 _⟩
  · cases A with
    | none => have := hs.len.2.2.2 rfl; have := hs.len.2.1; omega
    | some a => rfl
  · rw [List.length_drop]
    exact heap_set (heap_set hh 1 _) 0 _
  · rw [List.length_drop]
    have := (hs.drop hn).ext x1
    simpa [kU8, scalar] using this
theorem take_any (g : Nat) (rest : List UInt8) (n : Nat) (h : Rd ok g w rest 0) (hn : n ≤ rest.length) : Calls Try.prog 86 #[.pointer (some ⟨g, 0, none⟩), .int .i64 (n : Int), .func (.func 87) #[] #[]] w (TakeOk ok g w rest n) := by
  obtain ⟨A, c, h0, h1, f0, f1, hc, hc2, hs⟩ := h.cells
  have hn' : (n : Int) ≤ rest.length := by omega
  have HT := rd_take h hn h0
  have HS := Lib.hid (hs.take hn)
  clear h hs
  by_cases hcn : c = n
  · subst hcn
    rw [if_pos rfl, Nat.sub_self, show rest.length - c = 0 by omega] at HT
    have HT' := Lib.hid HT
    clear HT
    go_enter Try.func86, Try.ntmps86
    go_wp2
    go_ret
    exact HT'.out
  · rw [if_neg hcn] at HT
    have HT' := Lib.hid HT
    clear HT
    have hcn' : (n : Int) ≤ c := by omega
    go_enter Try.func86, Try.ntmps86
    go_wp2
    go_ret
    exact HT'.out
/-- too few bytes -/
theorem take_short (g : Nat) (rest : List UInt8) (n : Nat) (h : Rd ok g w rest 0) (hn : rest.length < n) (hn2 : n ≤ 4294967295) (f : FuncId) (first : Array Value) :
    Calls Try.prog 86 #[.pointer (some ⟨g, 0, none⟩), .int .i64 (n : Int), .func (.func f) first #[]] w (TakeNo ok g w rest 10) := by
  obtain ⟨A, c, h0, h1, f0, f1, hc, hc2, hs⟩ := h.cells
  have hn' : (rest.length : Int) < n := by omega
  have HT := Lib.hid (rd_err h 10)
  clear h hs
  go_enter Try.func86, Try.ntmps86
  go_wp2
  go_ret
  exact ⟨rfl, HT.out.1, HT.out.2⟩
/-- there was an error -/
theorem take_bad (g : Nat) (rest : List UInt8) (err : Int) (n : Int) (h : Rd ok g w rest err) (he : (err != 0) = true) (f : FuncId) (first : Array Value) :
    Calls Try.prog 86 #[.pointer (some ⟨g, 0, none⟩), .int .i64 n, .func (.func f) first #[]] w (TakeNo ok g w rest err) := by
  obtain ⟨A, c, h0, h1, f0, f1, hc, hc2, hs⟩ := h.cells
  have HT := Lib.hid h
  clear h hs
  go_enter Try.func86, Try.ntmps86
  go_wp2
  go_ret
  exact ⟨rfl, HT.out, Ext.refl _ _⟩
/-- a bound of counts -/
def mayE (l : List UInt8) (m : Int) : Int := if (num l : Int) > max m 0 then 11 else 0
theorem may_c (m : Int) {A : Option Addr} {c : Nat} {ok2 : Nat → Prop} {l : List UInt8} (h : Sl kU8 ok2 w (.slice A 4 c) l) :
    Calls Try.prog 89 #[.int .i64 m, .slice A 4 c] w fun e w' => e = .returned (.int .i64 (mayE l m)) ∧ w = w' := by
  have HN := number_c h (by omega)
  have hl := num_lt l
  rw [h.len.1] at hl
  have h1 : (num l : Int) ≤ 4294967295 := by omega
  have h0 : (0 : Int) ≤ num l := by omega
  clear h hl
  unfold mayE
  generalize (num l : Int) = N at *
  have HN' := Lib.hid HN
  clear HN
  by_cases hm : m ≤ 0
  · by_cases hN : N > 0
    · rw [if_pos (by omega)]
      go_enter Try.func89, Try.ntmps89
      go_wp2_with (go_at_call 88; refine HN'.out.mono ?_; rintro e w' ⟨rfl, rfl⟩)
      all_goals (go_ret; exact ⟨rfl, rfl⟩)
    · rw [if_neg (by omega)]
      go_enter Try.func89, Try.ntmps89
      go_wp2_with (go_at_call 88; refine HN'.out.mono ?_; rintro e w' ⟨rfl, rfl⟩)
      all_goals (go_ret; exact ⟨rfl, rfl⟩)
  · by_cases hN : N > m
    · rw [if_pos (by omega)]
      go_enter Try.func89, Try.ntmps89
      go_wp2_with (go_at_call 88; refine HN'.out.mono ?_; rintro e w' ⟨rfl, rfl⟩)
      all_goals (go_ret; exact ⟨rfl, rfl⟩)
    · rw [if_neg (by omega)]
      go_enter Try.func89, Try.ntmps89
      go_wp2_with (go_at_call 88; refine HN'.out.mono ?_; rintro e w' ⟨rfl, rfl⟩)
      all_goals (go_ret; exact ⟨rfl, rfl⟩)
theorem take_may (g : Nat) (rest : List UInt8) (m : Int) (h : Rd ok g w rest 0) (hn : 4 ≤ rest.length) :
    Calls Try.prog 86 #[.pointer (some ⟨g, 0, none⟩), .int .i64 4, .func (.func 89) #[.int .i64 m] #[]] w fun e w' =>
      (mayE (rest.take 4) m = 0 ∧ TakeOk ok g w rest 4 e w') ∨ (mayE (rest.take 4) m = 11 ∧ TakeNo ok g w rest 11 e w') := by
  obtain ⟨A, c, h0, h1, f0, f1, hc, hc2, hs⟩ := h.cells
  have hn' : (4 : Int) ≤ rest.length := by omega
  have HT := rd_take h hn h0
  have HE := Lib.hid (rd_err h 11)
  have HM := Lib.hid (may_c (w := w) m (hs.take hn))
  have hcases : mayE (rest.take 4) m = 0 ∨ mayE (rest.take 4) m = 11 := by unfold mayE; split <;> simp
  clear h hs
  rcases hcases with hm | hm
  · have HM' := HM.out
    rw [hm] at HM'
    have HQ := Lib.hid HM'
    clear HM HM'
    have HZ := Lib.hid hm
    clear hm
    by_cases hcn : c = 4
    · subst hcn
      rw [if_pos rfl, Nat.sub_self, show rest.length - 4 = 0 by omega] at HT
      have HT' := Lib.hid HT
      clear HT
      go_enter Try.func86, Try.ntmps86
      go_wp2_with (go_at_call 89; refine HQ.out.mono ?_; rintro e w' ⟨rfl, rfl⟩)
      go_ret
      exact .inl ⟨HZ.out, HT'.out⟩
    · rw [if_neg hcn] at HT
      have HT' := Lib.hid HT
      clear HT
      have hcn' : (4 : Int) ≤ c := by omega
      go_enter Try.func86, Try.ntmps86
      go_wp2_with (go_at_call 89; refine HQ.out.mono ?_; rintro e w' ⟨rfl, rfl⟩)
      go_ret
      exact .inl ⟨HZ.out, HT'.out⟩
  · have HM' := HM.out
    rw [hm] at HM'
    have HQ := Lib.hid HM'
    clear HM HM' HT
    have HZ := Lib.hid hm
    clear hm
    go_enter Try.func86, Try.ntmps86
    go_wp2_with (go_at_call 89; refine HQ.out.mono ?_; rintro e w' ⟨rfl, rfl⟩)
    go_ret
    exact .inr ⟨HZ.out, rfl, HE.out.1, HE.out.2⟩

/-! ### what a reader does -/
abbrev RS := List UInt8 × Int
def s64 (n : Nat) : Int := wrap64 (n : Int)
def rInt (s : RS) : Int × RS := if s.2 ≠ 0 then (0, s) else if s.1.length < 8 then (0, (s.1, 10)) else (s64 (num (s.1.take 8)), (s.1.drop 8, 0))
def rCount (m : Int) (s : RS) : Nat × RS := if s.2 ≠ 0 then (0, s) else if s.1.length < 4 then (0, (s.1, 10)) else if (num (s.1.take 4) : Int) > max m 0 then (0, (s.1, 11)) else (num (s.1.take 4), (s.1.drop 4, 0))
def rBytes (m : Int) (s : RS) : List UInt8 × RS :=
  let c := rCount m s
  if c.2.2 ≠ 0 then ([], c.2) else if c.2.1.length < c.1 then ([], (s.1, 10)) else (c.2.1.take c.1, (c.2.1.drop c.1, 0))
def rEnd (s : RS) : RS := if s.2 = 0 ∧ 0 < s.1.length then (s.1, 13) else s
/-- a method that answers v and leaves the reader at s' -/
def Rv (ok : Nat → Prop) (g : Nat) (w : World) (v : Value) (s' : RS) (e : Ending) (w' : World) : Prop := e = .returned v ∧ Rd ok g w' s'.1 s'.2 ∧ Ext (fun k => k ≠ g) w w'
theorem int_c (g : Nat) (s : RS) (h : Rd ok g w s.1 s.2) : Calls Try.prog 61 #[.pointer (some ⟨g, 0, none⟩)] w (Rv ok g w (.int .i64 (rInt s).1) (rInt s).2) := by
  obtain ⟨rest, err⟩ := s
  simp only at h
  by_cases he : err = 0
  · subst he
    by_cases hl : rest.length < 8
    · have e : rInt (rest, 0) = (0, (rest, 10)) := by simp [rInt, hl]
      rw [e]; clear e
      have HT := Lib.hid (fun (f : FuncId) (first : Array Value) => take_short g rest 8 h hl (by omega) f first)
      clear h
      go_enter Try.func61, Try.ntmps61
      go_wp2_with (go_at_call 86; refine (HT.out _ _).mono ?_; rintro e w' ⟨rfl, hr, hx⟩; have HR := Lib.hid hr; have HX := Lib.hid hx; clear hr hx)
      go_ret
      exact ⟨rfl, HR.out, HX.out⟩
    · have e : rInt (rest, 0) = (s64 (num (rest.take 8)), (rest.drop 8, 0)) := by simp [rInt, hl]
      rw [e]; clear e
      have HT := Lib.hid (take_any g rest 8 h (by omega))
      have hlt := num_lt (rest.take 8)
      clear h hl hlt
      go_enter Try.func61, Try.ntmps61
      go_wp2_with fail
      refine HT.out.mono ?_
      rintro e w' ⟨A, c, rfl, hA, hs, hr, hx⟩
      cases A with
      | none => have := hA (by decide); cases this
      | some a =>
        have HN := Lib.hid (number_c hs (by omega))
        have HR := Lib.hid hr
        have HX := Lib.hid hx
        have hq := fun W : World => run_neq_slice_nil_any (P := Try.prog) W 52 5 (some a) 8 c 0 0 Try.underlying52
        clear hA hs hr hx
        go_wp2_with (go_at_call 88; refine HN.out.mono ?_; rintro e w'' ⟨rfl, rfl⟩)
        go_ret
        exact ⟨rfl, HR.out, HX.out⟩
  · have e : rInt (rest, err) = (0, (rest, err)) := by simp [rInt, he]
    rw [e]; clear e
    have HT := Lib.hid (fun (f : FuncId) (first : Array Value) => take_bad g rest err 8 h (by simpa using he) f first)
    clear h he
    go_enter Try.func61, Try.ntmps61
    go_wp2_with (go_at_call 86; refine (HT.out _ _).mono ?_; rintro e w' ⟨rfl, hr, hx⟩; have HR := Lib.hid hr; have HX := Lib.hid hx; clear hr hx)
    go_ret
    exact ⟨rfl, HR.out, HX.out⟩
theorem count_c (g : Nat) (m : Int) (s : RS) (h : Rd ok g w s.1 s.2) : Calls Try.prog 62 #[.pointer (some ⟨g, 0, none⟩), .int .i64 m] w (Rv ok g w (.int .i64 ((rCount m s).1 : Int)) (rCount m s).2) := by
  obtain ⟨rest, err⟩ := s
  simp only at h
  by_cases he : err = 0
  · subst he
    by_cases hl : rest.length < 4
    · have e : rCount m (rest, 0) = (0, (rest, 10)) := by simp [rCount, hl]
      rw [e]; clear e
      have HT := Lib.hid (fun (f : FuncId) (first : Array Value) => take_short g rest 4 h hl (by omega) f first)
      clear h
      go_enter Try.func62, Try.ntmps62
      go_wp2_with (go_at_call 86; refine (HT.out _ _).mono ?_; rintro e w' ⟨rfl, hr, hx⟩; have HR := Lib.hid hr; have HX := Lib.hid hx; clear hr hx)
      go_ret
      exact ⟨rfl, HR.out, HX.out⟩
    · have hT := take_may g rest m h (by omega)
      have hlt := num_lt (rest.take 4)
      rw [List.length_take, Nat.min_eq_left (by omega)] at hlt
      have hlt' : (num (rest.take 4) : Int) < 4294967296 := by omega
      have hlt0 : (0 : Int) ≤ num (rest.take 4) := by omega
      clear h hlt
      by_cases hc : (num (rest.take 4) : Int) > max m 0
      · have e : rCount m (rest, 0) = (0, (rest, 11)) := by
          simp only [rCount]
          rw [if_neg (by simp), if_neg hl, if_pos hc]
        rw [e]; clear e
        have HT := Lib.hid (hT.mono (R' := TakeNo ok g w rest 11) fun e w' hh => by
          rcases hh with ⟨hm, _⟩ | ⟨_, hh⟩
          · simp [mayE, hc] at hm
          · exact hh)
        clear hT hl hc
        go_enter Try.func62, Try.ntmps62
        go_wp2_with fail
        refine HT.out.mono ?_
        rintro e w' ⟨rfl, hr, hx⟩
        have HR := Lib.hid hr
        have HX := Lib.hid hx
        clear hr hx
        go_wp2_with fail
        go_ret
        exact ⟨rfl, HR.out, HX.out⟩
      · have e : rCount m (rest, 0) = (num (rest.take 4), (rest.drop 4, 0)) := by
          simp only [rCount]
          rw [if_neg (by simp), if_neg hl, if_neg hc]
        rw [e]; clear e
        have HT := Lib.hid (hT.mono (R' := TakeOk ok g w rest 4) fun e w' hh => by
          rcases hh with ⟨_, hh⟩ | ⟨hm, _⟩
          · exact hh
          · simp [mayE, hc] at hm)
        clear hT hl hc
        go_enter Try.func62, Try.ntmps62
        go_wp2_with fail
        refine HT.out.mono ?_
        rintro e w' ⟨A, c, rfl, hA, hs, hr, hx⟩
        cases A with
        | none => have := hA (by decide); cases this
        | some a =>
          have HN := Lib.hid (number_c hs (by omega))
          have HR := Lib.hid hr
          have HX := Lib.hid hx
          have hq := fun W : World => run_neq_slice_nil_any (P := Try.prog) W 52 5 (some a) 4 c 0 0 Try.underlying52
          clear hA hs hr hx
          go_wp2_with (go_at_call 88; refine HN.out.mono ?_; rintro e w'' ⟨rfl, rfl⟩)
          go_ret
          exact ⟨rfl, HR.out, HX.out⟩
  · have e : rCount m (rest, err) = (0, (rest, err)) := by simp [rCount, he]
    rw [e]; clear e
    have HT := Lib.hid (fun (f : FuncId) (first : Array Value) => take_bad g rest err 4 h (by simpa using he) f first)
    clear h he
    go_enter Try.func62, Try.ntmps62
    go_wp2_with (go_at_call 86; refine (HT.out _ _).mono ?_; rintro e w' ⟨rfl, hr, hx⟩; have HR := Lib.hid hr; have HX := Lib.hid hx; clear hr hx)
    go_ret
    exact ⟨rfl, HR.out, HX.out⟩
theorem err_c (g : Nat) (s : RS) (h : Rd ok g w s.1 s.2) : Calls Try.prog 41 #[.pointer (some ⟨g, 0, none⟩)] w fun e w' => e = .returned (.int .i64 s.2) ∧ w = w' := by
  obtain ⟨A, c, h0, h1, f0, f1, hc, hc2, hs⟩ := h.cells
  clear h hs
  go_enter Try.func41, Try.ntmps41
  go_wp2
  go_ret
  exact ⟨rfl, rfl⟩
/-- the old rest is laid back -/
theorem rd_back {g : Nat} {rest rest' : List UInt8} {err : Int} {A : Option Addr} {c : Nat} {w0 : World} (h0 : Rd ok g w0 rest 0) (hc : w0.cell? ⟨g, 0, none⟩ = some (.slice A rest.length c)) (x : Ext (fun k => k ≠ g) w0 w) (h : Rd ok g w rest' err) :
    Rd ok g (w.setCell ⟨g, 0, none⟩ (.slice A rest.length c)) rest err ∧ Ext (fun k => k ≠ g) w0 (w.setCell ⟨g, 0, none⟩ (.slice A rest.length c)) := by
  obtain ⟨A1, c1, hh, _, _⟩ := h
  obtain ⟨A2, c2, hh2, hs2, hl2⟩ := h0
  have e := cell_of hh2 0
  rw [hc] at e
  injection e with e
  injection e with e1 _ e2
  subst e1 e2
  have y := x.trans (ext_set (ok := fun k => k ≠ g) (p := ⟨g, 0, none⟩) (fun e => e rfl) (.slice A rest.length c))
  exact ⟨⟨A, c, heap_set hh 0 _, hs2.ext (y.weak fun k _ hk => hk.2), hl2⟩, y⟩
theorem rCount_lt (m : Int) (s : RS) : (rCount m s).1 < 4294967296 := by
  unfold rCount
  split
  · exact (by decide : 0 < 4294967296)
  · split
    · exact (by decide : 0 < 4294967296)
    · split
      · exact (by decide : 0 < 4294967296)
      · rename_i h _
        have := num_lt (s.1.take 4)
        rw [List.length_take, Nat.min_eq_left (by omega)] at this
        exact this
theorem bytes_c (g : Nat) (m : Int) (s : RS) (h : Rd ok g w s.1 s.2) : Calls Try.prog 63 #[.pointer (some ⟨g, 0, none⟩), .int .i64 m] w fun e w' =>
    ∃ v, e = .returned v ∧ Own kU8 5 ok w' w.heap.size v (rBytes m s).1 ∧ Rd ok g w' (rBytes m s).2.1 (rBytes m s).2.2 ∧ Ext (fun k => k ≠ g) w w' := by
  have hC := count_c g m s h
  obtain ⟨rest, err⟩ := s
  simp only at h
  obtain ⟨A, c, h0, h1, f0, f1, hc, hc2, hs⟩ := h.cells
  have H := Lib.hid h
  have HC := Lib.hid hC
  have hgl : g < w.heap.size := cell_lt h0
  clear h hs hC
  by_cases hce : (rCount m (rest, err)).2.2 = 0
  · have hb0 : ((rCount m (rest, err)).2.2 != 0) = false := by simpa using hce
    have he : err = 0 := by
      refine Decidable.byContradiction fun he => ?_
      simp [rCount, he] at hce
    subst he
    have hlt := rCount_lt m (rest, 0)
    by_cases hl : (rCount m (rest, 0)).2.1.length < (rCount m (rest, 0)).1
    · have e : rBytes m (rest, 0) = ([], (rest, 10)) := by simp [rBytes, hce, hl]
      rw [e]; clear e
      clear hce
      generalize rCount m (rest, 0) = S at *
      obtain ⟨n, rest', err'⟩ := S
      simp only at hb0 hl hlt
      go_enter Try.func63, Try.ntmps63
      go_wp2_with fail
      refine HC.out.mono ?_
      rintro e w1 ⟨rfl, hr, hx⟩
      have he' : err' = 0 := by simpa using hb0
      subst he'
      obtain ⟨A1, c1, k0, k1, kf0, kf1, _, _, _⟩ := hr.cells
      have HT := Lib.hid (fun (f : FuncId) (first : Array Value) => take_short g rest' n hr hl (by omega) f first)
      have HX := Lib.hid hx
      clear hr hx hb0
      go_wp2_with fail
      refine (HT.out _ _).mono ?_
      rintro e w2 ⟨rfl, hr, hx⟩
      obtain ⟨A2, c2, l0, l1, lf0, lf1, _, _, _⟩ := hr.cells
      have hbk := rd_back H.out h0 (HX.out.trans hx) hr
      have HB := Lib.hid hbk
      have HCl := Lib.hid (clone_u8 (w := w2.setCell ⟨g, 0, none⟩ (.slice A rest.length c)) (Sl.nil kU8 ok _) (by omega))
      clear hr hx hbk k0 k1 kf0 kf1 HT
      go_wp2_with fail
      refine HCl.out.mono ?_
      rintro e w3 ⟨v, rfl, ho, hb⟩
      have HO := Lib.hid ho
      have HB3 := Lib.hid hb
      clear ho hb
      go_wp2_with fail
      go_ret
      exact ⟨v, rfl, HO.out.lower (HB.out.2.size), HB.out.1.below HB3.out, HB.out.2.trans (Below.ext HB3.out _)⟩
    · have e : rBytes m (rest, 0) = ((rCount m (rest, 0)).2.1.take (rCount m (rest, 0)).1, ((rCount m (rest, 0)).2.1.drop (rCount m (rest, 0)).1, 0)) := by simp [rBytes, hce, hl]
      rw [e]; clear e
      clear hce
      generalize rCount m (rest, 0) = S at *
      obtain ⟨n, rest', err'⟩ := S
      simp only at hb0 hl hlt ⊢
      have he' : err' = 0 := by simpa using hb0
      subst he'
      clear hb0
      go_enter Try.func63, Try.ntmps63
      go_wp2_with fail
      refine HC.out.mono ?_
      rintro e w1 ⟨rfl, hr, hx⟩
      obtain ⟨A1, c1, k0, k1, kf0, kf1, _, _, _⟩ := hr.cells
      have HT := Lib.hid (take_any g rest' n hr (by omega))
      have hnl : n ≤ 1099511627776 := by have := hr.len; omega
      have HX := Lib.hid hx
      clear hr hx
      go_wp2_with fail
      refine HT.out.mono ?_
      rintro e w2 ⟨A2, c2, rfl, hA, hs, hr, hx⟩
      obtain ⟨A3, c3, l0, l1, lf0, lf1, _, _, _⟩ := hr.cells
      have HR := Lib.hid hr
      have HX2 := Lib.hid (HX.out.trans hx)
      have HCl := Lib.hid (clone_u8 hs hnl)
      clear hr hx hs hA k0 k1 kf0 kf1 HT
      go_wp2_with fail
      refine HCl.out.mono ?_
      rintro e w3 ⟨v, rfl, ho, hb⟩
      have HO := Lib.hid (ho.weak (ok' := ok) fun k hk => hk.1)
      have HB3 := Lib.hid hb
      clear ho hb
      go_wp2_with fail
      go_ret
      exact ⟨v, rfl, HO.out.lower HX2.out.size, HR.out.below HB3.out, HX2.out.trans (Below.ext HB3.out _)⟩
  · have e : rBytes m (rest, err) = ([], (rCount m (rest, err)).2) := by simp [rBytes, hce]
    rw [e]; clear e
    have hb1 : ((rCount m (rest, err)).2.2 != 0) = true := by simpa using hce
    clear hce
    generalize rCount m (rest, err) = S at *
    obtain ⟨n, rest', err'⟩ := S
    simp only at hb1
    go_enter Try.func63, Try.ntmps63
    go_wp2_with fail
    refine HC.out.mono ?_
    rintro e w' ⟨rfl, hr, hx⟩
    have HR := Lib.hid hr
    have HX := Lib.hid hx
    obtain ⟨A1, c1, k0, k1, _, _, _, _, _⟩ := hr.cells
    clear hr hx
    go_wp2_with fail
    go_ret
    exact ⟨_, rfl, Own.nil _ _ _ _ _, HR.out, HX.out⟩
end
end Go.Proofs.Ytijlamajcdekkaa

/- Package wire's reader, walked: truths, floats. -/
namespace Go.Proofs.Ytijlamajcdekkaa
open Go.RowKit
set_option linter.unusedVariables false
set_option linter.unusedSimpArgs false
theorem u8_first {ok : Nat → Prop} {w : World} {A : Option Addr} {n c : Nat} {l : List UInt8} (h : Sl kU8 ok w (.slice A n c) l) (hn : 0 < n) : ∃ a x l', A = some a ∧ l = x :: l' ∧ w.cell? a = some (.int .u8 (x.toNat : Int)) := by
  obtain ⟨a, x, hA, hx, hc⟩ := Sl.at1 (f := fun x : UInt8 => Value.int .u8 (x.toNat : Int)) (h1 := fun _ => rfl) h hn
  cases l with
  | nil => simp at hx
  | cons y l' =>
    have : y = x := by simpa using hx
    subst this
    refine ⟨a, y, l', hA, rfl, ?_⟩
    have e : a.add 0 = a := by unfold Addr.add; simp
    rwa [e] at hc
def truthE (l : List UInt8) : Int := if num l > 1 then 12 else 0
def floatE (l : List UInt8) : Int := if nanB (num l) = true ∧ num l ≠ 9221120237041090561 then 12 else 0
section
variable {ok : Nat → Prop} {w : World}
theorem truthE_c {A : Option Addr} {c : Nat} {ok2 : Nat → Prop} {l : List UInt8} (h : Sl kU8 ok2 w (.slice A 1 c) l) : Calls Try.prog 108 #[.slice A 1 c] w fun e w' => e = .returned (.int .i64 (truthE l)) ∧ w = w' := by
  have hl := h.len.1
  obtain ⟨a, x, l', rfl, rfl, hc⟩ := u8_first h (by decide)
  have hl' : l' = [] := by cases l' with | nil => rfl | cons _ _ => simp at hl
  subst hl'
  have hn : num [x] = x.toNat := by simp [num]
  unfold truthE
  rw [hn]
  clear h hl hn
  by_cases hx : x.toNat > 1
  · rw [if_pos hx]
    have hx' : (1 : Int) < (x.toNat : Int) := by omega
    go_enter Try.func108, Try.ntmps108
    go_wp2_with fail
    go_ret
    exact ⟨rfl, rfl⟩
  · rw [if_neg hx]
    have hx' : ¬ (1 : Int) < (x.toNat : Int) := by omega
    go_enter Try.func108, Try.ntmps108
    go_wp2_with fail
    go_ret
    exact ⟨rfl, rfl⟩
theorem floatE_c {A : Option Addr} {c : Nat} {ok2 : Nat → Prop} {l : List UInt8} (h : Sl kU8 ok2 w (.slice A 8 c) l) : Calls Try.prog 109 #[.slice A 8 c] w fun e w' => e = .returned (.int .i64 (floatE l)) ∧ w = w' := by
  have FB := f64from_run
  have HN := Lib.hid (number_c h (by omega))
  clear h
  unfold floatE
  generalize hN : num l = N at *
  clear hN
  cases hb : nanB N
  · rw [if_neg (by simp)]
    go_enter Try.func109, Try.ntmps109
    go_wp2_with (first | (go_at_call 88; refine HN.out.mono ?_; rintro e w' ⟨rfl, rfl⟩) | (go_at_call 99; refine (isNaN_c N).mono ?_; rintro e w' ⟨rfl, rfl⟩; rw [hb]))
    go_ret
    exact ⟨rfl, rfl⟩
  · by_cases h1 : N = 9221120237041090561
    · have h1' : ((N : Int) != 9221120237041090561) = false := by rw [h1]; rfl
      rw [if_neg (fun h => h.2 h1)]
      clear h1
      go_enter Try.func109, Try.ntmps109
      go_wp2_with (first | (go_at_call 88; refine HN.out.mono ?_; rintro e w' ⟨rfl, rfl⟩) | (go_at_call 99; refine (isNaN_c N).mono ?_; rintro e w' ⟨rfl, rfl⟩; rw [hb]))
      go_ret
      exact ⟨rfl, rfl⟩
    · have h1' : ((N : Int) != 9221120237041090561) = true := by
        have : ¬ (N : Int) = 9221120237041090561 := by omega
        simpa using this
      rw [if_pos ⟨rfl, h1⟩]
      clear h1
      go_enter Try.func109, Try.ntmps109
      go_wp2_with (first | (go_at_call 88; refine HN.out.mono ?_; rintro e w' ⟨rfl, rfl⟩) | (go_at_call 99; refine (isNaN_c N).mono ?_; rintro e w' ⟨rfl, rfl⟩; rw [hb]))
      go_ret
      exact ⟨rfl, rfl⟩
theorem take_truth (g : Nat) (rest : List UInt8) (h : Rd ok g w rest 0) (hn : 1 ≤ rest.length) :
    Calls Try.prog 86 #[.pointer (some ⟨g, 0, none⟩), .int .i64 1, .func (.func 108) #[] #[]] w fun e w' =>
      (truthE (rest.take 1) = 0 ∧ TakeOk ok g w rest 1 e w') ∨ (truthE (rest.take 1) = 12 ∧ TakeNo ok g w rest 12 e w') := by
  obtain ⟨A, c, h0, h1, f0, f1, hc, hc2, hs⟩ := h.cells
  have hn' : (1 : Int) ≤ rest.length := by omega
  have HT := rd_take h hn h0
  have HE := Lib.hid (rd_err h 12)
  have HM := Lib.hid (truthE_c (w := w) (hs.take hn))
  have hcases : truthE (rest.take 1) = 0 ∨ truthE (rest.take 1) = 12 := by unfold truthE; split <;> simp
  clear h hs
  rcases hcases with hm | hm
  · have HM' := HM.out
    rw [hm] at HM'
    have HQ := Lib.hid HM'
    clear HM HM'
    have HZ := Lib.hid hm
    clear hm
    by_cases hcn : c = 1
    · subst hcn
      rw [if_pos rfl, Nat.sub_self, show rest.length - 1 = 0 by omega] at HT
      have HT' := Lib.hid HT
      clear HT
      go_enter Try.func86, Try.ntmps86
      go_wp2_with (go_at_call 108; refine HQ.out.mono ?_; rintro e w' ⟨rfl, rfl⟩)
      go_ret
      exact .inl ⟨HZ.out, HT'.out⟩
    · rw [if_neg hcn] at HT
      have HT' := Lib.hid HT
      clear HT
      have hcn' : (1 : Int) ≤ c := by omega
      go_enter Try.func86, Try.ntmps86
      go_wp2_with (go_at_call 108; refine HQ.out.mono ?_; rintro e w' ⟨rfl, rfl⟩)
      go_ret
      exact .inl ⟨HZ.out, HT'.out⟩
  · have HM' := HM.out
    rw [hm] at HM'
    have HQ := Lib.hid HM'
    clear HM HM' HT
    have HZ := Lib.hid hm
    clear hm
    go_enter Try.func86, Try.ntmps86
    go_wp2_with (go_at_call 108; refine HQ.out.mono ?_; rintro e w' ⟨rfl, rfl⟩)
    go_ret
    exact .inr ⟨HZ.out, rfl, HE.out.1, HE.out.2⟩
theorem take_float (g : Nat) (rest : List UInt8) (h : Rd ok g w rest 0) (hn : 8 ≤ rest.length) :
    Calls Try.prog 86 #[.pointer (some ⟨g, 0, none⟩), .int .i64 8, .func (.func 109) #[] #[]] w fun e w' =>
      (floatE (rest.take 8) = 0 ∧ TakeOk ok g w rest 8 e w') ∨ (floatE (rest.take 8) = 12 ∧ TakeNo ok g w rest 12 e w') := by
  obtain ⟨A, c, h0, h1, f0, f1, hc, hc2, hs⟩ := h.cells
  have hn' : (8 : Int) ≤ rest.length := by omega
  have HT := rd_take h hn h0
  have HE := Lib.hid (rd_err h 12)
  have HM := Lib.hid (floatE_c (w := w) (hs.take hn))
  have hcases : floatE (rest.take 8) = 0 ∨ floatE (rest.take 8) = 12 := by unfold floatE; split <;> simp
  clear h hs
  rcases hcases with hm | hm
  · have HM' := HM.out
    rw [hm] at HM'
    have HQ := Lib.hid HM'
    clear HM HM'
    have HZ := Lib.hid hm
    clear hm
    by_cases hcn : c = 8
    · subst hcn
      rw [if_pos rfl, Nat.sub_self, show rest.length - 8 = 0 by omega] at HT
      have HT' := Lib.hid HT
      clear HT
      go_enter Try.func86, Try.ntmps86
      go_wp2_with (go_at_call 109; refine HQ.out.mono ?_; rintro e w' ⟨rfl, rfl⟩)
      go_ret
      exact .inl ⟨HZ.out, HT'.out⟩
    · rw [if_neg hcn] at HT
      have HT' := Lib.hid HT
      clear HT
      have hcn' : (8 : Int) ≤ c := by omega
      go_enter Try.func86, Try.ntmps86
      go_wp2_with (go_at_call 109; refine HQ.out.mono ?_; rintro e w' ⟨rfl, rfl⟩)
      go_ret
      exact .inl ⟨HZ.out, HT'.out⟩
  · have HM' := HM.out
    rw [hm] at HM'
    have HQ := Lib.hid HM'
    clear HM HM' HT
    have HZ := Lib.hid hm
    clear hm
    go_enter Try.func86, Try.ntmps86
    go_wp2_with (go_at_call 109; refine HQ.out.mono ?_; rintro e w' ⟨rfl, rfl⟩)
    go_ret
    exact .inr ⟨HZ.out, rfl, HE.out.1, HE.out.2⟩
def rBool (s : RS) : Bool × RS := if s.2 ≠ 0 then (false, s) else if s.1.length < 1 then (false, (s.1, 10)) else if truthE (s.1.take 1) = 12 then (false, (s.1, 12)) else (num (s.1.take 1) == 1, (s.1.drop 1, 0))
def rNum (s : RS) : Nat × RS := if s.2 ≠ 0 then (0, s) else if s.1.length < 8 then (0, (s.1, 10)) else if floatE (s.1.take 8) = 12 then (0, (s.1, 12)) else (num (s.1.take 8), (s.1.drop 8, 0))
theorem bool_c (g : Nat) (s : RS) (h : Rd ok g w s.1 s.2) : Calls Try.prog 102 #[.pointer (some ⟨g, 0, none⟩)] w (Rv ok g w (.bool (rBool s).1) (rBool s).2) := by
  obtain ⟨rest, err⟩ := s
  simp only at h
  by_cases he : err = 0
  · subst he
    by_cases hl : rest.length < 1
    · have e : rBool (rest, 0) = (false, (rest, 10)) := by simp only [rBool]; rw [if_neg (by simp), if_pos hl]
      rw [e]; clear e
      have HT := Lib.hid (fun (f : FuncId) (first : Array Value) => take_short g rest 1 h hl (by omega) f first)
      clear h
      go_enter Try.func102, Try.ntmps102
      go_wp2_with (go_at_call 86; refine (HT.out _ _).mono ?_; rintro e w' ⟨rfl, hr, hx⟩; have HR := Lib.hid hr; have HX := Lib.hid hx; clear hr hx)
      go_ret
      exact ⟨rfl, HR.out, HX.out⟩
    · have hT := take_truth g rest h (by omega)
      by_cases hc : truthE (rest.take 1) = 12
      · have e : rBool (rest, 0) = (false, (rest, 12)) := by simp only [rBool]; rw [if_neg (by simp), if_neg hl, if_pos hc]
        rw [e]; clear e
        have HT := Lib.hid (hT.mono (R' := TakeNo ok g w rest 12) fun e w' hh => by
          rcases hh with ⟨hm, _⟩ | ⟨_, hh⟩
          · rw [hc] at hm; cases hm
          · exact hh)
        clear hT hl hc h
        go_enter Try.func102, Try.ntmps102
        go_wp2_with fail
        refine HT.out.mono ?_
        rintro e w' ⟨rfl, hr, hx⟩
        have HR := Lib.hid hr
        have HX := Lib.hid hx
        clear hr hx
        go_wp2_with fail
        go_ret
        exact ⟨rfl, HR.out, HX.out⟩
      · have e : rBool (rest, 0) = (num (rest.take 1) == 1, (rest.drop 1, 0)) := by simp only [rBool]; rw [if_neg (by simp), if_neg hl, if_neg hc]
        rw [e]; clear e
        have HT := Lib.hid (hT.mono (R' := TakeOk ok g w rest 1) fun e w' hh => by
          rcases hh with ⟨_, hh⟩ | ⟨hm, _⟩
          · exact hh
          · exact absurd hm hc)
        clear hT hl hc h
        go_enter Try.func102, Try.ntmps102
        go_wp2_with fail
        refine HT.out.mono ?_
        rintro e w' ⟨A, c, rfl, hA, hs, hr, hx⟩
        have hls := hs.len.1
        obtain ⟨a, x, l', rfl, hl1, hc⟩ := u8_first hs (by decide)
        have hl' : l' = [] := by
          rw [hl1] at hls
          cases l' with
          | nil => rfl
          | cons _ _ => simp at hls
        subst hl'
        have HV := Lib.hid (show (num (rest.take 1) == 1) = ((x.toNat : Int) == 1) by
          rw [hl1, show num [x] = x.toNat by simp [num], Bool.eq_iff_iff]
          simp
          omega)
        have HR := Lib.hid hr
        have HX := Lib.hid hx
        have hq := fun W : World => run_neq_slice_nil_any (P := Try.prog) W 52 5 (some a) 1 c 0 0 Try.underlying52
        clear hA hs hr hx hl1 hls
        go_wp2_with fail
        go_ret
        rw [HV.out]
        exact ⟨rfl, HR.out, HX.out⟩
  · have e : rBool (rest, err) = (false, (rest, err)) := by simp [rBool, he]
    rw [e]; clear e
    have HT := Lib.hid (fun (f : FuncId) (first : Array Value) => take_bad g rest err 1 h (by simpa using he) f first)
    clear h he
    go_enter Try.func102, Try.ntmps102
    go_wp2_with (go_at_call 86; refine (HT.out _ _).mono ?_; rintro e w' ⟨rfl, hr, hx⟩; have HR := Lib.hid hr; have HX := Lib.hid hx; clear hr hx)
    go_ret
    exact ⟨rfl, HR.out, HX.out⟩
theorem num_c (g : Nat) (s : RS) (h : Rd ok g w s.1 s.2) : Calls Try.prog 103 #[.pointer (some ⟨g, 0, none⟩)] w (Rv ok g w (.float .f64 (rNum s).1) (rNum s).2) := by
  have FB := f64from_run
  obtain ⟨rest, err⟩ := s
  simp only at h
  by_cases he : err = 0
  · subst he
    by_cases hl : rest.length < 8
    · have e : rNum (rest, 0) = (0, (rest, 10)) := by simp only [rNum]; rw [if_neg (by simp), if_pos hl]
      rw [e]; clear e
      have HT := Lib.hid (fun (f : FuncId) (first : Array Value) => take_short g rest 8 h hl (by omega) f first)
      clear h
      go_enter Try.func103, Try.ntmps103
      go_wp2_with (go_at_call 86; refine (HT.out _ _).mono ?_; rintro e w' ⟨rfl, hr, hx⟩; have HR := Lib.hid hr; have HX := Lib.hid hx; clear hr hx)
      go_ret
      exact ⟨rfl, HR.out, HX.out⟩
    · have hT := take_float g rest h (by omega)
      by_cases hc : floatE (rest.take 8) = 12
      · have e : rNum (rest, 0) = (0, (rest, 12)) := by simp only [rNum]; rw [if_neg (by simp), if_neg hl, if_pos hc]
        rw [e]; clear e
        have HT := Lib.hid (hT.mono (R' := TakeNo ok g w rest 12) fun e w' hh => by
          rcases hh with ⟨hm, _⟩ | ⟨_, hh⟩
          · rw [hc] at hm; cases hm
          · exact hh)
        clear hT hl hc h
        go_enter Try.func103, Try.ntmps103
        go_wp2_with fail
        refine HT.out.mono ?_
        rintro e w' ⟨rfl, hr, hx⟩
        have HR := Lib.hid hr
        have HX := Lib.hid hx
        clear hr hx
        go_wp2_with fail
        go_ret
        exact ⟨rfl, HR.out, HX.out⟩
      · have e : rNum (rest, 0) = (num (rest.take 8), (rest.drop 8, 0)) := by simp only [rNum]; rw [if_neg (by simp), if_neg hl, if_neg hc]
        rw [e]; clear e
        have HT := Lib.hid (hT.mono (R' := TakeOk ok g w rest 8) fun e w' hh => by
          rcases hh with ⟨_, hh⟩ | ⟨hm, _⟩
          · exact hh
          · exact absurd hm hc)
        clear hT hl hc h
        go_enter Try.func103, Try.ntmps103
        go_wp2_with fail
        refine HT.out.mono ?_
        rintro e w' ⟨A, c, rfl, hA, hs, hr, hx⟩
        cases A with
        | none => have := hA (by decide); cases this
        | some a =>
          have HN := Lib.hid (number_c hs (by omega))
          have HR := Lib.hid hr
          have HX := Lib.hid hx
          have hq := fun W : World => run_neq_slice_nil_any (P := Try.prog) W 52 5 (some a) 8 c 0 0 Try.underlying52
          clear hA hs hr hx
          go_wp2_with (go_at_call 88; refine HN.out.mono ?_; rintro e w'' ⟨rfl, rfl⟩)
          go_ret
          exact ⟨rfl, HR.out, HX.out⟩
  · have e : rNum (rest, err) = (0, (rest, err)) := by simp [rNum, he]
    rw [e]; clear e
    have HT := Lib.hid (fun (f : FuncId) (first : Array Value) => take_bad g rest err 8 h (by simpa using he) f first)
    clear h he
    go_enter Try.func103, Try.ntmps103
    go_wp2_with (go_at_call 86; refine (HT.out _ _).mono ?_; rintro e w' ⟨rfl, hr, hx⟩; have HR := Lib.hid hr; have HX := Lib.hid hx; clear hr hx)
    go_ret
    exact ⟨rfl, HR.out, HX.out⟩
theorem left_c' (g : Nat) (s : RS) (h : Rd ok g w s.1 s.2) : Calls Try.prog 28 #[.pointer (some ⟨g, 0, none⟩)] w fun e w' => e = .returned (.int .i64 (s.1.length : Int)) ∧ w = w' := by
  obtain ⟨A, c, h0, h1, f0, f1, hc, hc2, hs⟩ := h.cells
  clear h hs
  go_enter Try.func28, Try.ntmps28
  go_wp2_with fail
  go_ret
  exact ⟨rfl, rfl⟩
end
end Go.Proofs.Ytijlamajcdekkaa
