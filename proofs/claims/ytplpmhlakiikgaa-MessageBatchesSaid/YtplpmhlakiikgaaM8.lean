/- Package message, walked: Decode. -/
import Derived.Test.YtplpmhlakiikgaaM7
namespace Go.Proofs.Ytplpmhlakiikgaa
open Go.RowKit
set_option linter.unusedVariables false
/-- a struct of twelve cells is stored -/
def set12 (w : World) (b : Nat) (v0 v1 v2 v3 v4 v5 v6 v7 v8 v9 v10 v11 : Value) : World := ((((((((((((w).setCell ⟨b, 0, none⟩ v0).setCell ⟨b, 1, none⟩ v1).setCell ⟨b, 2, none⟩ v2).setCell ⟨b, 3, none⟩ v3).setCell ⟨b, 4, none⟩ v4).setCell ⟨b, 5, none⟩ v5).setCell ⟨b, 6, none⟩ v6).setCell ⟨b, 7, none⟩ v7).setCell ⟨b, 8, none⟩ v8).setCell ⟨b, 9, none⟩ v9).setCell ⟨b, 10, none⟩ v10).setCell ⟨b, 11, none⟩ v11
theorem set12_heap {w : World} {b : Nat} {t : TypeId} {u0 u1 u2 u3 u4 u5 u6 u7 u8 u9 u10 u11 : Value} (v0 v1 v2 v3 v4 v5 v6 v7 v8 v9 v10 v11 : Value) (h : w.heap[b]? = some (.cells #[u0, u1, u2, u3, u4, u5, u6, u7, u8, u9, u10, u11] t (0, 0))) : (set12 w b v0 v1 v2 v3 v4 v5 v6 v7 v8 v9 v10 v11).heap[b]? = some (.cells #[v0, v1, v2, v3, v4, v5, v6, v7, v8, v9, v10, v11] t (0, 0)) := by
  have := (heap_set (heap_set (heap_set (heap_set (heap_set (heap_set (heap_set (heap_set (heap_set (heap_set (heap_set (heap_set h 0 v0) 1 v1) 2 v2) 3 v3) 4 v4) 5 v5) 6 v6) 7 v7) 8 v8) 9 v9) 10 v10) 11 v11)
  unfold set12
  simpa only [List.setIfInBounds_toArray, List.set_cons_zero, List.set_cons_succ] using this
theorem set12_ext (w : World) (b : Nat) (v0 v1 v2 v3 v4 v5 v6 v7 v8 v9 v10 v11 : Value) : Ext (fun k => k ≠ b) w (set12 w b v0 v1 v2 v3 v4 v5 v6 v7 v8 v9 v10 v11) := (((((((((((((Ext.refl _ _).trans (ext_set (fun e => e rfl) v0)).trans (ext_set (fun e => e rfl) v1)).trans (ext_set (fun e => e rfl) v2)).trans (ext_set (fun e => e rfl) v3)).trans (ext_set (fun e => e rfl) v4)).trans (ext_set (fun e => e rfl) v5)).trans (ext_set (fun e => e rfl) v6)).trans (ext_set (fun e => e rfl) v7)).trans (ext_set (fun e => e rfl) v8)).trans (ext_set (fun e => e rfl) v9)).trans (ext_set (fun e => e rfl) v10)).trans (ext_set (fun e => e rfl) v11))
theorem msg0_mk (ok : Nat → Prop) (w : World) (k : Int) : kMsg.R ok w [.int .i64 k, .int .i64 0, .int .i64 0, .int .i64 0, .int .i64 0, .string ⟨#[]⟩, .slice none 0 0, .int .i64 0, .int .i64 0, .slice none 0 0, .slice none 0 0, .slice none 0 0] (msg0 k) :=
  msg_mk (m := msg0 k) (Sl.nil _ _ _) (Sl.nil _ _ _) (Sl.nil _ _ _) (Sl.nil _ _ _)
/-- the variables of Decode: the result, the source, the message, the shape -/
structure DL (R0 S1 M H g : Nat) (a b c d : Int) (cs : List Value) (w : World) : Prop where
  res : w.heap[R0]? = some (.cells #[.int .i64 0, .int .i64 0, .int .i64 0, .int .i64 0, .int .i64 0, .string ⟨#[]⟩, .slice none 0 0, .int .i64 0, .int .i64 0, .slice none 0 0, .slice none 0 0, .slice none 0 0] 30 (0, 0))
  src : w.heap[S1]? = some (.cells #[.pointer (some ⟨g, 0, none⟩)] 64 (0, 0))
  msg : w.heap[M]? = some (.cells cs.toArray 30 (0, 0))
  shp : w.heap[H]? = some (.cells #[.int .i64 a, .int .i64 b, .int .i64 c, .int .i64 d] 49 (0, 0))
  n1 : R0 ≠ g
  n2 : S1 ≠ g
  n3 : M ≠ g
  n4 : H ≠ g
  n5 : R0 ≠ M
  n6 : S1 ≠ M
  n7 : H ≠ M
theorem DL.ext {R0 S1 M H g : Nat} {a b c d : Int} {cs : List Value} {w w' : World} (h : DL R0 S1 M H g a b c d cs w) (x : Ext (fun k => k ≠ g) w w') : DL R0 S1 M H g a b c d cs w' :=
  ⟨(x.block _ (lt_of_heap h.res) h.n1).trans h.res, (x.block _ (lt_of_heap h.src) h.n2).trans h.src, (x.block _ (lt_of_heap h.msg) h.n3).trans h.msg, (x.block _ (lt_of_heap h.shp) h.n4).trans h.shp, h.n1, h.n2, h.n3, h.n4, h.n5, h.n6, h.n7⟩
theorem DL.set {R0 S1 M H g : Nat} {a b c d : Int} {cs : List Value} {w : World} (h : DL R0 S1 M H g a b c d cs w) (i : Nat) (v : Value) : DL R0 S1 M H g a b c d (cs.set i v) (w.setCell ⟨M, i, none⟩ v) :=
  ⟨heap_set_ne h.res h.n5 i v, heap_set_ne h.src h.n6 i v, by have := heap_set h.msg i v; rwa [List.setIfInBounds_toArray] at this, heap_set_ne h.shp h.n7 i v, h.n1, h.n2, h.n3, h.n4, h.n5, h.n6, h.n7⟩
theorem DL.at_ {R0 S1 M H g : Nat} {a b c d : Int} {cs : List Value} {w : World} (h : DL R0 S1 M H g a b c d cs w) (i : Nat) : w.cell? ⟨M, i, none⟩ = cs[i]? := by rw [cell_of h.msg i]; simp
theorem DL.free {R0 S1 M H g : Nat} {a b c d : Int} {cs : List Value} {w : World} (h : DL R0 S1 M H g a b c d cs w) (i : Nat) : w.frozen? ⟨M, i, none⟩ = false := free_of h.msg i
theorem DL.own {R0 S1 M H g : Nat} {a b c d : Int} {cs : List Value} {w : World} (h : DL R0 S1 M H g a b c d cs w) : w.cell? ⟨S1, 0, none⟩ = some (.pointer (some ⟨g, 0, none⟩)) := cell_of h.src 0
theorem DL.has {R0 S1 M H g : Nat} {a b c d : Int} {cs : List Value} {w : World} (h : DL R0 S1 M H g a b c d cs w) : w.cell? ⟨H, 0, none⟩ = some (.int .i64 a) := cell_of h.shp 0
/-- the state of Decode's loop -/
structure DS (R0 S1 M H g : Nat) (a b c d : Int) (w0 : World) (cs : List Value) (m : Msg) (R : RS) (w : World) : Prop where
  msg : kMsg.R (fun k => R0 < k ∧ k ≠ g ∧ k ≠ M) w cs m
  dl : DL R0 S1 M H g a b c d cs w
  rd : Rd (fun k => True ∧ k < S1) g w R.1 R.2
  bel : Below R0 w0 w
  l1 : R0 ≤ g
  l2 : R0 ≤ M
  l3 : S1 ≤ M
  l4 : R0 ≤ w0.heap.size
theorem DS.call {R0 S1 M H g : Nat} {a b c d : Int} {w0 : World} {cs : List Value} {m : Msg} {R R' : RS} {w w' : World} (h : DS R0 S1 M H g a b c d w0 cs m R w) (hr : Rd (fun k => True ∧ k < S1) g w' R'.1 R'.2) (hx : Ext (fun k => k ≠ g) w w') : DS R0 S1 M H g a b c d w0 cs m R' w' :=
  ⟨Kd.ext h.msg (hx.weak fun k _ hk => hk.2.1), h.dl.ext hx, hr, below_ext_ne h.bel hx h.l1 h.l4, h.l1, h.l2, h.l3, h.l4⟩
theorem DS.put {R0 S1 M H g : Nat} {a b c d : Int} {w0 : World} {cs : List Value} {m m' : Msg} {R : RS} {w : World} (h : DS R0 S1 M H g a b c d w0 cs m R w) (j : Nat) (v : Value) (hm : kMsg.R (fun k => R0 < k ∧ k ≠ g ∧ k ≠ M) w (cs.set j v) m') : DS R0 S1 M H g a b c d w0 (cs.set j v) m' R (w.setCell ⟨M, j, none⟩ v) :=
  ⟨Kd.ext hm (ext_set (fun e => e.2.2 rfl) v), h.dl.set j v, h.rd.set (fun e => h.dl.n3 e.symm) (fun e => by have := e.2; have := h.l3; omega) j v, below_ext_ne h.bel (ext_set_ne (Ext.refl _ _) j v) h.l2 h.l4, h.l1, h.l2, h.l3, h.l4⟩
theorem DS.fresh {R0 S1 M H g : Nat} {a b c d : Int} {w0 : World} {cs : List Value} {m : Msg} {R : RS} {w : World} (h : DS R0 S1 M H g a b c d w0 cs m R w) : ∀ k, w.heap.size ≤ k → R0 < k ∧ k ≠ g ∧ k ≠ M := fun k hk => by
  have := h.rd.lt
  have := lt_of_heap h.dl.msg
  have := lt_of_heap h.dl.res
  exact ⟨by omega, by omega, by omega⟩
theorem msg_set1 {ok : Nat → Prop} {w : World} {cs : List Value} {m : Msg} (h : kMsg.R ok w cs m) (x : Int) : kMsg.R ok w (cs.set 1 (.int .i64 x)) { m with view := x } := by
  obtain ⟨A1, c1, A2, c2, A3, c3, A4, c4, rfl, h1, h2, h3, h4⟩ := msg_open h
  exact msg_mk (m := { m with view := x }) h1 h2 h3 h4
theorem msg_set2 {ok : Nat → Prop} {w : World} {cs : List Value} {m : Msg} (h : kMsg.R ok w cs m) (x : Int) : kMsg.R ok w (cs.set 2 (.int .i64 x)) { m with seq := x } := by
  obtain ⟨A1, c1, A2, c2, A3, c3, A4, c4, rfl, h1, h2, h3, h4⟩ := msg_open h
  exact msg_mk (m := { m with seq := x }) h1 h2 h3 h4
theorem msg_set3 {ok : Nat → Prop} {w : World} {cs : List Value} {m : Msg} (h : kMsg.R ok w cs m) (x : Int) : kMsg.R ok w (cs.set 3 (.int .i64 x)) { m with client := x } := by
  obtain ⟨A1, c1, A2, c2, A3, c3, A4, c4, rfl, h1, h2, h3, h4⟩ := msg_open h
  exact msg_mk (m := { m with client := x }) h1 h2 h3 h4
theorem msg_set4 {ok : Nat → Prop} {w : World} {cs : List Value} {m : Msg} (h : kMsg.R ok w cs m) (x : Int) : kMsg.R ok w (cs.set 4 (.int .i64 x)) { m with stamp := x } := by
  obtain ⟨A1, c1, A2, c2, A3, c3, A4, c4, rfl, h1, h2, h3, h4⟩ := msg_open h
  exact msg_mk (m := { m with stamp := x }) h1 h2 h3 h4
theorem msg_set5 {ok : Nat → Prop} {w : World} {cs : List Value} {m : Msg} (h : kMsg.R ok w cs m) (x : List UInt8) : kMsg.R ok w (cs.set 5 (.string ⟨x.toArray⟩)) { m with digest := x } := by
  obtain ⟨A1, c1, A2, c2, A3, c3, A4, c4, rfl, h1, h2, h3, h4⟩ := msg_open h
  exact msg_mk (m := { m with digest := x }) h1 h2 h3 h4
theorem msg_set6 {ok : Nat → Prop} {w : World} {cs : List Value} {m : Msg} (h : kMsg.R ok w cs m) {v : Value} {x : List UInt8} (hv : Sl kU8 ok w v x) : kMsg.R ok w (cs.set 6 v) { m with data := x } := by
  obtain ⟨A1, c1, A2, c2, A3, c3, A4, c4, rfl, h1, h2, h3, h4⟩ := msg_open h
  exact msg_mk (m := { m with data := x }) hv h2 h3 h4
theorem msg_set7 {ok : Nat → Prop} {w : World} {cs : List Value} {m : Msg} (h : kMsg.R ok w cs m) (x : Int) : kMsg.R ok w (cs.set 7 (.int .i64 x)) { m with code := x } := by
  obtain ⟨A1, c1, A2, c2, A3, c3, A4, c4, rfl, h1, h2, h3, h4⟩ := msg_open h
  exact msg_mk (m := { m with code := x }) h1 h2 h3 h4
theorem msg_set8 {ok : Nat → Prop} {w : World} {cs : List Value} {m : Msg} (h : kMsg.R ok w cs m) (x : Int) : kMsg.R ok w (cs.set 8 (.int .i64 x)) { m with stage := x } := by
  obtain ⟨A1, c1, A2, c2, A3, c3, A4, c4, rfl, h1, h2, h3, h4⟩ := msg_open h
  exact msg_mk (m := { m with stage := x }) h1 h2 h3 h4
theorem msg_set9 {ok : Nat → Prop} {w : World} {cs : List Value} {m : Msg} (h : kMsg.R ok w cs m) {v : Value} {x : List Env} (hv : Sl kEnv ok w v x) : kMsg.R ok w (cs.set 9 v) { m with batch := x } := by
  obtain ⟨A1, c1, A2, c2, A3, c3, A4, c4, rfl, h1, h2, h3, h4⟩ := msg_open h
  exact msg_mk (m := { m with batch := x }) h1 hv h3 h4
theorem msg_set10 {ok : Nat → Prop} {w : World} {cs : List Value} {m : Msg} (h : kMsg.R ok w cs m) {v : Value} {x : List Env} (hv : Sl kEnv ok w v x) : kMsg.R ok w (cs.set 10 v) { m with pres := x } := by
  obtain ⟨A1, c1, A2, c2, A3, c3, A4, c4, rfl, h1, h2, h3, h4⟩ := msg_open h
  exact msg_mk (m := { m with pres := x }) h1 h2 hv h4
theorem msg_set11 {ok : Nat → Prop} {w : World} {cs : List Value} {m : Msg} (h : kMsg.R ok w cs m) {v : Value} {x : List Crt} (hv : Sl kCrt ok w v x) : kMsg.R ok w (cs.set 11 v) { m with certs := x } := by
  obtain ⟨A1, c1, A2, c2, A3, c3, A4, c4, rfl, h1, h2, h3, h4⟩ := msg_open h
  exact msg_mk (m := { m with certs := x }) h1 h2 h3 hv
/-- 'string(b)' -/
theorem conv_bs {P : Program} {ok : Nat → Prop} {w : World} {A : Option Addr} {n c : Nat} {l : List UInt8} (h : Sl kU8 ok w (.slice A n c) l) (src dst e : TypeId) (hs : P.underlying src = some (.slice e)) (he : P.underlying e = some (.int .u8)) (hd : P.underlying dst = some .string) : (convert src dst (.slice A n c)).run P w = .ok (.string ⟨l.toArray⟩) w := by
  have hl := h.len
  obtain ⟨rfl, h2, h3, h4⟩ := hl
  cases A with
  | some ad =>
    exact run_convert_bytes_back w src dst e ad c l hs he hd fun j hj => by
      obtain ⟨ad', x, hA, hx, hc⟩ := Sl.at1 (f := fun x : UInt8 => Value.int .u8 (x.toNat : Int)) (h1 := fun _ => rfl) h hj
      injection hA with hA
      subst hA
      rw [hc]
      have := (List.getElem?_eq_some_iff.1 hx).2
      rw [← this]
  | none =>
    have := h4 rfl
    have hl0 : l = [] := List.eq_nil_of_length_eq_zero (by omega)
    subst hl0
    rw [run_convert_bytes_string w src dst e none _ c hs he hd]
    simp [Conv.bytesToString]
    rfl
section
variable {ok : Nat → Prop} {w : World}
def RetMsg (ok : Nat → Prop) (w : World) (p : Msg × Int) (e : Ending) (w' : World) : Prop :=
  ∃ cs : List Value, e = .returned (.tuple #[.agg cs.toArray, .int .i64 p.2]) ∧ kMsg.R (fun k => w.heap.size ≤ k) w' cs p.1 ∧ Below w.heap.size w w'
end
end Go.Proofs.Ytplpmhlakiikgaa
