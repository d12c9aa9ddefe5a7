/- Package message, walked: what is read. -/
import Derived.Test.YtplpmhlakiikgaaM5
namespace Go.Proofs.Ytplpmhlakiikgaa
open Go.RowKit
set_option linter.unusedVariables false
def rEnv (s : RS) : Env × RS := (⟨(rInt s).1, (rBytes 16777216 (rInt s).2).1⟩, (rBytes 16777216 (rInt s).2).2)
def rMany : Nat → RS → List Env × RS
  | 0, s => ([], s)
  | k + 1, s => ((rMany k s).1 ++ [(rEnv (rMany k s).2).1], (rEnv (rMany k s).2).2)
theorem rMany_len (k : Nat) (s : RS) : (rMany k s).1.length = k := by
  induction k with
  | zero => rfl
  | succ k ih => rw [rMany, List.length_append, ih]; rfl
def rList (s : RS) : List Env × RS := rMany (rCount 15 s).1 (rCount 15 s).2
def rCrt (s : RS) : Crt × RS := (⟨(rEnv s).1, (rList (rEnv s).2).1⟩, (rList (rEnv s).2).2)
def rManyC : Nat → RS → List Crt × RS
  | 0, s => ([], s)
  | k + 1, s => ((rManyC k s).1 ++ [(rCrt (rManyC k s).2).1], (rCrt (rManyC k s).2).2)
def rCerts (s : RS) : List Crt × RS := rManyC (rCount 8 s).1 (rCount 8 s).2
theorem rps_any {α : Type} {f : α → Value} {h1 : ∀ x, (f x).oneCell' = true} {ok ok' : Nat → Prop} {w w' : World} : ∀ {xs : List α} {cs : List Value}, Rps (scalar f h1) ok w xs cs → Rps (scalar f h1) ok' w' xs cs
  | [], _, h => h
  | _ :: _, _, ⟨c, r, e, hc, hr⟩ => ⟨c, r, e, hc, rps_any hr⟩
theorem own_any {α : Type} {f : α → Value} {h1 : ∀ x, (f x).oneCell' = true} {ok ok' : Nat → Prop} {w : World} {base : Nat} {t : TypeId} {v : Value} {xs : List α} (h : Own (scalar f h1) t ok w base v xs) : Own (scalar f h1) t ok' w base v xs := by
  obtain ⟨cs, h1, h2⟩ := h
  exact ⟨cs, h1, rps_any h2⟩
theorem lt_of_alloc {w : World} {o : Obj} {k : Nat} (h : (w.alloc o).heap.size ≤ k) : w.heap.size < k := by
  have h' : w.heap.size + 1 ≤ k := by simpa using h
  omega
theorem ext_set_new {ok : Nat → Prop} {w w' : World} {b : Nat} (h : Ext ok w w') (hb : w.heap.size ≤ b) (i : Nat) (u : Value) : Ext ok w (w'.setCell ⟨b, i, none⟩ u) :=
  ⟨h.os, h.tape, h.output, by simpa using h.size, fun k hk ho => (Below.heap_setCell _ _ _ _ (fun e => by have : k = b := e; omega)).trans (h.block k hk ho)⟩
theorem infoEnv : (Try.prog.info? 45).map (fun i => (i.zero, i.size, i.bytes)) = some (some (.agg #[.int .i64 0, .slice none 0 0]), 2, 32) := by kernel_rfl
theorem infoCrt : (Try.prog.info? 47).map (fun i => (i.zero, i.size, i.bytes)) = some (some (.agg #[.int .i64 0, .slice none 0 0, .slice none 0 0]), 3, 56) := by kernel_rfl
/-- a fresh thing is put behind a row that the call owns -/
theorem append_fresh {P : Program} {α : Type} {d : Kd α} {e t tx ty : TypeId} {w : World} {base b0 : Nat} {v : Value} {xs : List α} {z : Value} {bytes : Nat} (ht : P.underlying t = some (.slice e)) (htx : P.underlying tx = some (.slice e)) (hi : (P.info? e).map (fun i => (i.zero, i.size, i.bytes)) = some (some z, d.sz, bytes)) (hzs : z.cells.size = d.sz)
    (h : Own d e (fun k => base ≤ k) w base v xs) (hbase : base ≤ w.heap.size) {c : List Value} {x : α} (hr : d.R (fun k => b0 ≤ k) w c x) (hb0 : base ≤ b0) (hv : ∀ k, v.ownBlock = some k → k < b0) (hb : (xs.length + 1) * bytes ≤ 140737488355328) (hm : xs.length + 1 ≤ 140737488355328) :
    ∃ v' w', (Builtin.append_ #[t, tx] ty #[v, .slice (some ⟨w.heap.size, 0, none⟩) 1 1]).run P (w.alloc (.cells c.toArray e)) = .ok v' w' ∧ (Own d e (fun k => base ≤ k) w' base v' (xs ++ [x]) ∧ w.grownBy w' v.ownBlock) := by
  obtain ⟨i0, hi0, hz0, hz1, hz2⟩ := info_parts hi
  obtain ⟨v', w', a, b, c, _⟩ := run_append_own1 (ty := ty) (P := P) ht htx hi0 hz0 hz1 hz2 hzs h hbase (d.weak hr fun k hk => ⟨Nat.le_trans hb0 hk, fun e => by have := hv k e.symm; omega⟩) hb hm
  exact ⟨v', w', a, b, c⟩
theorem ext_grown_new {ok : Nat → Prop} {w w2 w' : World} {row : Option Nat} (h : Ext ok w w2) (hg : w2.grownBy w' row) (hr : ∀ k, row = some k → w.heap.size ≤ k) : Ext ok w w' :=
  ⟨hg.os.trans h.os, hg.tape.trans h.tape, hg.output.trans h.output, Nat.le_trans h.size hg.size, fun k hk ho => (hg.block k (Nat.lt_of_lt_of_le hk h.size) (fun e => by have := hr k e.symm; omega)).trans (h.block k hk ho)⟩
section
variable {ok : Nat → Prop} {w : World}
theorem Rd.weak {ok' : Nat → Prop} {g : Nat} {r : List UInt8} {e : Int} (h : Rd ok g w r e) (hk : ∀ k, ok k → ok' k) : Rd ok' g w r e := by
  obtain ⟨A, c, hh, hs, hl⟩ := h
  exact ⟨A, c, hh, hs.weak fun k a => ⟨hk k a.1, a.2⟩, hl⟩
theorem Rd.bound {g : Nat} {r : List UInt8} {e : Int} (h : Rd ok g w r e) : Rd (fun k => ok k ∧ k < w.heap.size) g w r e := by
  obtain ⟨A, c, hh, hs, hl⟩ := h
  exact ⟨A, c, hh, hs.bound.weak fun k a => ⟨⟨a.1.1, a.2⟩, a.1.2⟩, hl⟩
theorem Rd.ext {g : Nat} {r : List UInt8} {e : Int} {w' : World} (h : Rd ok g w r e) (x : Ext (fun k => ok k ∨ k = g) w w') : Rd ok g w' r e := by
  have hg := h.lt
  obtain ⟨A, c, hh, hs, hl⟩ := h
  exact ⟨A, c, (x.block g hg (.inr rfl)).trans hh, hs.ext (x.weak fun k _ hk => .inl hk.1), hl⟩
/-- a store beside a reader -/
theorem Rd.set {g b : Nat} {r : List UInt8} {e : Int} (h : Rd ok g w r e) (hb : g ≠ b) (hk : ¬ ok b) (i : Nat) (u : Value) : Rd ok g (w.setCell ⟨b, i, none⟩ u) r e :=
  h.ext (ext_set (fun e => by rcases e with e | e; exact hk e; exact hb e.symm) u)
theorem heap_set_ne {w : World} {b k : Nat} {o : Obj} (h : w.heap[k]? = some o) (hb : k ≠ b) (i : Nat) (u : Value) : (w.setCell ⟨b, i, none⟩ u).heap[k]? = some o := (Below.heap_setCell _ _ _ _ hb).trans h
theorem numr_c (g : Nat) (s : RS) (h : Rd ok g w s.1 s.2) : Calls Try.prog 29 #[.agg #[.pointer (some ⟨g, 0, none⟩)]] w (Rv ok g w (.int .i64 (rInt s).1) (rInt s).2) := by
  have B0 := Lib.hid (show Below w.heap.size w (w.alloc (.cells #[.pointer (some ⟨g, 0, none⟩)] 64)) from (Below.refl _ _).alloc (Nat.le_refl _) _)
  have HC := Lib.hid (int_c g s (h.below B0.out))
  clear h
  go_enter Try.func29, Try.ntmps29
  go_wp2_with fail
  refine HC.out.mono ?_
  rintro e w' ⟨rfl, hr, hx⟩
  have HR := Lib.hid hr
  have HX := Lib.hid ((Below.ext B0.out _).trans hx)
  clear hr hx
  go_wp2_with fail
  go_ret
  exact ⟨rfl, HR.out, HX.out⟩
def RetEnv (ok : Nat → Prop) (g : Nat) (w : World) (p : Env × RS) (e : Ending) (w' : World) : Prop :=
  ∃ cs : List Value, e = .returned (.agg cs.toArray) ∧ kEnv.R (fun k => w.heap.size ≤ k) w' cs p.1 ∧ Rd ok g w' p.2.1 p.2.2 ∧ Ext (fun k => k ≠ g) w w'
theorem envr_c (g : Nat) (s : RS) (h : Rd ok g w s.1 s.2) : Calls Try.prog 47 #[.agg #[.pointer (some ⟨g, 0, none⟩)]] w (RetEnv ok g w (rEnv s)) := by
  have hgl := h.lt
  have B0 := Lib.hid (show Below w.heap.size w ((w.alloc (.cells #[.pointer (some ⟨g, 0, none⟩)] 64)).alloc (.cells #[.int .i64 0, .slice none 0 0] 45)) from ((Below.refl _ _).alloc (Nat.le_refl _) _).alloc (by simp) _)
  have HR0 := Lib.hid (h.bound.below B0.out)
  have L0 := Lib.hid (show ((w.alloc (.cells #[.pointer (some ⟨g, 0, none⟩)] 64)).alloc (.cells #[.int .i64 0, .slice none 0 0] 45)).heap[w.heap.size]? = some (.cells #[.pointer (some ⟨g, 0, none⟩)] 64 (0, 0)) from (Below.heap_alloc _ _ _ (by simp)).trans (heap_new _ _))
  have L1 := Lib.hid (show ((w.alloc (.cells #[.pointer (some ⟨g, 0, none⟩)] 64)).alloc (.cells #[.int .i64 0, .slice none 0 0] 45)).heap[w.heap.size + 1]? = some (.cells #[.int .i64 0, .slice none 0 0] 45 (0, 0)) from by have := heap_new (w.alloc (.cells #[.pointer (some ⟨g, 0, none⟩)] 64)) (.cells #[.int .i64 0, .slice none 0 0] 45); simpa using this)
  have HC := Lib.hid (numr_c g s HR0.out)
  clear h
  go_enter Try.func47, Try.ntmps47
  go_wp2_with fail
  refine HC.out.mono ?_
  rintro e w1 ⟨rfl, hr, hx⟩
  have p0 : w1.cell? ⟨w.heap.size, 0, none⟩ = some (.pointer (some ⟨g, 0, none⟩)) := cell_of ((hx.block _ (by simp; omega) (by omega)).trans L0.out) 0
  have c1 := (hx.block (w.heap.size + 1) (by simp) (by omega)).trans L1.out
  have hz1 := lt_of_heap c1
  have hz : w.heap.size < w1.heap.size := by omega
  have hgw : g ≠ w1.heap.size := by omega
  have B1 := Lib.hid (show Below w1.heap.size w1 (w1.alloc (.cells #[.int .i64 (rInt s).1, .slice none 0 0] 45)) from (Below.refl _ _).alloc (Nat.le_refl _) _)
  have HC2 := Lib.hid (bytes_c g 16777216 (rInt s).2 (hr.below B1.out))
  have X0 := Lib.hid ((Below.ext B0.out (fun k => k ≠ g)).trans hx)
  have C1 := Lib.hid c1
  clear hr hx L0 L1 HC HR0 c1
  go_wp2_with fail
  refine HC2.out.mono ?_
  rintro e w2 ⟨v, rfl, ho, hr, hx⟩
  have c0 : w2.heap[w1.heap.size]? = some (.cells #[.int .i64 (rInt s).1, .slice none 0 0] 45 (0, 0)) := (hx.block _ (by simp) (by omega)).trans (heap_new _ _)
  have c1 : w2.heap[w.heap.size + 1]? = some (.cells #[.int .i64 0, .slice none 0 0] 45 (0, 0)) := (hx.block _ (by simp; omega) (by omega)).trans ((Below.heap_alloc _ _ _ hz1).trans C1.out)
  have q0 : w2.cell? ⟨w1.heap.size, 0, none⟩ = some (.int .i64 (rInt s).1) := cell_of c0 0
  have q1 : w2.cell? ⟨w1.heap.size, 1, none⟩ = some (.slice none 0 0) := cell_of c0 1
  have f1 : w2.frozen? ⟨w1.heap.size, 1, none⟩ = false := free_of c0 1
  have t0 : w2.cell? ⟨w.heap.size + 1, 0, none⟩ = some (.int .i64 0) := cell_of c1 0
  have t1 : w2.cell? ⟨w.heap.size + 1, 1, none⟩ = some (.slice none 0 0) := cell_of c1 1
  have u0 : w2.frozen? ⟨w.heap.size + 1, 0, none⟩ = false := free_of c1 0
  have u1 : w2.frozen? ⟨w.heap.size + 1, 1, none⟩ = false := free_of c1 1
  have hsl : Sl kU8 (fun k => (w.heap.size ≤ k ∧ k ≠ w.heap.size + 1) ∧ k ≠ w1.heap.size) w2 v (rBytes 16777216 (rInt s).2).1 :=
    (own_any ho).sl (fun k hk => by have := lt_of_alloc hk; exact ⟨⟨by omega, by omega⟩, by omega⟩)
  obtain ⟨Av, cv, rfl, _⟩ := hsl.form
  have hne : w.heap.size + 1 ≠ w1.heap.size := by omega
  have HS := Lib.hid (show Sl kU8 (fun k => w.heap.size ≤ k) (((w2.setCell ⟨w1.heap.size, 1, none⟩ (.slice Av (rBytes 16777216 (rInt s).2).1.length cv)).setCell ⟨w.heap.size + 1, 0, none⟩ (.int .i64 (rInt s).1)).setCell ⟨w.heap.size + 1, 1, none⟩ (.slice Av (rBytes 16777216 (rInt s).2).1.length cv)) (.slice Av (rBytes 16777216 (rInt s).2).1.length cv) (rBytes 16777216 (rInt s).2).1 from
    (((hsl.ext (ext_set (fun e => e.2 rfl) _)).ext (ext_set (fun e => e.1.2 rfl) _)).ext (ext_set (fun e => e.1.2 rfl) _)).weak fun k hk => hk.1.1)
  have HR := Lib.hid ((((hr.set hgw (fun e => by have := e.2; omega) 1 (.slice Av (rBytes 16777216 (rInt s).2).1.length cv)).set (by omega : g ≠ w.heap.size + 1) (fun e => by have := e.2; omega) 0 (.int .i64 (rInt s).1)).set (by omega : g ≠ w.heap.size + 1) (fun e => by have := e.2; omega) 1 (.slice Av (rBytes 16777216 (rInt s).2).1.length cv)).weak (ok' := ok) fun k hk => hk.1)
  have HX := Lib.hid (ext_set_new (ext_set_new (ext_set_new ((X0.out.trans (Below.ext B1.out _)).trans hx) (Nat.le_of_lt hz) 1 (.slice Av (rBytes 16777216 (rInt s).2).1.length cv)) (by omega : w.heap.size ≤ w.heap.size + 1) 0 (.int .i64 (rInt s).1)) (by omega : w.heap.size ≤ w.heap.size + 1) 1 (.slice Av (rBytes 16777216 (rInt s).2).1.length cv))
  have hz2 : w1.heap.size < w2.heap.size := lt_of_heap c0
  have d1 := heap_set_ne c1 hne 1 (.slice Av (rBytes 16777216 (rInt s).2).1.length cv)
  have k0 := cell_of (heap_set d1 0 (.int .i64 (rInt s).1)) 0
  have k1 := cell_of (heap_set (heap_set d1 0 (.int .i64 (rInt s).1)) 1 (.slice Av (rBytes 16777216 (rInt s).2).1.length cv)) 1
  simp at k0 k1
  have K0 := Lib.hid k0
  have K1 := Lib.hid k1
  clear ho hr hx c0 c1 hsl d1 k0 k1
  go_wp2_with fail
  refine bodyPost_ret (v := .agg #[.int .i64 (rInt s).1, .slice Av (rBytes 16777216 (rInt s).2).1.length cv]) (by simp [results, Try.results47, go_sem, K0.out, K1.out]) rfl ?_
  exact ⟨_, rfl, env_mk (e := (rEnv s).1) HS.out, HR.out, HX.out⟩
def RetRd {α : Type} (d : Kd α) (t : TypeId) (ok : Nat → Prop) (g : Nat) (w : World) (p : List α × RS) (e : Ending) (w' : World) : Prop :=
  ∃ v, e = .returned v ∧ Own d t (fun k => w.heap.size ≤ k) w' w.heap.size v p.1 ∧ Rd ok g w' p.2.1 p.2.2 ∧ Ext (fun k => k ≠ g) w w'
theorem Own.ext_ne {α : Type} {d : Kd α} {t : TypeId} {base g : Nat} {v : Value} {xs : List α} {w' : World} (h : Own d t (fun k => base ≤ k) w base v xs) (hg : g < base) (x : Ext (fun k => k ≠ g) w w') : Own d t (fun k => base ≤ k) w' base v xs :=
  h.ext (x.weak fun k _ hk => by
    rcases hk with hk | hk
    · exact fun e => by have hk : base ≤ k := hk; omega
    · have := (h.lt k hk.symm).1; omega)
theorem listr_c (g : Nat) (s : RS) (h : Rd ok g w s.1 s.2) : Calls Try.prog 31 #[.agg #[.pointer (some ⟨g, 0, none⟩)]] w (RetRd kEnv 45 ok g w (rList s)) := by
  have hgl := h.lt
  have B0 := Lib.hid (show Below w.heap.size w (w.alloc (.cells #[.pointer (some ⟨g, 0, none⟩)] 64)) from (Below.refl _ _).alloc (Nat.le_refl _) _)
  have HR0 := Lib.hid (h.bound.below B0.out)
  have HC := Lib.hid (count_c g 15 s HR0.out)
  have hn := rCount_lt 15 s
  clear h
  go_enter Try.func31, Try.ntmps31
  go_wp2_with fail
  refine HC.out.mono ?_
  rintro e w1 ⟨rfl, hr, hx⟩
  have E := Lib.hid (show rList s = rMany (rCount 15 s).1 (rCount 15 s).2 from rfl)
  generalize rCount 15 s = S at *
  obtain ⟨n, S⟩ := S
  simp only at hn hr E ⊢
  have HR := Lib.hid hr
  have H0 := Lib.hid ((hx.block w.heap.size (by simp) (by omega)).trans (heap_new _ _))
  have HX := Lib.hid ((Below.ext B0.out (fun k => k ≠ g)).trans hx)
  clear hr hx HC HR0
  go_wp2_with fail
  go_loopw [2, 6] (fun v2 v6 wr => ∃ k : Nat, k ≤ n ∧ v6 = .int .i64 k ∧ Own kEnv 45 (fun k => w.heap.size + 1 ≤ k) wr (w.heap.size + 1) v2 (rMany k S).1 ∧ Rd (fun k => ok k ∧ k < w.heap.size) g wr (rMany k S).2.1 (rMany k S).2.2 ∧ Ext (fun k => k ≠ g) w wr ∧ wr.heap[w.heap.size]? = some (.cells #[.pointer (some ⟨g, 0, none⟩)] 64 (0, 0))) (fun _ v6 _ => n - (intOf v6).toNat)
  case atStart => exact ⟨0, Nat.zero_le _, rfl, Own.nil _ _ _ _ _, HR.out, HX.out, H0.out⟩
  case round =>
    obtain ⟨k, hk, rfl, ho, hr, hx, h0⟩ := hrel
    by_cases hlt : k < n
    · have p0 : wr.cell? ⟨w.heap.size, 0, none⟩ = some (.pointer (some ⟨g, 0, none⟩)) := cell_of h0 0
      have hzr := lt_of_heap h0
      have HO := Lib.hid ho
      have HR := Lib.hid hr
      have HX := Lib.hid hx
      have H0 := Lib.hid h0
      clear ho hr hx h0
      go_wp2_with fail
      refine (envr_c (ok := fun k => ok k ∧ k < w.heap.size) g (rMany k S).2 HR.out).mono ?_
      rintro e w2 ⟨cs, rfl, hE, hr2, hx2⟩
      obtain ⟨B, d, rfl, hB⟩ := env_open hE
      have HE := Lib.hid hE
      have HR2 := Lib.hid hr2
      have HX2 := Lib.hid (HX.out.trans hx2)
      have HO2 := Lib.hid (HO.out.ext_ne (by omega) hx2)
      have HB2 := Lib.hid (show ∀ k, u2.ownBlock = some k → k < wr.heap.size from fun k hk => (HO.out.lt k hk).2)
      have H02 := Lib.hid ((hx2.block w.heap.size hzr (by omega)).trans H0.out)
      have HLen := Lib.hid (rMany_len k S)
      have hzz := hx2.size
      clear hE hr2 hx2 hB p0 HO HR H0 HX
      go_wp2_with (at_builtin; refine at_append rfl (.tmp 8) (.tmp 11) 27 27 rfl rfl rfl (append_fresh Try.underlying27 Try.underlying27 infoEnv rfl HO2.out (by omega) HE.out (by omega) HB2.out (by rw [HLen.out]; omega) (by rw [HLen.out]; omega)) ?_; rintro v' w' ⟨ho, hgr⟩; have HO3 := Lib.hid ho; have HG := Lib.hid hgr; clear ho hgr)
      go_roundw
      case rel =>
        have hxx : Ext (fun k => (ok k ∧ k < w.heap.size) ∨ k = g) w2 w' := ext_grown HG.out fun q hq hk => by
          have := (HO2.out.lt q hq).1
          rcases hk with hk | hk
          · have := hk.2; omega
          · omega
        have hxy : Ext (fun k => k ≠ g) w w' := ext_grown_new HX2.out HG.out fun q hq => by have := (HO2.out.lt q hq).1; omega
        exact ⟨k + 1, by omega, by go_num, HO3.out, HR2.out.ext hxx, hxy, (HG.out.block _ (by omega) (fun e => by have := (HO2.out.lt _ e.symm).1; omega)).trans H02.out⟩
      case measure => simp [intOf]; omega
    · have hkn : k = n := by omega
      subst hkn
      have HO := Lib.hid ho
      have HR := Lib.hid hr
      have HX := Lib.hid hx
      clear ho hr hx h0
      go_wp2_with fail
      go_ret
      rw [E.out]
      exact ⟨_, rfl, (HO.out.lower (by omega)).weak fun k hk => by omega, HR.out.weak fun k hk => hk.1, HX.out⟩
end
end Go.Proofs.Ytplpmhlakiikgaa
