/- Package message, walked: certificates that are read. -/
import Derived.Test.YtplpmhlakiikgaaP2
namespace Go.Proofs.Ytplpmhlakiikgaa
open Go.RowKit
set_option linter.unusedVariables false
/-- the same, the box's number said otherwise -/
theorem append_fresh_at {P : Program} {α : Type} {d : Kd α} {e t tx ty : TypeId} {w : World} {base b0 : Nat} {v : Value} {xs : List α} {z : Value} {bytes : Nat} {p : Nat} (hp : w.heap.size = p) (ht : P.underlying t = some (.slice e)) (htx : P.underlying tx = some (.slice e)) (hi : (P.info? e).map (fun i => (i.zero, i.size, i.bytes)) = some (some z, d.sz, bytes)) (hzs : z.cells.size = d.sz)
    (h : Own d e (fun k => base ≤ k) w base v xs) (hbase : base ≤ w.heap.size) {c : List Value} {x : α} (hr : d.R (fun k => b0 ≤ k) w c x) (hb0 : base ≤ b0) (hv : ∀ k, v.ownBlock = some k → k < b0) (hb : (xs.length + 1) * bytes ≤ 140737488355328) (hm : xs.length + 1 ≤ 140737488355328) :
    ∃ v' w', (Builtin.append_ #[t, tx] ty #[v, .slice (some ⟨p, 0, none⟩) 1 1]).run P (w.alloc (.cells c.toArray e)) = .ok v' w' ∧ (Own d e (fun k => base ≤ k) w' base v' (xs ++ [x]) ∧ w.grownBy w' v.ownBlock) := by
  subst hp
  exact append_fresh ht htx hi hzs h hbase hr hb0 hv hb hm
theorem Own.bound {α : Type} {d : Kd α} {t : TypeId} {ok : Nat → Prop} {w : World} {base : Nat} {v : Value} {xs : List α} (h : Own d t ok w base v xs) : Own d t (fun k => ok k ∧ k < w.heap.size) w base v xs := by
  obtain ⟨cs, h1, h2⟩ := h
  exact ⟨cs, h1, (h2.move fun _ _ _ => rfl).weak fun k hk => ⟨⟨hk.1.1, hk.2⟩, hk.1.2⟩⟩
section
variable {ok : Nat → Prop} {w : World}
theorem certr_c (g : Nat) (s : RS) (h : Rd ok g w s.1 s.2) : Calls Try.prog 32 #[.agg #[.pointer (some ⟨g, 0, none⟩)]] w (RetRd kCrt 47 ok g w (rCerts s)) := by
  have hgl := h.lt
  have B0 := Lib.hid (show Below w.heap.size w (w.alloc (.cells #[.pointer (some ⟨g, 0, none⟩)] 64)) from (Below.refl _ _).alloc (Nat.le_refl _) _)
  have HR0 := Lib.hid (h.bound.below B0.out)
  have HC := Lib.hid (count_c g 8 s HR0.out)
  have hn := rCount_lt 8 s
  clear h
  go_enter Try.func32, Try.ntmps32
  go_wp2_with fail
  refine HC.out.mono ?_
  rintro e w1 ⟨rfl, hr, hx⟩
  have E := Lib.hid (show rCerts s = rManyC (rCount 8 s).1 (rCount 8 s).2 from rfl)
  generalize rCount 8 s = S at *
  obtain ⟨n, S⟩ := S
  simp only at hn hr E ⊢
  have HR := Lib.hid hr
  have H0 := Lib.hid ((hx.block w.heap.size (by simp) (by omega)).trans (heap_new _ _))
  have HX := Lib.hid ((Below.ext B0.out (fun k => k ≠ g)).trans hx)
  clear hr hx HC HR0
  go_wp2_with fail
  go_loopw [2, 7] (fun v2 v6 wr => ∃ k : Nat, k ≤ n ∧ v6 = .int .i64 k ∧ Own kCrt 47 (fun k => w.heap.size + 1 ≤ k) wr (w.heap.size + 1) v2 (rManyC k S).1 ∧ Rd (fun k => ok k ∧ k < w.heap.size) g wr (rManyC k S).2.1 (rManyC k S).2.2 ∧ Ext (fun k => k ≠ g) w wr ∧ wr.heap[w.heap.size]? = some (.cells #[.pointer (some ⟨g, 0, none⟩)] 64 (0, 0))) (fun _ v6 _ => n - (intOf v6).toNat)
  case atStart => exact ⟨0, Nat.zero_le _, rfl, Own.nil _ _ _ _ _, HR.out, HX.out, H0.out⟩
  case round =>
    obtain ⟨k, hk, rfl, ho, hr, hx, h0⟩ := hrel
    by_cases hlt : k < n
    · have p0 : wr.cell? ⟨w.heap.size, 0, none⟩ = some (.pointer (some ⟨g, 0, none⟩)) := cell_of h0 0
      have hzr := lt_of_heap h0
      have HO := Lib.hid ho
      have HR := Lib.hid hr
      have HX := Lib.hid hx
      clear ho hr hx
      go_wp2_with fail
      refine (envr_c (ok := fun k => ok k ∧ k < w.heap.size) g (rManyC k S).2 HR.out).mono ?_
      rintro e w2 ⟨cs, rfl, hE, hr2, hx2⟩
      obtain ⟨B, d, rfl, hB⟩ := env_open hE
      have p2 : w2.cell? ⟨w.heap.size, 0, none⟩ = some (.pointer (some ⟨g, 0, none⟩)) := cell_of ((hx2.block w.heap.size hzr (by omega)).trans h0) 0
      have hz2 : w.heap.size < w2.heap.size := by have := hx2.size; omega
      have B1 := Lib.hid (show Below w2.heap.size w2 (w2.alloc (.cells #[.int .i64 (rEnv (rManyC k S).2).1.signer, .slice B (rEnv (rManyC k S).2).1.body.length d, .slice none 0 0] 47)) from (Below.refl _ _).alloc (Nat.le_refl _) _)
      have HC2 := Lib.hid (listr_c (ok := fun k => ok k ∧ k < w.heap.size) g (rEnv (rManyC k S).2).2 (hr2.below B1.out))
      have HBd := Lib.hid hB.bound
      have HX2 := Lib.hid (HX.out.trans hx2)
      have HO2 := Lib.hid (HO.out.ext_ne (by omega) hx2).bound
      have HB2 := Lib.hid (show ∀ k, u2.ownBlock = some k → w.heap.size + 1 ≤ k ∧ k < wr.heap.size from fun k hk => HO.out.lt k hk)
      have H02 := Lib.hid ((hx2.block w.heap.size hzr (by omega)).trans h0)
      have HLen := Lib.hid (rManyC_len k S)
      have hzz := hx2.size
      clear hE hr2 hx2 hB p0 HO HR HX h0
      go_wp2_with fail
      refine HC2.out.mono ?_
      rintro e w3 ⟨v, rfl, ho, hr3, hx3⟩
      have c3 : w3.heap[w2.heap.size]? = some (.cells #[.int .i64 (rEnv (rManyC k S).2).1.signer, .slice B (rEnv (rManyC k S).2).1.body.length d, .slice none 0 0] 47 (0, 0)) := (hx3.block _ (by simp) (by omega)).trans (heap_new _ _)
      have q0 : w3.cell? ⟨w2.heap.size, 0, none⟩ = some (.int .i64 (rEnv (rManyC k S).2).1.signer) := cell_of c3 0
      have q1 : w3.cell? ⟨w2.heap.size, 1, none⟩ = some (.slice B (rEnv (rManyC k S).2).1.body.length d) := cell_of c3 1
      have q2 : w3.cell? ⟨w2.heap.size, 2, none⟩ = some (.slice none 0 0) := cell_of c3 2
      have f2 : w3.frozen? ⟨w2.heap.size, 2, none⟩ = false := free_of c3 2
      have hz3 := lt_of_heap c3
      obtain ⟨Av, nv, cv, rfl, -⟩ := ho.form'
      have HV := Lib.hid (show Sl kEnv (fun k => w2.heap.size + 1 ≤ k) w3 (.slice Av nv cv) (rList (rEnv (rManyC k S).2).2).1 from by
        have := ho.sl (ok := fun b => (w2.alloc (.cells #[.int .i64 (rEnv (rManyC k S).2).1.signer, .slice B (rEnv (rManyC k S).2).1.body.length d, .slice none 0 0] 47)).heap.size ≤ b) (fun _ h => h)
        exact this.weak fun k hk => lt_of_alloc hk)
      have X4 := ext_set (ok := fun k => k ≠ w2.heap.size) (w := w3) (p := ⟨w2.heap.size, 2, none⟩) (fun e => e rfl) (.slice Av nv cv)
      have X24 : Ext (fun k => k < w2.heap.size ∧ k ≠ g) w2 (w3.setCell ⟨w2.heap.size, 2, none⟩ (.slice Av nv cv)) :=
        ((Below.ext B1.out (fun k => k < w2.heap.size ∧ k ≠ g)).trans (hx3.weak fun k _ hk => hk.2)).trans (X4.weak fun k _ hk => by have := hk.1; omega)
      have HC := Lib.hid (show kCrt.R (fun k => wr.heap.size ≤ k) (w3.setCell ⟨w2.heap.size, 2, none⟩ (.slice Av nv cv)) [.int .i64 (rEnv (rManyC k S).2).1.signer, .slice B (rEnv (rManyC k S).2).1.body.length d, .slice Av nv cv] (rCrt (rManyC k S).2).1 from
        crt_mk (e := (rCrt (rManyC k S).2).1) ((HBd.out.ext (X24.weak fun k _ hk => ⟨hk.2, by have := hk.1; omega⟩)).weak fun k hk => hk.1) ((HV.out.ext (X4.weak fun k _ hk => by have : w2.heap.size + 1 ≤ k := hk; omega)).weak fun k hk => by have : w2.heap.size + 1 ≤ k := hk; omega))
      have HO4 := Lib.hid ((HO2.out.ext (X24.weak fun k _ hk => by
        rcases hk with hk | hk
        · have := hk.1; have := hk.2; exact ⟨by omega, by omega⟩
        · have := HB2.out k hk.symm; exact ⟨by omega, by omega⟩)).weak (ok' := fun k => w.heap.size + 1 ≤ k) fun k hk => hk.1)
      have HR4 := Lib.hid (hr3.ext (ext_set (ok := fun k => (ok k ∧ k < w.heap.size) ∨ k = g) (fun e => by rcases e with e | e; have := e.2; simp at this; omega; simp at e; omega) (.slice Av nv cv) : Ext _ w3 (w3.setCell ⟨w2.heap.size, 2, none⟩ (.slice Av nv cv))))
      have HX4 := Lib.hid (ext_set_new ((HX2.out.trans (Below.ext B1.out _)).trans hx3) (show w.heap.size ≤ w2.heap.size by omega) 2 (.slice Av nv cv))
      have H04 := Lib.hid ((X24.block w.heap.size hz2 ⟨hz2, by omega⟩).trans H02.out)
      have hz4 := X24.size
      have d3 := heap_set c3 2 (.slice Av nv cv)
      clear ho hr3 hx3 c3 HV X4 X24 HBd HO2 HX2 H02 HC2 B1
      go_wp2_with (at_builtin; refine at_append rfl (.tmp 15) (.tmp 17) 28 28 rfl rfl rfl (append_fresh_at (by simp) Try.underlying28 Try.underlying28 infoCrt rfl HO4.out (by omega) HC.out (by omega) (fun k hk => (HB2.out k hk).2) (by rw [HLen.out]; omega) (by rw [HLen.out]; omega)) ?_; rintro v' w' ⟨ho, hgr⟩; have HO5 := Lib.hid ho; have HG := Lib.hid hgr; clear ho hgr)
      go_roundw
      case rel =>
        have hxx : Ext (fun b => (ok b ∧ b < w.heap.size) ∨ b = g) (w3.setCell ⟨w2.heap.size, 2, none⟩ (.slice Av nv cv)) w' := ext_grown HG.out fun q hq hk => by
          have := HB2.out q hq
          rcases hk with hk | hk
          · have := hk.2; omega
          · omega
        have hxy : Ext (fun b => b ≠ g) w w' := ext_grown_new HX4.out HG.out fun q hq => by have := HB2.out q hq; omega
        exact ⟨k + 1, by omega, by go_num, HO5.out, HR4.out.ext hxx, hxy, (HG.out.block _ (by omega) (fun e => by have := HB2.out _ e.symm; omega)).trans H04.out⟩
      case measure => simp [intOf]; omega
    · have hkn : k = n := by omega
      subst hkn
      have HO := Lib.hid ho
      have HR := Lib.hid hr
      have HX := Lib.hid hx
      clear ho hr hx h0
      go_wp2_with fail
      go_ret
      rw [E.out]
      exact ⟨_, rfl, (HO.out.lower (by omega)).weak fun k hk => by omega, HR.out.weak fun k hk => hk.1, HX.out⟩
end
end Go.Proofs.Ytplpmhlakiikgaa
