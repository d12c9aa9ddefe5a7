/- Package expr, walked: an expression read. -/
import Derived.Test.YtijlamajcdekkaaV2
import Derived.Test.YtijlamajcdekkaaE12
import Derived.Test.YtijlamajcdekkaaMC
namespace Go.Proofs.Ytijlamajcdekkaa
open Go.RowKit
set_option linter.unusedVariables false
set_option linter.unusedSimpArgs false
/-- a fresh thing is put behind a row that the call owns -/
theorem append_fresh {P : Program} {α : Type} {d : Kd α} {e t tx ty : TypeId} {w : World} {base b0 : Nat} {v : Value} {xs : List α} {z : Value} {bytes : Nat} (ht : P.underlying t = some (.slice e)) (htx : P.underlying tx = some (.slice e)) (hi : (P.info? e).map (fun i => (i.zero, i.size, i.bytes)) = some (some z, d.sz, bytes)) (hzs : z.cells.size = d.sz)
    (h : Own d e (fun k => base ≤ k) w base v xs) (hbase : base ≤ w.heap.size) {c : List Value} {x : α} (hr : d.R (fun k => b0 ≤ k) w c x) (hb0 : base ≤ b0) (hv : ∀ k, v.ownBlock = some k → k < b0) (hb : (xs.length + 1) * bytes ≤ 140737488355328) (hm : xs.length + 1 ≤ 140737488355328) :
    ∃ v' w', (Builtin.append_ #[t, tx] ty #[v, .slice (some ⟨w.heap.size, 0, none⟩) 1 1]).run P (w.alloc (.cells c.toArray e)) = .ok v' w' ∧ (Own d e (fun k => base ≤ k) w' base v' (xs ++ [x]) ∧ w.grownBy w' v.ownBlock) := by
  obtain ⟨i0, hi0, hz0, hz1, hz2⟩ := info_parts hi
  obtain ⟨v', w', a, b, c, _⟩ := run_append_own1 (ty := ty) (P := P) ht htx hi0 hz0 hz1 hz2 hzs h hbase (d.weak hr fun k hk => ⟨Nat.le_trans hb0 hk, fun e => by have := hv k e.symm; omega⟩) hb hm
  exact ⟨v', w', a, b, c⟩
/-- so many parts read, one by one, till one errs -/
def gI (f : Int → RS → Except Int (Exp × Int × RS)) (N : Int) (s : RS) : Nat → Except Int (List Exp × Int × RS)
  | 0 => .ok ([], N, s)
  | i + 1 => match gI f N s i with
    | .error x => .error x
    | .ok p => match f p.2.1 p.2.2 with
      | .error x => .error x
      | .ok q => .ok (p.1 ++ [q.1], q.2.1, q.2.2)
def gTail (f : Int → RS → Except Int (Exp × Int × RS)) (N : Int) (o : Int) (n : Nat) (b : List UInt8 × RS) : Except Int (Exp × Int × RS) :=
  if b.2.2 ≠ 0 then .error b.2.2 else match vX b.2 with
    | .error x => .error x
    | .ok p => match gI f (N - 1) p.2 n with
      | .error x => .error x
      | .ok q => .ok (.mk o q.1 b.1 p.1, q.2.1, q.2.2)
def gX : Nat → Int → RS → Except Int (Exp × Int × RS)
  | 0, _, _ => .error 51
  | d + 1, N, s => if N ≤ 0 then .error 51 else gTail (gX d) N (rInt s).1 (rCount 3 (rInt s).2).1 (rBytes 16 (rCount 3 (rInt s).2).2)
theorem rCount_le (s : RS) : (rCount 3 s).1 ≤ 3 := by
  unfold rCount
  split
  · simp
  · split
    · simp
    · split
      · simp
      · rename_i h
        show num (s.1.take 4) ≤ 3
        omega
theorem gX_le : ∀ (d : Nat) {N : Int} {s : RS} {q : Exp × Int × RS}, gX d N s = .ok q → q.2.1 ≤ N
  | 0, _, _, _, h => by cases h
  | d + 1, N, s, q, h => by
    rw [gX] at h
    by_cases hN : N ≤ 0
    · rw [if_pos hN] at h; cases h
    rw [if_neg hN] at h
    unfold gTail at h
    split at h
    · cases h
    split at h
    · cases h
    rename_i p hp
    have key : ∀ (i : Nat) (p' : List Exp × Int × RS), gI (gX d) (N - 1) p.2 i = .ok p' → p'.2.1 ≤ N - 1 := by
      intro i
      induction i with
      | zero => intro p' h; injection h with h; subst h; exact Int.le_refl _
      | succ i ih =>
        intro p' h
        rw [gI] at h
        split at h
        · cases h
        · rename_i p1 h1
          have h2 := ih p1 h1
          split at h
          · cases h
          · rename_i q1 h3
            have h4 := gX_le d h3
            injection h with h
            subst h
            show q1.2.1 ≤ _
            omega
    split at h
    · cases h
    · rename_i p1 h1
      have h2 := key _ _ h1
      injection h with h
      subst h
      show p1.2.1 ≤ _
      omega
theorem gI_le {d : Nat} {N : Int} {s : RS} : ∀ {i : Nat} {p : List Exp × Int × RS}, gI (gX d) N s i = .ok p → p.2.1 ≤ N
  | 0, p, h => by injection h with h; subst h; exact Int.le_refl _
  | i + 1, p, h => by
    rw [gI] at h
    split at h
    · cases h
    · rename_i p1 h1
      have h2 := gI_le h1
      split at h
      · cases h
      · rename_i q1 h3
        have h4 := gX_le d h3
        injection h with h
        subst h
        show q1.2.1 ≤ _
        omega
theorem gI_len {f : Int → RS → Except Int (Exp × Int × RS)} {N : Int} {s : RS} : ∀ {i : Nat} {p : List Exp × Int × RS}, gI f N s i = .ok p → p.1.length = i
  | 0, p, h => by injection h with h; subst h; rfl
  | i + 1, p, h => by
    rw [gI] at h
    split at h
    · cases h
    · rename_i p1 h1
      have h2 := gI_len h1
      split at h
      · cases h
      · injection h with h
        subst h
        show (p1.1 ++ [_]).length = _
        rw [List.length_append, h2]; rfl
theorem infoExp (d : Nat) : (Try.prog.info? 27).map (fun i => (i.zero, i.size, i.bytes)) = some (some (.agg #[.int .i64 0, .slice none 0 0, .string ⟨#[]⟩, .int .i64 0, .int .i64 0, .bool false, .string ⟨#[]⟩, .float .f64 0]), (kExp d).sz, 96) := by rw [kExp_sz]; kernel_rfl
theorem gI_stop {f : Int → RS → Except Int (Exp × Int × RS)} {N : Int} {s : RS} {x : Int} {i : Nat} (h : gI f N s i = .error x) : ∀ n, i ≤ n → gI f N s n = .error x := fun n hn => by
  induction hn with
  | refl => exact h
  | step _ ih => rw [gI, ih]
section
/-- what stays as get goes on -/
structure GJ (ok : Nat → Prop) (w : World) (b g : Nat) (N : Int) (s : RS) (W : World) : Prop where
  rd : Rd (fun k => ok k ∧ k < w.heap.size) g W s.1 s.2
  src : Loc1 b 85 #[.pointer (some ⟨g, 0, none⟩), .int .i64 N] W
  res : Loc1 w.heap.size 27 #[.int .i64 0, .slice none 0 0, .string ⟨#[]⟩, .int .i64 0, .int .i64 0, .bool false, .string ⟨#[]⟩, .float .f64 0] W
  ext : Ext (fun k => k ≠ g ∧ k ≠ b) w W
variable {ok : Nat → Prop} {w W W' : World} {b g : Nat} {N : Int} {s s' : RS}
theorem GJ.lt (h : GJ ok w b g N s W) : w.heap.size < W.heap.size := lt_of_heap h.res
theorem GJ.below (h : GJ ok w b g N s W) (hb : Below W.heap.size W W') : GJ ok w b g N s W' := ⟨h.rd.below hb, h.src.below hb, h.res.below hb, h.ext.trans (Below.ext hb _)⟩
theorem GJ.call (h : GJ ok w b g N s W) (hr : Rd (fun k => ok k ∧ k < w.heap.size) g W' s'.1 s'.2) (hx : Ext (fun k => k ≠ g) W W') (hbg : b ≠ g) (hg : g < w.heap.size) : GJ ok w b g N s' W' :=
  ⟨hr, loc_ext hx hbg h.src, loc_ext hx (by omega) h.res, h.ext.trans (hx.weak fun k _ hk => hk.1)⟩
theorem GJ.set (h : GJ ok w b g N s W) {E i : Nat} {v : Value} (hE : w.heap.size < E) (hb : b < w.heap.size) (hg : g < w.heap.size) : GJ ok w b g N s (W.setCell ⟨E, i, none⟩ v) :=
  ⟨rd_off h.rd (ext_set_ne (Ext.refl (fun k => k ≠ E) W) i v) ⟨by omega, fun k hk => by have := hk.2; omega⟩, h.src.st (by omega), h.res.st (by omega), ⟨h.ext.os, h.ext.tape, h.ext.output, by rw [World.size_setCell]; exact h.ext.size, fun k hk ho => (Below.heap_setCell _ _ _ _ (by show k ≠ E; omega)).trans (h.ext.block k hk ho)⟩⟩
theorem GJ.grown (h : GJ ok w b g N s W) {B : Nat} (x : Ext (fun k => k < B) W W') (hB : w.heap.size < B ∧ b < w.heap.size ∧ g < w.heap.size) : GJ ok w b g N s W' := by
  obtain ⟨A, c, hh, hs, hl⟩ := h.rd
  have hsz := h.ext.size
  exact ⟨⟨A, c, (x.block g (lt_of_heap hh) (by show g < B; omega)).trans hh, hs.ext (x.weak fun k _ hk => by have := hk.1.2; show k < B; omega), hl⟩, (x.block b (lt_of_heap h.src) (by show b < B; omega)).trans h.src, (x.block _ (lt_of_heap h.res) hB.1).trans h.res,
    ⟨x.os.trans h.ext.os, x.tape.trans h.ext.tape, x.output.trans h.ext.output, Nat.le_trans hsz x.size, fun k hk ho => (x.block k (Nat.lt_of_lt_of_le hk hsz) (by show k < B; omega)).trans (h.ext.block k hk ho)⟩⟩
theorem ext_set_keep {ok : Nat → Prop} {w : World} {b i : Nat} {v : Value} (h : ∀ k, ok k → k ≠ b) : Ext ok w (w.setCell ⟨b, i, none⟩ v) := ext_set (fun e => h _ e rfl) v
def RetXp (ok : Nat → Prop) (b g : Nat) (w : World) (d : Nat) (r : Except Int (Exp × Int × RS)) (e : Ending) (w' : World) : Prop :=
  (match r with
    | .ok p => ∃ cs : List Value, e = .returned (.agg cs.toArray) ∧ (kExp d).R (fun k => w.heap.size ≤ k) w' cs p.1 ∧ Rd ok g w' p.2.2.1 p.2.2.2 ∧ Loc1 b 85 #[.pointer (some ⟨g, 0, none⟩), .int .i64 p.2.1] w'
    | .error x => Bad x e) ∧ Ext (fun k => k ≠ g ∧ k ≠ b) w w'
/-- the loop over the parts -/
def LX (ok : Nat → Prop) (w : World) (b g d n : Nat) (N : Int) (s4 : RS) (eb : Nat) (o : Int) (nm : List UInt8) (v : Val) (B : Nat) (v58 : Value) (wz : World) : Prop :=
  ∃ (i : Nat) (l : List Exp) (M : Int) (s5 : RS) (kv : Value), i ≤ n ∧ v58 = .int .i64 i ∧ gI (gX d) N s4 i = .ok (l, M, s5) ∧ GJ ok w b g M s5 wz ∧ Loc1 eb 27 #[.int .i64 o, kv, .string ⟨nm.toArray⟩, .int .i64 v.kind, .int .i64 v.int, .bool v.bool, .string ⟨v.text.toArray⟩, .float .f64 v.num] wz ∧ Own (kExp d) 27 (fun k => B ≤ k) wz B kv l ∧ B ≤ wz.heap.size
abbrev GetX (d : Nat) : Prop := ∀ (ok : Nat → Prop) (w : World) (b g : Nat) (N : Int) (s : RS), Rd ok g w s.1 s.2 → Loc1 b 85 #[.pointer (some ⟨g, 0, none⟩), .int .i64 N] w → b ≠ g → (∀ k, ok k → k ≠ b) → N ≤ 24 →
  Calls Try.prog 42 #[.pointer (some ⟨b, 0, none⟩), .int .i64 (d : Int)] w (RetXp ok b g w d (gX d N s))
end
set_option maxRecDepth 20000 in
set_option maxHeartbeats 20000000 in
theorem getX_s {d : Nat} (hd : d ≤ 6) (ih : ∀ d', d = d' + 1 → GetX d') : GetX d := by
  intro ok w b g N s h hS hbg hok hN
  have SF := store_f64
  have IH := Lib.hid ih
  have hgw := h.lt
  have hbw := lt_of_heap hS
  have J0 : GJ ok w b g N s (w.alloc (.cells #[.int .i64 0, .slice none 0 0, .string ⟨#[]⟩, .int .i64 0, .int .i64 0, .bool false, .string ⟨#[]⟩, .float .f64 0] 27)) := ⟨h.bound.al _, hS.al _, Loc1.new _ _ _, ext_alloc _ _ _⟩
  have hz0 : (w.alloc (.cells #[.int .i64 0, .slice none 0 0, .string ⟨#[]⟩, .int .i64 0, .int .i64 0, .bool false, .string ⟨#[]⟩, .float .f64 0] 27)).heap.size = w.heap.size + 1 := by simp
  clear h hS
  cases d with
  | zero =>
    go_enter Try.func42, Try.ntmps42
    go_upto_region 1 with (fail)
    generalize (w.alloc (.cells #[.int .i64 0, .slice none 0 0, .string ⟨#[]⟩, .int .i64 0, .int .i64 0, .bool false, .string ⟨#[]⟩, .float .f64 0] 27)) = w0 at *
    go_wp2_with fail
    refine (must_no 51).mono ?_
    rintro x9 w9 ⟨hbd, rfl⟩
    have hbd : x9 = .panicked [{ v := .iface 89 (.int .i64 51), recovered := false }] := hbd
    subst hbd
    go_wp2_with fail
    exact ⟨rfl, rfl, J0.ext⟩
  | succ d =>
  have E := Lib.hid (show gX (d + 1) N s = if N ≤ 0 then .error 51 else gTail (gX d) N (rInt s).1 (rCount 3 (rInt s).2).1 (rBytes 16 (rCount 3 (rInt s).2).2) from rfl)
  generalize gX (d + 1) N s = r at *
  have hd1 : (0 : Int) < ((d + 1 : Nat) : Int) := by omega
  have hd2 : ((d + 1 : Nat) : Int) ≤ 6 := by omega
  have j1 := cell_of J0.src 1
  have j0 := cell_of J0.src 0
  simp only [List.getElem?_toArray, List.getElem?_cons_zero, List.getElem?_cons_succ] at j0 j1
  by_cases hN0 : N ≤ 0
  · have hN1 : ¬ (0 : Int) < N := by omega
    have E1 := Lib.hid (show r = .error 51 by rw [E.out, if_pos hN0])
    clear hN0
    go_enter Try.func42, Try.ntmps42
    go_upto_region 1 with (fail)
    generalize (w.alloc (.cells #[.int .i64 0, .slice none 0 0, .string ⟨#[]⟩, .int .i64 0, .int .i64 0, .bool false, .string ⟨#[]⟩, .float .f64 0] 27)) = w0 at *
    go_wp2_with fail
    refine (must_no 51).mono ?_
    rintro x9 w9 ⟨hbd, rfl⟩
    have hbd : x9 = .panicked [{ v := .iface 89 (.int .i64 51), recovered := false }] := hbd
    subst hbd
    go_wp2_with fail
    rw [E1.out]
    exact ⟨rfl, rfl, J0.ext⟩
  have hN1 : (0 : Int) < N := by omega
  replace E := Lib.hid (show r = gTail (gX d) N (rInt s).1 (rCount 3 (rInt s).2).1 (rBytes 16 (rCount 3 (rInt s).2).2) by rw [E.out, if_neg hN0])
  have f1 := free_of J0.src 1
  clear hN0
  go_enter Try.func42, Try.ntmps42
  go_upto_region 1 with (fail)
  generalize (w.alloc (.cells #[.int .i64 0, .slice none 0 0, .string ⟨#[]⟩, .int .i64 0, .int .i64 0, .bool false, .string ⟨#[]⟩, .float .f64 0] 27)) = w0 at *
  go_wp2_with fail
  refine (must_ok 51).mono ?_
  rintro x9 w9 ⟨rfl, rfl⟩
  go_upto_region 3 with (fail)
  have J1 : GJ ok w b g (N - 1) s (w0.setCell ⟨b, 1, none⟩ (.int .i64 (N - 1))) :=
    ⟨rd_off J0.rd (ext_set_ne (Ext.refl (fun k => k ≠ b) w0) 1 _) ⟨fun e => hbg e.symm, fun k hk => hok k hk.1⟩, (by have := heap_set J0.src 1 (.int .i64 (N - 1)); unfold Loc1; simpa using this), J0.res.st (by omega), J0.ext.trans (ext_set (fun e => e.2 rfl) _)⟩
  have hz1 : (w0.setCell ⟨b, 1, none⟩ (.int .i64 (N - 1))).heap.size = w.heap.size + 1 := by rw [World.size_setCell, hz0]
  clear j0 j1 f1 J0
  generalize (w0.setCell ⟨b, 1, none⟩ (.int .i64 (N - 1))) = w1 at *
  have j0 := cell_of J1.src 0
  simp only [List.getElem?_toArray, List.getElem?_cons_zero, List.getElem?_cons_succ] at j0
  have C1 := Lib.hid (int_c g s J1.rd)
  generalize rInt s = p1 at *
  obtain ⟨o, s1⟩ := p1
  replace E := Lib.hid (show r = gTail (gX d) N o (rCount 3 s1).1 (rBytes 16 (rCount 3 s1).2) from E.out)
  replace C1 := Lib.hid (show Calls Try.prog 61 #[.pointer (some ⟨g, 0, none⟩)] w1 (Rv (fun k => ok k ∧ k < w.heap.size) g w1 (.int .i64 o) s1) from C1.out)
  go_wp2_with fail
  refine C1.out.mono ?_
  rintro x9 w2 ⟨rfl, hr2, hx2⟩
  have J2 := J1.call hr2 hx2 hbg hgw
  have hs2 := hx2.size
  clear j0 hr2 hx2 C1 J1
  go_upto_region 4 with (fail)
  have LE : Loc1 w2.heap.size 27 #[.int .i64 o, .slice none 0 0, .string ⟨#[]⟩, .int .i64 0, .int .i64 0, .bool false, .string ⟨#[]⟩, .float .f64 0] (w2.alloc (.cells #[.int .i64 o, .slice none 0 0, .string ⟨#[]⟩, .int .i64 0, .int .i64 0, .bool false, .string ⟨#[]⟩, .float .f64 0] 27)) := Loc1.new _ _ _
  have J3 := J2.below (show Below w2.heap.size w2 (w2.alloc (.cells #[.int .i64 o, .slice none 0 0, .string ⟨#[]⟩, .int .i64 0, .int .i64 0, .bool false, .string ⟨#[]⟩, .float .f64 0] 27)) from bW)
  have hs3 : (w2.alloc (.cells #[.int .i64 o, .slice none 0 0, .string ⟨#[]⟩, .int .i64 0, .int .i64 0, .bool false, .string ⟨#[]⟩, .float .f64 0] 27)).heap.size = w2.heap.size + 1 := by simp
  clear J2
  generalize (w2.alloc (.cells #[.int .i64 o, .slice none 0 0, .string ⟨#[]⟩, .int .i64 0, .int .i64 0, .bool false, .string ⟨#[]⟩, .float .f64 0] 27)) = w3 at *
  have hE : w.heap.size < w2.heap.size := by omega
  generalize w2.heap.size = eb at *
  have j0 := cell_of J3.src 0
  simp only [List.getElem?_toArray, List.getElem?_cons_zero, List.getElem?_cons_succ] at j0
  have C1 := Lib.hid (count_c g 3 s1 J3.rd)
  have hlt := rCount_lt 3 s1
  have hle : (rCount 3 s1).1 ≤ 3 := rCount_le s1
  generalize rCount 3 s1 = p1 at *
  obtain ⟨n, s2⟩ := p1
  replace E := Lib.hid (show r = gTail (gX d) N o n (rBytes 16 s2) from E.out)
  replace C1 := Lib.hid (show Calls Try.prog 62 #[.pointer (some ⟨g, 0, none⟩), .int .i64 3] w3 (Rv (fun k => ok k ∧ k < w.heap.size) g w3 (.int .i64 (n : Int)) s2) from C1.out)
  simp only at hle
  go_wp2_with fail
  refine C1.out.mono ?_
  rintro x9 w4 ⟨rfl, hr4, hx4⟩
  have J4 := J3.call hr4 hx4 hbg hgw
  have LE4 := loc_ext hx4 (by omega) LE
  have hs4 := hx4.size
  clear j0 hr4 hx4 C1 J3 LE hlt
  have j0 := cell_of J4.src 0
  simp only [List.getElem?_toArray, List.getElem?_cons_zero, List.getElem?_cons_succ] at j0
  have C1 := Lib.hid (bytes_c g 16 s2 J4.rd)
  generalize rBytes 16 s2 = p1 at *
  obtain ⟨nm, s3⟩ := p1
  replace C1 := Lib.hid (show Calls Try.prog 63 #[.pointer (some ⟨g, 0, none⟩), .int .i64 16] w4 (fun e w' => ∃ v, e = .returned v ∧ Own kU8 5 (fun k => ok k ∧ k < w.heap.size) w' w4.heap.size v nm ∧ Rd (fun k => ok k ∧ k < w.heap.size) g w' s3.1 s3.2 ∧ Ext (fun k => k ≠ g) w4 w') from C1.out)
  go_wp2_with fail
  refine C1.out.mono ?_
  rintro x9 w5 ⟨v5, rfl, ho5, hr5, hx5⟩
  obtain ⟨Av, nv, cv, rfl, -⟩ := ho5.form'
  have CV := conv_vs (P := Try.prog) ((ho5.weak (ok' := fun _ => True) fun _ _ => trivial).sl fun _ _ => trivial) 52 9 5 Try.underlying52 Try.underlying5 Try.underlying9
  have J5 := J4.call hr5 hx5 hbg hgw
  have LE5 := loc_ext hx5 (by omega) LE4
  have hs5 := hx5.size
  clear j0 hr5 hx5 C1 J4 LE4 ho5
  obtain ⟨m0, m1, m2, m3, m4, m5, m6, m7⟩ := cells8 LE5
  have u2 := free_of LE5 2
  have hz := lt_of_heap LE5
  go_upto_region 6 with (fail)
  have J6 := J5.set (i := 2) (v := .string ⟨nm.toArray⟩) hE hbw hgw
  have LE6 : Loc1 eb 27 #[.int .i64 o, .slice none 0 0, .string ⟨nm.toArray⟩, .int .i64 0, .int .i64 0, .bool false, .string ⟨#[]⟩, .float .f64 0] (w5.setCell ⟨eb, 2, none⟩ (.string ⟨nm.toArray⟩)) := by have := heap_set LE5 2 (.string ⟨nm.toArray⟩); unfold Loc1; simpa using this
  have hs6 : (w5.setCell ⟨eb, 2, none⟩ (.string ⟨nm.toArray⟩)).heap.size = w5.heap.size := World.size_setCell _ _ _
  clear m0 m1 m2 m3 m4 m5 m6 m7 u2 hz J5 LE5 CV
  generalize (w5.setCell ⟨eb, 2, none⟩ (.string ⟨nm.toArray⟩)) = w6 at *
  have KB := Lib.hid (show ∀ W : World, Below w6.heap.size w6 W → W.cell? ⟨b, 0, none⟩ = some (.pointer (some ⟨g, 0, none⟩)) from fun W hW => by have j0 := cell_of (J6.src.below hW) 0; simpa using j0)
  by_cases he : s3.2 = 0
  rotate_left
  · have he1 : (s3.2 == 0) = false := by simpa using he
    have E1 := Lib.hid (show r = .error s3.2 by rw [E.out]; unfold gTail; rw [if_pos he])
    clear he
    refine wp_region_held_drew (S := fun W => W.cell? ⟨b, 0, none⟩ = some (.pointer (some ⟨g, 0, none⟩))) (by kernel_rfl) (KB.out _ bW) (fun hHeld => ?_)
    refine wpAnyH_take (i := 0) (oi := { dst := some 42, op := Op.move (Operand.tmp 0), type := 83, pos := "expr.go:226", after := #[], guard := none }) (v := .pointer (some ⟨b, 0, none⟩)) rfl (by kernel_rfl) (by kernel_rfl) (by kernel_rfl) (fun _ _ _ h => h) (Or.inl ⟨by rfl, by (intro wz hSw; (try dsimp only at hSw); go_simp)⟩) (by assumption) ?_
    try simp only [Act.put, List.setIfInBounds_toArray, List.set_cons_zero, List.set_cons_succ]
    refine wpAnyH_take (i := 1) (oi := { dst := some 43, op := Op.nilCheck (Operand.tmp 42), type := 0, pos := "expr.go:226", after := #[{ on := 0, ground := Ground.data }], guard := none }) (v := .pointer (some ⟨b, 0, none⟩)) rfl (by kernel_rfl) (by kernel_rfl) (by kernel_rfl) (fun _ _ _ h => h) (Or.inl ⟨by rfl, by (intro wz hSw; (try dsimp only at hSw); go_simp)⟩) (by assumption) ?_
    try simp only [Act.put, List.setIfInBounds_toArray, List.set_cons_zero, List.set_cons_succ]
    refine wpAnyH_take (i := 2) (oi := { dst := some 44, op := Op.fieldAddr 85 (Operand.tmp 43) 0, type := 0, pos := "expr.go:226", after := #[{ on := 1, ground := Ground.data }], guard := none }) (v := .pointer (some ⟨b, 0, none⟩)) rfl (by kernel_rfl) (by kernel_rfl) (by kernel_rfl) (fun _ _ _ h => h) (Or.inl ⟨by rfl, by (intro wz hSw; (try dsimp only at hSw); go_simp)⟩) (by assumption) ?_
    try simp only [Act.put, List.setIfInBounds_toArray, List.set_cons_zero, List.set_cons_succ]
    refine wpAnyH_take (i := 3) (oi := { dst := some 45, op := Op.load 53 (Operand.tmp 44), type := 53, pos := "expr.go:226", after := #[{ on := 2, ground := Ground.data }], guard := none }) (v := .pointer (some ⟨g, 0, none⟩)) rfl (by kernel_rfl) (by kernel_rfl) (by kernel_rfl) (fun _ _ _ h => h) (Or.inl ⟨by rfl, by (intro wz hSw; (try dsimp only at hSw); go_simp)⟩) (by assumption) ?_
    try simp only [Act.put, List.setIfInBounds_toArray, List.set_cons_zero, List.set_cons_succ]
    refine wpAnyH_take (i := 6) (oi := { dst := some 48, op := Op.move (Operand.tmp 0), type := 83, pos := "expr.go:226", after := #[], guard := none }) (v := .pointer (some ⟨b, 0, none⟩)) rfl (by kernel_rfl) (by kernel_rfl) (by kernel_rfl) (fun _ _ _ h => h) (Or.inl ⟨by rfl, by (intro wz hSw; (try dsimp only at hSw); go_simp)⟩) (by assumption) ?_
    try simp only [Act.put, List.setIfInBounds_toArray, List.set_cons_zero, List.set_cons_succ]
    refine wpAnyH_take (i := 7) (oi := { dst := some 49, op := Op.nilCheck (Operand.tmp 48), type := 0, pos := "expr.go:226", after := #[{ on := 6, ground := Ground.data }], guard := none }) (v := .pointer (some ⟨b, 0, none⟩)) rfl (by kernel_rfl) (by kernel_rfl) (by kernel_rfl) (fun _ _ _ h => h) (Or.inl ⟨by rfl, by (intro wz hSw; (try dsimp only at hSw); go_simp)⟩) (by assumption) ?_
    try simp only [Act.put, List.setIfInBounds_toArray, List.set_cons_zero, List.set_cons_succ]
    refine wpAnyH_take (i := 8) (oi := { dst := some 50, op := Op.fieldAddr 85 (Operand.tmp 49) 0, type := 0, pos := "expr.go:226", after := #[{ on := 7, ground := Ground.data }], guard := none }) (v := .pointer (some ⟨b, 0, none⟩)) rfl (by kernel_rfl) (by kernel_rfl) (by kernel_rfl) (fun _ _ _ h => h) (Or.inl ⟨by rfl, by (intro wz hSw; (try dsimp only at hSw); go_simp)⟩) (by assumption) ?_
    try simp only [Act.put, List.setIfInBounds_toArray, List.set_cons_zero, List.set_cons_succ]
    refine wpAnyH_take (i := 9) (oi := { dst := some 51, op := Op.load 53 (Operand.tmp 50), type := 53, pos := "expr.go:226", after := #[{ on := 8, ground := Ground.data }], guard := none }) (v := .pointer (some ⟨g, 0, none⟩)) rfl (by kernel_rfl) (by kernel_rfl) (by kernel_rfl) (fun _ _ _ h => h) (Or.inl ⟨by rfl, by (intro wz hSw; (try dsimp only at hSw); go_simp)⟩) (by assumption) ?_
    try simp only [Act.put, List.setIfInBounds_toArray, List.set_cons_zero, List.set_cons_succ]
    refine wpAnyH_ready (rs := [4]) (by kernel_rfl) (by simp) ?_
    refine AllReadyH.cons (o := { dst := some 46, op := Op.call { callee := Callee.value (Operand.func 41), args := #[Operand.tmp 45], argTypes := #[53] }, type := 33, pos := "expr.go:226", after := #[{ on := 3, ground := Ground.data }], guard := none }) rfl (fun K hK => ?_) AllReadyH.nil
    go_simp
    refine (err_c g s3 (J6.rd.below bW)).mono ?_
    rintro x9 w9 ⟨rfl, rfl⟩
    refine hK.out _ _ (KB.out _ bW) (fun hHeld => ?_)
    clear hK K
    try simp only [Act.put, List.setIfInBounds_toArray, List.set_cons_zero, List.set_cons_succ]
    refine wpAnyH_take (i := 5) (oi := { dst := some 47, op := Op.binOp BinOp.eql 33 (Operand.tmp 46) (Operand.const (Value.int IntKind.i64 0)) 33, type := 4, pos := "expr.go:226", after := #[{ on := 4, ground := Ground.data }], guard := none }) (v := .bool false) rfl (by kernel_rfl) (by kernel_rfl) (by kernel_rfl) (fun _ _ _ h => h) (Or.inl ⟨by rfl, by (intro wz hSw; (try dsimp only at hSw); go_simp)⟩) (by assumption) ?_
    try simp only [Act.put, List.setIfInBounds_toArray, List.set_cons_zero, List.set_cons_succ]
    refine wpAnyH_ready (rs := [10]) (by kernel_rfl) (by simp) ?_
    refine AllReadyH.cons (o := { dst := some 52, op := Op.call { callee := Callee.value (Operand.func 41), args := #[Operand.tmp 51], argTypes := #[53] }, type := 33, pos := "expr.go:226", after := #[{ on := 9, ground := Ground.data }, { on := 4, ground := Ground.chain }], guard := none }) rfl (fun K hK => ?_) AllReadyH.nil
    go_simp
    refine (err_c g s3 (J6.rd.below bW)).mono ?_
    rintro x9 w9 ⟨rfl, rfl⟩
    refine hK.out _ _ (KB.out _ bW) (fun hHeld => ?_)
    clear hK K
    try simp only [Act.put, List.setIfInBounds_toArray, List.set_cons_zero, List.set_cons_succ]
    refine wpAnyH_ready (rs := [11]) (by kernel_rfl) (by simp) ?_
    refine AllReadyH.cons (o := { dst := some 53, op := Op.call { callee := Callee.value (Operand.func 31), args := #[Operand.tmp 47, Operand.tmp 52], argTypes := #[4, 33] }, type := 0, pos := "expr.go:226", after := #[{ on := 5, ground := Ground.data }, { on := 10, ground := Ground.data }, { on := 10, ground := Ground.chain }], guard := none }) rfl (fun K hK => ?_) AllReadyH.nil
    go_simp
    refine (must_no s3.2).mono ?_
    rintro x9 w9 ⟨hbd, rfl⟩
    have hbd : x9 = .panicked [{ v := .iface 89 (.int .i64 s3.2), recovered := false }] := hbd
    subst hbd
    rw [E1.out]
    exact ⟨rfl, rfl, J6.ext.trans (ext_drew _ _)⟩
  have he1 : (s3.2 == 0) = true := by simpa using he
  replace E := Lib.hid (show r = match vX s3 with
    | .error x => .error x
    | .ok p => match gI (gX d) (N - 1) p.2 n with
      | .error x => .error x
      | .ok q => .ok (.mk o q.1 nm p.1, q.2.1, q.2.2) by rw [E.out]; unfold gTail; rw [if_neg (by simpa using he)])
  clear he
  go_region_held3 (fun W => W.cell? ⟨b, 0, none⟩ = some (.pointer (some ⟨g, 0, none⟩))) (exact KB.out _ bW)
    (first
    | (go_at_call 41; refine (err_c g s3 (J6.rd.below bW)).mono ?_; rintro x9 w9 ⟨rfl, rfl⟩)
    | (go_at_call 31; refine (must_ok _).mono ?_; rintro x9 w9 ⟨rfl, rfl⟩))
  have J7 := J6.below (show Below w6.heap.size w6 w6.drew from bW)
  have LE7 : Loc1 eb 27 #[.int .i64 o, .slice none 0 0, .string ⟨nm.toArray⟩, .int .i64 0, .int .i64 0, .bool false, .string ⟨#[]⟩, .float .f64 0] w6.drew := LE6
  have hs7 : w6.drew.heap.size = w6.heap.size := rfl
  clear J6 LE6 KB
  generalize w6.drew = w7 at *
  have C1 := Lib.hid (val_c b g (N - 1) s3 J7.rd J7.src hbg)
  cases hv : vX s3 with
  | error x =>
    rw [hv] at C1
    have E1 := Lib.hid (show r = .error x by rw [E.out, hv])
    clear hv
    go_wp2_with fail
    refine C1.out.mono ?_
    rintro x9 w8 ⟨hbd, hx8⟩
    have hbd : x9 = .panicked [{ v := .iface 89 (.int .i64 x), recovered := false }] := hbd
    subst hbd
    have hx9 := J7.ext.trans (hx8.weak fun k _ hk => hk.1)
    go_wp2_with fail
    rw [E1.out]
    exact ⟨rfl, rfl, hx9⟩
  | ok p =>
  obtain ⟨v, s4⟩ := p
  rw [hv] at C1
  replace E := Lib.hid (show r = match gI (gX d) (N - 1) s4 n with
      | .error x => .error x
      | .ok q => .ok (.mk o q.1 nm v, q.2.1, q.2.2) by rw [E.out, hv])
  clear hv
  go_wp2_with fail
  refine C1.out.mono ?_
  rintro x9 w8 ⟨⟨rfl, hr8⟩, hx8⟩
  have J8 := J7.call hr8 hx8 hbg hgw
  have LE8 := loc_ext hx8 (by omega) LE7
  have hs8 := hx8.size
  clear hr8 hx8 C1 J7 LE7
  obtain ⟨m0, m1, m2, m3, m4, m5, m6, m7⟩ := cells8 LE8
  have u3 := free_of LE8 3
  have u4 := free_of LE8 4
  have u5 := free_of LE8 5
  have u6 := free_of LE8 6
  have u7 := free_of LE8 7
  have hz := lt_of_heap LE8
  go_wp2_with fail
  have J9 := ((((J8.set (i := 3) (v := .int .i64 v.kind) hE hbw hgw).set (i := 4) (v := .int .i64 v.int) hE hbw hgw).set (i := 5) (v := .bool v.bool) hE hbw hgw).set (i := 6) (v := .string ⟨v.text.toArray⟩) hE hbw hgw).set (i := 7) (v := .float .f64 v.num) hE hbw hgw
  have LE9 : Loc1 eb 27 #[.int .i64 o, .slice none 0 0, .string ⟨nm.toArray⟩, .int .i64 v.kind, .int .i64 v.int, .bool v.bool, .string ⟨v.text.toArray⟩, .float .f64 v.num] (((((w8.setCell ⟨eb, 3, none⟩ (.int .i64 v.kind)).setCell ⟨eb, 4, none⟩ (.int .i64 v.int)).setCell ⟨eb, 5, none⟩ (.bool v.bool)).setCell ⟨eb, 6, none⟩ (.string ⟨v.text.toArray⟩)).setCell ⟨eb, 7, none⟩ (.float .f64 v.num)) := by
    have := heap_set (heap_set (heap_set (heap_set (heap_set LE8 3 (.int .i64 v.kind)) 4 (.int .i64 v.int)) 5 (.bool v.bool)) 6 (.string ⟨v.text.toArray⟩)) 7 (.float .f64 v.num)
    unfold Loc1
    simpa using this
  have hs9 : (((((w8.setCell ⟨eb, 3, none⟩ (.int .i64 v.kind)).setCell ⟨eb, 4, none⟩ (.int .i64 v.int)).setCell ⟨eb, 5, none⟩ (.bool v.bool)).setCell ⟨eb, 6, none⟩ (.string ⟨v.text.toArray⟩)).setCell ⟨eb, 7, none⟩ (.float .f64 v.num)).heap.size = w8.heap.size := by simp only [World.size_setCell]
  clear m0 m1 m2 m3 m4 m5 m6 m7 u3 u4 u5 u6 u7 J8 LE8
  generalize (((((w8.setCell ⟨eb, 3, none⟩ (.int .i64 v.kind)).setCell ⟨eb, 4, none⟩ (.int .i64 v.int)).setCell ⟨eb, 5, none⟩ (.bool v.bool)).setCell ⟨eb, 6, none⟩ (.string ⟨v.text.toArray⟩)).setCell ⟨eb, 7, none⟩ (.float .f64 v.num)) = w9 at *
  have hEz := lt_of_heap LE9
  clear hs9
  go_loopw [58] (fun v58 wz => LX ok w b g d n (N - 1) s4 eb o nm v w9.heap.size v58 wz) (fun v58 _ => n - (intOf v58).toNat)
  case atStart => exact ⟨0, [], N - 1, s4, _, Nat.zero_le _, rfl, rfl, J9, LE9, Own.nil _ _ _ _ _, Nat.le_refl _⟩
  case round =>
    obtain ⟨wo, hwx⟩ : ∃ x, x = wr := ⟨_, rfl⟩
    subst hwx
    clear J9 LE9
    obtain ⟨i, l, M, s5, kv, hi, rfl, hg, J, LE, ho, hws⟩ := hrel
    have hgr := Lib.hid hg
    have HO := Lib.hid ho
    obtain ⟨Ak, nk, ck, rfl, hnk⟩ := ho.form'
    have HNK := Lib.hid hnk
    clear hg ho hnk
    obtain ⟨m0, m1, m2, m3, m4, m5, m6, m7⟩ := cells8 LE
    by_cases hin : i < n
    rotate_left
    · have hi2 : i = n := by omega
      subst hi2
      have E1 := Lib.hid (show r = .ok (.mk o l nm v, M, s5) by rw [E.out, hgr.out])
      have hnk := HNK.out
      subst hnk
      obtain ⟨x0, x1, x2, x3, x4, x5, x6, x7⟩ := cells8 J.res
      have y0 := free_of J.res 0
      have y1 := free_of J.res 1
      have y2 := free_of J.res 2
      have y3 := free_of J.res 3
      have y4 := free_of J.res 4
      have y5 := free_of J.res 5
      have y6 := free_of J.res 6
      have y7 := free_of J.res 7
      have hzr := lt_of_heap J.res
      go_wp21
      have KH : Loc1 w.heap.size 27 #[.int .i64 o, .slice Ak l.length ck, .string ⟨nm.toArray⟩, .int .i64 v.kind, .int .i64 v.int, .bool v.bool, .string ⟨v.text.toArray⟩, .float .f64 v.num] (((((((((wo.setCell ⟨w.heap.size, 0, none⟩ (.int .i64 o)).setCell ⟨w.heap.size, 1, none⟩ (.slice Ak l.length ck)).setCell ⟨w.heap.size, 2, none⟩ (.string ⟨nm.toArray⟩)).setCell ⟨w.heap.size, 3, none⟩ (.int .i64 v.kind)).setCell ⟨w.heap.size, 4, none⟩ (.int .i64 v.int)).setCell ⟨w.heap.size, 5, none⟩ (.bool v.bool)).setCell ⟨w.heap.size, 6, none⟩ (.string ⟨v.text.toArray⟩)).setCell ⟨w.heap.size, 7, none⟩ (.float .f64 v.num))) := by
        have := (heap_set (heap_set (heap_set (heap_set (heap_set (heap_set (heap_set (heap_set J.res 0 (.int .i64 o)) 1 (.slice Ak l.length ck)) 2 (.string ⟨nm.toArray⟩)) 3 (.int .i64 v.kind)) 4 (.int .i64 v.int)) 5 (.bool v.bool)) 6 (.string ⟨v.text.toArray⟩)) 7 (.float .f64 v.num))
        unfold Loc1
        simpa using this
      have X8 : Ext (fun k => k ≠ w.heap.size) wo (((((((((wo.setCell ⟨w.heap.size, 0, none⟩ (.int .i64 o)).setCell ⟨w.heap.size, 1, none⟩ (.slice Ak l.length ck)).setCell ⟨w.heap.size, 2, none⟩ (.string ⟨nm.toArray⟩)).setCell ⟨w.heap.size, 3, none⟩ (.int .i64 v.kind)).setCell ⟨w.heap.size, 4, none⟩ (.int .i64 v.int)).setCell ⟨w.heap.size, 5, none⟩ (.bool v.bool)).setCell ⟨w.heap.size, 6, none⟩ (.string ⟨v.text.toArray⟩)).setCell ⟨w.heap.size, 7, none⟩ (.float .f64 v.num))) := (ext_set_ne (ext_set_ne (ext_set_ne (ext_set_ne (ext_set_ne (ext_set_ne (ext_set_ne (ext_set_ne (Ext.refl _ _) 0 _) 1 _) 2 _) 3 _) 4 _) 5 _) 6 _) 7 _)
      have R8 := rd_off J.rd X8 ⟨by omega, fun k hk => by have := hk.2; omega⟩
      have S8 := loc_ext X8 (show b ≠ w.heap.size by omega) J.src
      have Y8 : Ext (fun k => k ≠ g ∧ k ≠ b) w (((((((((wo.setCell ⟨w.heap.size, 0, none⟩ (.int .i64 o)).setCell ⟨w.heap.size, 1, none⟩ (.slice Ak l.length ck)).setCell ⟨w.heap.size, 2, none⟩ (.string ⟨nm.toArray⟩)).setCell ⟨w.heap.size, 3, none⟩ (.int .i64 v.kind)).setCell ⟨w.heap.size, 4, none⟩ (.int .i64 v.int)).setCell ⟨w.heap.size, 5, none⟩ (.bool v.bool)).setCell ⟨w.heap.size, 6, none⟩ (.string ⟨v.text.toArray⟩)).setCell ⟨w.heap.size, 7, none⟩ (.float .f64 v.num))) := ⟨X8.os.trans J.ext.os, X8.tape.trans J.ext.tape, X8.output.trans J.ext.output, Nat.le_trans J.ext.size X8.size, fun k hk ho => (X8.block k (Nat.lt_of_lt_of_le hk J.ext.size) (by omega)).trans (J.ext.block k hk ho)⟩
      have L8 : Sl (kExp d) (fun k => w.heap.size ≤ k) (((((((((wo.setCell ⟨w.heap.size, 0, none⟩ (.int .i64 o)).setCell ⟨w.heap.size, 1, none⟩ (.slice Ak l.length ck)).setCell ⟨w.heap.size, 2, none⟩ (.string ⟨nm.toArray⟩)).setCell ⟨w.heap.size, 3, none⟩ (.int .i64 v.kind)).setCell ⟨w.heap.size, 4, none⟩ (.int .i64 v.int)).setCell ⟨w.heap.size, 5, none⟩ (.bool v.bool)).setCell ⟨w.heap.size, 6, none⟩ (.string ⟨v.text.toArray⟩)).setCell ⟨w.heap.size, 7, none⟩ (.float .f64 v.num))) (.slice Ak l.length ck) l := ((HO.out.sl fun k hk => hk).ext (X8.weak fun k _ hk => by have : w9.heap.size ≤ k := hk; omega)).weak fun k hk => by have : w9.heap.size ≤ k := hk; omega
      obtain ⟨q0, q1, q2, q3, q4, q5, q6, q7⟩ := cells8 KH
      rw [E1.out]
      exact bodyPost_ret (v := .agg #[.int .i64 o, .slice Ak l.length ck, .string ⟨nm.toArray⟩, .int .i64 v.kind, .int .i64 v.int, .bool v.bool, .string ⟨v.text.toArray⟩, .float .f64 v.num]) (by simp [results, Try.results42, go_sem, q0, q1, q2, q3, q4, q5, q6, q7]) rfl ⟨⟨_, rfl, exp_mk (e := .mk o l nm v) L8, R8.weak fun k hk => hk.1, S8⟩, Y8⟩
    have hi0 : (i : Int) < (n : Int) := by omega
    have KE := Lib.hid (show ∀ W : World, Ext (fun k => k ≠ g ∧ k ≠ b) wo W → Loc1 eb 27 #[.int .i64 o, .slice Ak nk ck, .string ⟨nm.toArray⟩, .int .i64 v.kind, .int .i64 v.int, .bool v.bool, .string ⟨v.text.toArray⟩, .float .f64 v.num] W from fun W hW => (hW.block eb (lt_of_heap LE) (by omega)).trans LE)
    have HC := Lib.hid (IH.out d rfl (fun k => ok k ∧ k < w.heap.size) wo.drew b g M s5 (J.rd.below (show Below wo.heap.size wo wo.drew from bW)) J.src hbg (fun k hk => hok k hk.1) (by have h9 : M ≤ N - 1 := gI_le hgr.out; omega))
    have hwd : IntKind.i64.wrap (d : Int) = d := by rw [IntKind.wrap_i64]; omega
    cases hx : gX d M s5 with
    | error x =>
      rw [hx] at HC
      have E1 := Lib.hid (show r = .error x by rw [E.out, gI_stop (i := i + 1) (by rw [gI, hgr.out]; show (match gX d M s5 with | .error x => _ | .ok q => _) = _; rw [hx]) n hin])
      clear hx
      have KC := Lib.hid (show ∀ W : World, Ext (fun k => k ≠ g ∧ k ≠ b) wo W → W.cell? ⟨eb, 1, none⟩ = some (.slice Ak nk ck) from fun W hW => by have := cell_of (KE.out W hW) 1; simpa using this)
      go_upto_region 10 with (fail)
      refine wp_region_held_drew (S := fun W => W.cell? ⟨eb, 1, none⟩ = some (.slice Ak nk ck)) (by kernel_rfl) (KC.out _ (ext_drew _ _)) (fun hHeld => ?_)
      refine wpAnyH_take (i := 0) (oi := { dst := some 60, op := Op.fieldAddr 27 (Operand.tmp 5) 1, type := 0, pos := "expr.go:229", after := #[], guard := none }) (v := .pointer (some ⟨eb, 1, none⟩)) rfl (by kernel_rfl) (by kernel_rfl) (by kernel_rfl) (fun _ _ _ h => h) (Or.inl ⟨by rfl, by (intro wz hSw; (try dsimp only at hSw); go_simp)⟩) (by assumption) ?_
      try simp only [Act.put, List.setIfInBounds_toArray, List.set_cons_zero, List.set_cons_succ]
      refine wpAnyH_take (i := 1) (oi := { dst := some 61, op := Op.load 22 (Operand.tmp 60), type := 22, pos := "expr.go:229", after := #[{ on := 0, ground := Ground.data }], guard := none }) (v := .slice Ak nk ck) rfl (by kernel_rfl) (by kernel_rfl) (by kernel_rfl) (fun _ _ _ h => h) (Or.inl ⟨by rfl, by (intro wz hSw; (try dsimp only at hSw); go_simp)⟩) (by assumption) ?_
      try simp only [Act.put, List.setIfInBounds_toArray, List.set_cons_zero, List.set_cons_succ]
      refine wpAnyH_take (i := 2) (oi := { dst := some 62, op := Op.move (Operand.tmp 0), type := 83, pos := "expr.go:229", after := #[], guard := none }) (v := .pointer (some ⟨b, 0, none⟩)) rfl (by kernel_rfl) (by kernel_rfl) (by kernel_rfl) (fun _ _ _ h => h) (Or.inl ⟨by rfl, by (intro wz hSw; (try dsimp only at hSw); go_simp)⟩) (by assumption) ?_
      try simp only [Act.put, List.setIfInBounds_toArray, List.set_cons_zero, List.set_cons_succ]
      refine wpAnyH_take (i := 3) (oi := { dst := some 63, op := Op.move (Operand.tmp 1), type := 3, pos := "expr.go:229", after := #[], guard := none }) (v := .int .i64 ((d : Int) + 1)) rfl (by kernel_rfl) (by kernel_rfl) (by kernel_rfl) (fun _ _ _ h => h) (Or.inl ⟨by rfl, by (intro wz hSw; (try dsimp only at hSw); go_simp)⟩) (by assumption) ?_
      try simp only [Act.put, List.setIfInBounds_toArray, List.set_cons_zero, List.set_cons_succ]
      refine wpAnyH_take (i := 4) (oi := { dst := some 64, op := Op.binOp BinOp.sub 3 (Operand.tmp 63) (Operand.const (Value.int IntKind.i64 1)) 3, type := 3, pos := "expr.go:229", after := #[{ on := 3, ground := Ground.data }], guard := none }) (v := .int .i64 (d : Int)) rfl (by kernel_rfl) (by kernel_rfl) (by kernel_rfl) (fun _ _ _ h => h) (Or.inl ⟨by rfl, by (intro wz hSw; (try dsimp only at hSw); go_simp)⟩) (by assumption) ?_
      try simp only [Act.put, List.setIfInBounds_toArray, List.set_cons_zero, List.set_cons_succ]
      refine wpAnyH_ready (rs := [5]) (by kernel_rfl) (by simp) ?_
      refine AllReadyH.cons (o := { dst := some 65, op := Op.call { callee := Callee.value (Operand.func 42), args := #[Operand.tmp 62, Operand.tmp 64], argTypes := #[83, 3] }, type := 27, pos := "expr.go:229", after := #[{ on := 2, ground := Ground.data }, { on := 4, ground := Ground.data }], guard := none }) rfl (fun K hK => ?_) AllReadyH.nil
      go_simp
      refine HC.out.mono ?_
      rintro x9 wz ⟨hbd, hxz⟩
      have hbd : x9 = .panicked [{ v := .iface 89 (.int .i64 x), recovered := false }] := hbd
      subst hbd
      try dsimp only
      go_wp2_with fail
      rw [E1.out]
      exact ⟨rfl, rfl, J.ext.trans ((ext_drew _ _).trans hxz)⟩
    | ok q =>
    rw [hx] at HC
    obtain ⟨e, M2, s6⟩ := q
    have hgn := Lib.hid (show gI (gX d) (N - 1) s4 (i + 1) = .ok (l ++ [e], M2, s6) by rw [gI, hgr.out]; show (match gX d M s5 with | .error x => _ | .ok q => _) = _; rw [hx])
    have hl3 := Lib.hid (show l.length = i from gI_len hgr.out)
    clear hx
    have HOX := Lib.hid (show ∀ wz : World, Ext (fun k => k ≠ g ∧ k ≠ b) wo wz → Own (kExp d) 27 (fun k => w9.heap.size ≤ k) wz w9.heap.size (.slice Ak nk ck) l from fun wz hxz => HO.out.ext (hxz.weak fun k _ hk => by
      rcases hk with hk | hk
      · have hk' : w9.heap.size ≤ k := hk
        exact ⟨by omega, by omega⟩
      · have hk' := (HO.out.lt k hk.symm).1
        exact ⟨by omega, by omega⟩))
    have C1 := Lib.hid (fun (cs : List Value) (wz : World) (hR : (kExp d).R (fun k => wo.heap.size ≤ k) wz cs e) (hxz : Ext (fun k => k ≠ g ∧ k ≠ b) wo wz) => append_fresh (P := Try.prog) (d := kExp d) (e := 27) (t := 22) (tx := 22) (ty := 22) (w := wz) (base := w9.heap.size) (b0 := wo.heap.size) Try.underlying22 Try.underlying22 (infoExp d) (by rw [kExp_sz]; rfl) (HOX.out wz hxz) (Nat.le_trans hws hxz.size) hR hws (fun k hk => (HO.out.lt k hk).2) (by have := hl3.out; omega) (by have := hl3.out; omega))
    go_upto_region 10 with (fail)
    refine wp_region_held_drew (S := fun W => True) (by kernel_rfl) trivial (fun hHeld => ?_)
    refine wpAnyH_take (i := 0) (oi := { dst := some 60, op := Op.fieldAddr 27 (Operand.tmp 5) 1, type := 0, pos := "expr.go:229", after := #[], guard := none }) (v := .pointer (some ⟨eb, 1, none⟩)) rfl (by kernel_rfl) (by kernel_rfl) (by kernel_rfl) (fun _ _ _ h => h) (Or.inl ⟨by rfl, by (intro wz hSw; (try dsimp only at hSw); go_simp)⟩) (by assumption) ?_
    try simp only [Act.put, List.setIfInBounds_toArray, List.set_cons_zero, List.set_cons_succ]
    refine wpAnyH_take (i := 2) (oi := { dst := some 62, op := Op.move (Operand.tmp 0), type := 83, pos := "expr.go:229", after := #[], guard := none }) (v := .pointer (some ⟨b, 0, none⟩)) rfl (by kernel_rfl) (by kernel_rfl) (by kernel_rfl) (fun _ _ _ h => h) (Or.inl ⟨by rfl, by (intro wz hSw; (try dsimp only at hSw); go_simp)⟩) (by assumption) ?_
    try simp only [Act.put, List.setIfInBounds_toArray, List.set_cons_zero, List.set_cons_succ]
    refine wpAnyH_take (i := 3) (oi := { dst := some 63, op := Op.move (Operand.tmp 1), type := 3, pos := "expr.go:229", after := #[], guard := none }) (v := .int .i64 ((d : Int) + 1)) rfl (by kernel_rfl) (by kernel_rfl) (by kernel_rfl) (fun _ _ _ h => h) (Or.inl ⟨by rfl, by (intro wz hSw; (try dsimp only at hSw); go_simp)⟩) (by assumption) ?_
    try simp only [Act.put, List.setIfInBounds_toArray, List.set_cons_zero, List.set_cons_succ]
    refine wpAnyH_take (i := 4) (oi := { dst := some 64, op := Op.binOp BinOp.sub 3 (Operand.tmp 63) (Operand.const (Value.int IntKind.i64 1)) 3, type := 3, pos := "expr.go:229", after := #[{ on := 3, ground := Ground.data }], guard := none }) (v := .int .i64 (d : Int)) rfl (by kernel_rfl) (by kernel_rfl) (by kernel_rfl) (fun _ _ _ h => h) (Or.inl ⟨by rfl, by (intro wz hSw; (try dsimp only at hSw); go_simp)⟩) (by assumption) ?_
    try simp only [Act.put, List.setIfInBounds_toArray, List.set_cons_zero, List.set_cons_succ]
    refine wpAnyH_ready (rs := [1, 5]) (by kernel_rfl) (by simp) ?_
    refine (AllReadyH.cons (o := { dst := some 61, op := Op.load 22 (Operand.tmp 60), type := 22, pos := "expr.go:229", after := #[{ on := 0, ground := Ground.data }], guard := none }) rfl (fun K hK => ?_) (AllReadyH.cons (o := { dst := some 65, op := Op.call { callee := Callee.value (Operand.func 42), args := #[Operand.tmp 62, Operand.tmp 64], argTypes := #[83, 3] }, type := 27, pos := "expr.go:229", after := #[{ on := 2, ground := Ground.data }, { on := 4, ground := Ground.data }], guard := none }) rfl (fun K hK => ?_) AllReadyH.nil))
    · skip
      go_simp
      refine hK.out _ _ trivial (fun hHeld => ?_)
      clear hK K
      try simp only [Act.put, List.setIfInBounds_toArray, List.set_cons_zero, List.set_cons_succ]
      refine wpAnyH_ready (rs := [5]) (by kernel_rfl) (by simp) ?_
      refine AllReadyH.cons (o := { dst := some 65, op := Op.call { callee := Callee.value (Operand.func 42), args := #[Operand.tmp 62, Operand.tmp 64], argTypes := #[83, 3] }, type := 27, pos := "expr.go:229", after := #[{ on := 2, ground := Ground.data }, { on := 4, ground := Ground.data }], guard := none }) rfl (fun K hK => ?_) AllReadyH.nil
      go_simp
      refine HC.out.mono ?_
      rintro x9 wz ⟨⟨cs, rfl, hR, hrz, hSz⟩, hxy⟩
      have hxz := (ext_drew (fun k => k ≠ g ∧ k ≠ b) wo).trans hxy
      obtain ⟨k1, B1, d1, -, rfl, -⟩ := exp_open hR
      have AB := Lib.hid (C1.out _ wz hR hxz)
      have hLz := KE.out wz hxz
      have m1z := cell_of hLz 1
      have hze := lt_of_heap hLz
      simp only [List.getElem?_toArray, List.getElem?_cons_zero, List.getElem?_cons_succ] at m1z
      refine hK.out _ _ trivial (fun hHeld => ?_)
      clear hK K
      try simp only [Act.put, List.setIfInBounds_toArray, List.set_cons_zero, List.set_cons_succ]
      refine wpAnyH_ready (rs := [6]) (by kernel_rfl) (by simp) ?_
      refine AllReadyH.cons (o := { dst := some 66, op := Op.buildSlice 22 1 #[(0, Operand.tmp 65)], type := 22, pos := "expr.go:229", after := #[{ on := 5, ground := Ground.data }], guard := none }) rfl (fun K hK => ?_) AllReadyH.nil
      go_simp
      refine hK.out _ _ trivial (fun hHeld => ?_)
      clear hK K
      try simp only [Act.put, List.setIfInBounds_toArray, List.set_cons_zero, List.set_cons_succ]
      refine wpAnyH_ready (rs := [7]) (by kernel_rfl) (by simp) ?_
      refine AllReadyH.cons (o := { dst := some 67, op := Op.call { callee := Callee.builtin Builtin.append, args := #[Operand.tmp 61, Operand.tmp 66], argTypes := #[22, 22] }, type := 22, pos := "expr.go:229", after := #[{ on := 1, ground := Ground.data }, { on := 6, ground := Ground.data }, { on := 5, ground := Ground.chain }], guard := none }) rfl (fun K hK => ?_) AllReadyH.nil
      refine step_append rfl (.tmp 61) (.tmp 66) 22 22 rfl rfl rfl AB.out ?_
      rintro v' w'' ⟨ho2, hg2⟩
      obtain ⟨A9, n9, c9, rfl, hn9⟩ := ho2.form'
      have hL9 := (show Loc1 eb 27 #[.int .i64 o, .slice Ak nk ck, .string ⟨nm.toArray⟩, .int .i64 v.kind, .int .i64 v.int, .bool v.bool, .string ⟨v.text.toArray⟩, .float .f64 v.num] w'' from (hg2.block eb (lt_of_heap hLz) (fun e => by have := (HO.out.lt eb e.symm).1; omega)).trans hLz)
      have m1w := cell_of hL9 1
      have u1w := free_of hL9 1
      have HN9 := Lib.hid hn9
      have HO2 := Lib.hid ho2
      have HG2 := Lib.hid hg2
      clear ho2 hg2 hn9
      refine hK.out _ _ trivial (fun hHeld => ?_)
      clear hK K
      try simp only [Act.put, List.setIfInBounds_toArray, List.set_cons_zero, List.set_cons_succ]
      refine wpAnyH_take (i := 8) (oi := { dst := some 68, op := Op.fieldAddr 27 (Operand.tmp 5) 1, type := 0, pos := "expr.go:229", after := #[{ on := 0, ground := Ground.phase }, { on := 1, ground := Ground.phase }, { on := 2, ground := Ground.phase }, { on := 3, ground := Ground.phase }, { on := 4, ground := Ground.phase }, { on := 5, ground := Ground.phase }, { on := 6, ground := Ground.phase }, { on := 7, ground := Ground.phase }], guard := none }) (v := .pointer (some ⟨eb, 1, none⟩)) rfl (by kernel_rfl) (by kernel_rfl) (by kernel_rfl) (fun _ _ _ h => h) (Or.inl ⟨by rfl, by (intro wz hSw; (try dsimp only at hSw); go_simp)⟩) (by assumption) ?_
      try simp only [Act.put, List.setIfInBounds_toArray, List.set_cons_zero, List.set_cons_succ]
      refine wpAnyH_ready (rs := [9]) (by kernel_rfl) (by simp) ?_
      refine AllReadyH.cons (o := { dst := none, op := Op.store 22 (Operand.tmp 68) (Operand.tmp 67), type := 0, pos := "expr.go:229", after := #[{ on := 8, ground := Ground.data }, { on := 7, ground := Ground.data }, { on := 7, ground := Ground.chain }, { on := 0, ground := Ground.phase }, { on := 1, ground := Ground.phase }, { on := 2, ground := Ground.phase }, { on := 3, ground := Ground.phase }, { on := 4, ground := Ground.phase }, { on := 5, ground := Ground.phase }, { on := 6, ground := Ground.phase }, { on := 7, ground := Ground.phase }], guard := none }) rfl (fun K hK => ?_) AllReadyH.nil
      go_simp
      refine hK.out _ _ trivial (fun hHeld => ?_)
      clear hK K
      try simp only [Act.put, List.setIfInBounds_toArray, List.set_cons_zero, List.set_cons_succ]
      refine wpAnyH_done (by kernel_rfl) ?_ _
      have JZ : GJ ok w b g M2 s6 wz := ⟨hrz, hSz, (hxz.block w.heap.size (by have := J.lt; omega) ⟨by omega, by omega⟩).trans J.res, J.ext.trans hxz⟩
      have XG : Ext (fun k => k < w9.heap.size) wz w'' := ⟨HG2.out.os, HG2.out.tape, HG2.out.output, HG2.out.size, fun k hk hkb => HG2.out.block k hk (fun e => by have := (HO.out.lt k e.symm).1; omega)⟩
      have JF := (JZ.grown XG ⟨by omega, hbw, hgw⟩).set (i := 1) (v := .slice A9 n9 c9) hE hbw hgw
      have LEF : Loc1 eb 27 #[.int .i64 o, .slice A9 n9 c9, .string ⟨nm.toArray⟩, .int .i64 v.kind, .int .i64 v.int, .bool v.bool, .string ⟨v.text.toArray⟩, .float .f64 v.num] (w''.setCell ⟨eb, 1, none⟩ (.slice A9 n9 c9)) := by have := heap_set hL9 1 (.slice A9 n9 c9); unfold Loc1; simpa using this
      have OF := HO2.out.ext (ext_set_keep (w := w'') (b := eb) (i := 1) (v := .slice A9 n9 c9) (fun k hk => by
        rcases hk with hk | hk
        · have hk' : w9.heap.size ≤ k := hk
          omega
        · have hk' := (HO2.out.lt k hk.symm).1
          omega))
      have hwf : w9.heap.size ≤ (w''.setCell ⟨eb, 1, none⟩ (.slice A9 n9 c9)).heap.size := by
        rw [World.size_setCell]
        have h1 := XG.size
        have h2 := hxz.size
        omega
      (try simp only [Exit.inBlock, Exit.then])
      go_wp2_with fail
      go_roundw
      case rel => exact ⟨i + 1, l ++ [e], M2, s6, _, by omega, by go_num, hgn.out, JF, LEF, OF, hwf⟩
      case measure => simp [intOf]; omega
    · skip
      go_simp
      refine HC.out.mono ?_
      rintro x9 wz ⟨⟨cs, rfl, hR, hrz, hSz⟩, hxy⟩
      have hxz := (ext_drew (fun k => k ≠ g ∧ k ≠ b) wo).trans hxy
      obtain ⟨k1, B1, d1, -, rfl, -⟩ := exp_open hR
      have AB := Lib.hid (C1.out _ wz hR hxz)
      have hLz := KE.out wz hxz
      have m1z := cell_of hLz 1
      have hze := lt_of_heap hLz
      simp only [List.getElem?_toArray, List.getElem?_cons_zero, List.getElem?_cons_succ] at m1z
      refine hK.out _ _ trivial (fun hHeld => ?_)
      clear hK K
      try simp only [Act.put, List.setIfInBounds_toArray, List.set_cons_zero, List.set_cons_succ]
      refine wpAnyH_ready (rs := [1, 6]) (by kernel_rfl) (by simp) ?_
      refine (AllReadyH.cons (o := { dst := some 61, op := Op.load 22 (Operand.tmp 60), type := 22, pos := "expr.go:229", after := #[{ on := 0, ground := Ground.data }], guard := none }) rfl (fun K hK => ?_) (AllReadyH.cons (o := { dst := some 66, op := Op.buildSlice 22 1 #[(0, Operand.tmp 65)], type := 22, pos := "expr.go:229", after := #[{ on := 5, ground := Ground.data }], guard := none }) rfl (fun K hK => ?_) AllReadyH.nil))
      · skip
        go_simp
        refine hK.out _ _ trivial (fun hHeld => ?_)
        clear hK K
        try simp only [Act.put, List.setIfInBounds_toArray, List.set_cons_zero, List.set_cons_succ]
        refine wpAnyH_ready (rs := [6]) (by kernel_rfl) (by simp) ?_
        refine AllReadyH.cons (o := { dst := some 66, op := Op.buildSlice 22 1 #[(0, Operand.tmp 65)], type := 22, pos := "expr.go:229", after := #[{ on := 5, ground := Ground.data }], guard := none }) rfl (fun K hK => ?_) AllReadyH.nil
        go_simp
        refine hK.out _ _ trivial (fun hHeld => ?_)
        clear hK K
        try simp only [Act.put, List.setIfInBounds_toArray, List.set_cons_zero, List.set_cons_succ]
        refine wpAnyH_ready (rs := [7]) (by kernel_rfl) (by simp) ?_
        refine AllReadyH.cons (o := { dst := some 67, op := Op.call { callee := Callee.builtin Builtin.append, args := #[Operand.tmp 61, Operand.tmp 66], argTypes := #[22, 22] }, type := 22, pos := "expr.go:229", after := #[{ on := 1, ground := Ground.data }, { on := 6, ground := Ground.data }, { on := 5, ground := Ground.chain }], guard := none }) rfl (fun K hK => ?_) AllReadyH.nil
        refine step_append rfl (.tmp 61) (.tmp 66) 22 22 rfl rfl rfl AB.out ?_
        rintro v' w'' ⟨ho2, hg2⟩
        obtain ⟨A9, n9, c9, rfl, hn9⟩ := ho2.form'
        have hL9 := (show Loc1 eb 27 #[.int .i64 o, .slice Ak nk ck, .string ⟨nm.toArray⟩, .int .i64 v.kind, .int .i64 v.int, .bool v.bool, .string ⟨v.text.toArray⟩, .float .f64 v.num] w'' from (hg2.block eb (lt_of_heap hLz) (fun e => by have := (HO.out.lt eb e.symm).1; omega)).trans hLz)
        have m1w := cell_of hL9 1
        have u1w := free_of hL9 1
        have HN9 := Lib.hid hn9
        have HO2 := Lib.hid ho2
        have HG2 := Lib.hid hg2
        clear ho2 hg2 hn9
        refine hK.out _ _ trivial (fun hHeld => ?_)
        clear hK K
        try simp only [Act.put, List.setIfInBounds_toArray, List.set_cons_zero, List.set_cons_succ]
        refine wpAnyH_take (i := 8) (oi := { dst := some 68, op := Op.fieldAddr 27 (Operand.tmp 5) 1, type := 0, pos := "expr.go:229", after := #[{ on := 0, ground := Ground.phase }, { on := 1, ground := Ground.phase }, { on := 2, ground := Ground.phase }, { on := 3, ground := Ground.phase }, { on := 4, ground := Ground.phase }, { on := 5, ground := Ground.phase }, { on := 6, ground := Ground.phase }, { on := 7, ground := Ground.phase }], guard := none }) (v := .pointer (some ⟨eb, 1, none⟩)) rfl (by kernel_rfl) (by kernel_rfl) (by kernel_rfl) (fun _ _ _ h => h) (Or.inl ⟨by rfl, by (intro wz hSw; (try dsimp only at hSw); go_simp)⟩) (by assumption) ?_
        try simp only [Act.put, List.setIfInBounds_toArray, List.set_cons_zero, List.set_cons_succ]
        refine wpAnyH_ready (rs := [9]) (by kernel_rfl) (by simp) ?_
        refine AllReadyH.cons (o := { dst := none, op := Op.store 22 (Operand.tmp 68) (Operand.tmp 67), type := 0, pos := "expr.go:229", after := #[{ on := 8, ground := Ground.data }, { on := 7, ground := Ground.data }, { on := 7, ground := Ground.chain }, { on := 0, ground := Ground.phase }, { on := 1, ground := Ground.phase }, { on := 2, ground := Ground.phase }, { on := 3, ground := Ground.phase }, { on := 4, ground := Ground.phase }, { on := 5, ground := Ground.phase }, { on := 6, ground := Ground.phase }, { on := 7, ground := Ground.phase }], guard := none }) rfl (fun K hK => ?_) AllReadyH.nil
        go_simp
        refine hK.out _ _ trivial (fun hHeld => ?_)
        clear hK K
        try simp only [Act.put, List.setIfInBounds_toArray, List.set_cons_zero, List.set_cons_succ]
        refine wpAnyH_done (by kernel_rfl) ?_ _
        have JZ : GJ ok w b g M2 s6 wz := ⟨hrz, hSz, (hxz.block w.heap.size (by have := J.lt; omega) ⟨by omega, by omega⟩).trans J.res, J.ext.trans hxz⟩
        have XG : Ext (fun k => k < w9.heap.size) wz w'' := ⟨HG2.out.os, HG2.out.tape, HG2.out.output, HG2.out.size, fun k hk hkb => HG2.out.block k hk (fun e => by have := (HO.out.lt k e.symm).1; omega)⟩
        have JF := (JZ.grown XG ⟨by omega, hbw, hgw⟩).set (i := 1) (v := .slice A9 n9 c9) hE hbw hgw
        have LEF : Loc1 eb 27 #[.int .i64 o, .slice A9 n9 c9, .string ⟨nm.toArray⟩, .int .i64 v.kind, .int .i64 v.int, .bool v.bool, .string ⟨v.text.toArray⟩, .float .f64 v.num] (w''.setCell ⟨eb, 1, none⟩ (.slice A9 n9 c9)) := by have := heap_set hL9 1 (.slice A9 n9 c9); unfold Loc1; simpa using this
        have OF := HO2.out.ext (ext_set_keep (w := w'') (b := eb) (i := 1) (v := .slice A9 n9 c9) (fun k hk => by
          rcases hk with hk | hk
          · have hk' : w9.heap.size ≤ k := hk
            omega
          · have hk' := (HO2.out.lt k hk.symm).1
            omega))
        have hwf : w9.heap.size ≤ (w''.setCell ⟨eb, 1, none⟩ (.slice A9 n9 c9)).heap.size := by
          rw [World.size_setCell]
          have h1 := XG.size
          have h2 := hxz.size
          omega
        (try simp only [Exit.inBlock, Exit.then])
        go_wp2_with fail
        go_roundw
        case rel => exact ⟨i + 1, l ++ [e], M2, s6, _, by omega, by go_num, hgn.out, JF, LEF, OF, hwf⟩
        case measure => simp [intOf]; omega
      · skip
        go_simp
        refine hK.out _ _ trivial (fun hHeld => ?_)
        clear hK K
        try simp only [Act.put, List.setIfInBounds_toArray, List.set_cons_zero, List.set_cons_succ]
        refine wpAnyH_ready (rs := [1]) (by kernel_rfl) (by simp) ?_
        refine AllReadyH.cons (o := { dst := some 61, op := Op.load 22 (Operand.tmp 60), type := 22, pos := "expr.go:229", after := #[{ on := 0, ground := Ground.data }], guard := none }) rfl (fun K hK => ?_) AllReadyH.nil
        go_simp
        refine hK.out _ _ trivial (fun hHeld => ?_)
        clear hK K
        try simp only [Act.put, List.setIfInBounds_toArray, List.set_cons_zero, List.set_cons_succ]
        refine wpAnyH_ready (rs := [7]) (by kernel_rfl) (by simp) ?_
        refine AllReadyH.cons (o := { dst := some 67, op := Op.call { callee := Callee.builtin Builtin.append, args := #[Operand.tmp 61, Operand.tmp 66], argTypes := #[22, 22] }, type := 22, pos := "expr.go:229", after := #[{ on := 1, ground := Ground.data }, { on := 6, ground := Ground.data }, { on := 5, ground := Ground.chain }], guard := none }) rfl (fun K hK => ?_) AllReadyH.nil
        refine step_append rfl (.tmp 61) (.tmp 66) 22 22 rfl rfl rfl AB.out ?_
        rintro v' w'' ⟨ho2, hg2⟩
        obtain ⟨A9, n9, c9, rfl, hn9⟩ := ho2.form'
        have hL9 := (show Loc1 eb 27 #[.int .i64 o, .slice Ak nk ck, .string ⟨nm.toArray⟩, .int .i64 v.kind, .int .i64 v.int, .bool v.bool, .string ⟨v.text.toArray⟩, .float .f64 v.num] w'' from (hg2.block eb (lt_of_heap hLz) (fun e => by have := (HO.out.lt eb e.symm).1; omega)).trans hLz)
        have m1w := cell_of hL9 1
        have u1w := free_of hL9 1
        have HN9 := Lib.hid hn9
        have HO2 := Lib.hid ho2
        have HG2 := Lib.hid hg2
        clear ho2 hg2 hn9
        refine hK.out _ _ trivial (fun hHeld => ?_)
        clear hK K
        try simp only [Act.put, List.setIfInBounds_toArray, List.set_cons_zero, List.set_cons_succ]
        refine wpAnyH_take (i := 8) (oi := { dst := some 68, op := Op.fieldAddr 27 (Operand.tmp 5) 1, type := 0, pos := "expr.go:229", after := #[{ on := 0, ground := Ground.phase }, { on := 1, ground := Ground.phase }, { on := 2, ground := Ground.phase }, { on := 3, ground := Ground.phase }, { on := 4, ground := Ground.phase }, { on := 5, ground := Ground.phase }, { on := 6, ground := Ground.phase }, { on := 7, ground := Ground.phase }], guard := none }) (v := .pointer (some ⟨eb, 1, none⟩)) rfl (by kernel_rfl) (by kernel_rfl) (by kernel_rfl) (fun _ _ _ h => h) (Or.inl ⟨by rfl, by (intro wz hSw; (try dsimp only at hSw); go_simp)⟩) (by assumption) ?_
        try simp only [Act.put, List.setIfInBounds_toArray, List.set_cons_zero, List.set_cons_succ]
        refine wpAnyH_ready (rs := [9]) (by kernel_rfl) (by simp) ?_
        refine AllReadyH.cons (o := { dst := none, op := Op.store 22 (Operand.tmp 68) (Operand.tmp 67), type := 0, pos := "expr.go:229", after := #[{ on := 8, ground := Ground.data }, { on := 7, ground := Ground.data }, { on := 7, ground := Ground.chain }, { on := 0, ground := Ground.phase }, { on := 1, ground := Ground.phase }, { on := 2, ground := Ground.phase }, { on := 3, ground := Ground.phase }, { on := 4, ground := Ground.phase }, { on := 5, ground := Ground.phase }, { on := 6, ground := Ground.phase }, { on := 7, ground := Ground.phase }], guard := none }) rfl (fun K hK => ?_) AllReadyH.nil
        go_simp
        refine hK.out _ _ trivial (fun hHeld => ?_)
        clear hK K
        try simp only [Act.put, List.setIfInBounds_toArray, List.set_cons_zero, List.set_cons_succ]
        refine wpAnyH_done (by kernel_rfl) ?_ _
        have JZ : GJ ok w b g M2 s6 wz := ⟨hrz, hSz, (hxz.block w.heap.size (by have := J.lt; omega) ⟨by omega, by omega⟩).trans J.res, J.ext.trans hxz⟩
        have XG : Ext (fun k => k < w9.heap.size) wz w'' := ⟨HG2.out.os, HG2.out.tape, HG2.out.output, HG2.out.size, fun k hk hkb => HG2.out.block k hk (fun e => by have := (HO.out.lt k e.symm).1; omega)⟩
        have JF := (JZ.grown XG ⟨by omega, hbw, hgw⟩).set (i := 1) (v := .slice A9 n9 c9) hE hbw hgw
        have LEF : Loc1 eb 27 #[.int .i64 o, .slice A9 n9 c9, .string ⟨nm.toArray⟩, .int .i64 v.kind, .int .i64 v.int, .bool v.bool, .string ⟨v.text.toArray⟩, .float .f64 v.num] (w''.setCell ⟨eb, 1, none⟩ (.slice A9 n9 c9)) := by have := heap_set hL9 1 (.slice A9 n9 c9); unfold Loc1; simpa using this
        have OF := HO2.out.ext (ext_set_keep (w := w'') (b := eb) (i := 1) (v := .slice A9 n9 c9) (fun k hk => by
          rcases hk with hk | hk
          · have hk' : w9.heap.size ≤ k := hk
            omega
          · have hk' := (HO2.out.lt k hk.symm).1
            omega))
        have hwf : w9.heap.size ≤ (w''.setCell ⟨eb, 1, none⟩ (.slice A9 n9 c9)).heap.size := by
          rw [World.size_setCell]
          have h1 := XG.size
          have h2 := hxz.size
          omega
        (try simp only [Exit.inBlock, Exit.then])
        go_wp2_with fail
        go_roundw
        case rel => exact ⟨i + 1, l ++ [e], M2, s6, _, by omega, by go_num, hgn.out, JF, LEF, OF, hwf⟩
        case measure => simp [intOf]; omega
theorem getX_c : ∀ d, d ≤ 6 → GetX d
  | 0, h => getX_s h fun d' h' => by omega
  | d + 1, h => getX_s h fun d' h' => by
    have : d' = d := by omega
    subst this
    exact getX_c d' (by omega)
end Go.Proofs.Ytijlamajcdekkaa
