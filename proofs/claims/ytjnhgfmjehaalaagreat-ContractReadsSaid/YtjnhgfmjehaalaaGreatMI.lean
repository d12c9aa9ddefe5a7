/- Texts that go together. -/
import Derived.Test.YtjnhgfmjehaalaaGreatC12a
import Derived.Test.YtjnhgfmjehaalaaGreatC12b
import Derived.Test.YtjnhgfmjehaalaaGreatC12c
import Derived.Test.YtjnhgfmjehaalaaGreatMC
import Derived.Test.YtjnhgfmjehaalaaGreatC10
import Derived.Test.YtjnhgfmjehaalaaGreatMG
import Derived.Test.YtjnhgfmjehaalaaGreatMF
/- Chapter 6: the reference's Check of expressions, whole. -/
namespace Go.Proofs.YtjnhgfmjehaalaaGreat
open Go.RowKit
set_option linter.unusedVariables false
set_option linter.unusedSimpArgs false
theorem manyK_len' (p : Exp → Except Int Int) : ∀ (l : List Exp) (ks : List Int), manyK p l = .ok ks → ks.length = l.length
 | [], ks, h => by injection h with h; subst h; rfl
 | a :: l, ks, h => by
  rw [manyK] at h
  cases ha : p a with
  | error x => rw [ha] at h; cases h
  | ok k =>
   rw [ha] at h
   simp only at h
   cases hl : manyK p l with
   | error x => rw [hl] at h; cases h
   | ok ks' => rw [hl] at h; injection h with h; subst h; rw [List.length_cons, List.length_cons, manyK_len' p l ks' hl]
/-- so many parts of its own, and of theirs -/
def Kb : Nat → Exp → Prop
 | 0, _ => True
 | n + 1, e => e.kids.length ≤ 24 ∧ ∀ x ∈ e.kids, Kb n x
theorem spF_ok (d : Nat) (hd : ∀ (x : Exp) (M M' : Int), spD d x M = (true, M') → 0 ≤ M' ∧ M' ≤ M - 1) : ∀ (l : List Exp) (M M' : Int), 0 ≤ M → l.foldl (spF d) (true, M) = (true, M') → 0 ≤ M' ∧ M' ≤ M - l.length ∧ ∀ x ∈ l, ∃ a b, spD d x a = (true, b) ∧ a ≤ M
 | [], M, M', h0, h => by
  injection h with _ h
  subst h
  exact ⟨h0, by simp, fun x hx => by cases hx⟩
 | x :: l, M, M', h0, h => by
  rw [List.foldl_cons] at h
  have e : spF d (true, M) x = spD d x M := rfl
  rw [e] at h
  cases hr : spD d x M with
  | mk b M1 =>
   rw [hr] at h
   cases b with
   | false => rw [spF_no] at h; injection h with h; cases h
   | true =>
    obtain ⟨h1, h2⟩ := hd x M M1 hr
    obtain ⟨h3, h4, h5⟩ := spF_ok d hd l M1 M' h1 h
    refine ⟨h3, by rw [List.length_cons]; omega, fun y hy => ?_⟩
    rcases List.mem_cons.1 hy with rfl | hy
    ·exact ⟨M, M1, hr, Int.le_refl _⟩
    ·obtain ⟨a, b, h6, h7⟩ := h5 y hy
     exact ⟨a, b, h6, by omega⟩
theorem spD_ok : ∀ (d : Nat) (e : Exp) (N N' : Int), spD d e N = (true, N') → 0 ≤ N' ∧ N' ≤ N - 1 ∧ (e.kids.length : Int) ≤ N - 1 ∧ ∀ x ∈ e.kids, ∃ M M', spD (d - 1) x M = (true, M') ∧ M ≤ N - 1
 | 0, e, N, N', h => by injection h with h; cases h
 | d + 1, e, N, N', h => by
  rw [spD] at h
  by_cases hN : N - 1 < 0
  ·rw [if_pos hN] at h; injection h with h; cases h
  ·rw [if_neg hN] at h
   obtain ⟨h1, h2, h3⟩ := spF_ok d (fun x M M' hx => by obtain ⟨a, b, _⟩ := spD_ok d x M M' hx; exact ⟨a, b⟩) e.kids (N - 1) N' (by omega) h
   exact ⟨h1, by omega, by omega, h3⟩
theorem kb_of : ∀ (n d : Nat) (e : Exp) (N N' : Int), N ≤ 24 → spD d e N = (true, N') → Kb n e
 | 0, _, _, _, _, _, _ => trivial
 | n + 1, d, e, N, N', hN, h => by
  obtain ⟨_, _, h3, h4⟩ := spD_ok d e N N' h
  refine ⟨by omega, fun x hx => ?_⟩
  obtain ⟨M, M', h5, h6⟩ := h4 x hx
  exact kb_of n (d - 1) x M M' (by omega) h5
theorem kb_small {e : Exp} (n : Nat) (h : small e = true) : Kb n e := by
 unfold small at h
 cases hr : spD 6 e 24 with
 | mk b N' =>
  rw [hr] at h
  have h : b = true := h
  subst h
  exact kb_of n 6 e 24 N' (by decide) hr
theorem infoInt : (Tryz.prog.info? 3).map (fun i => (i.zero, i.size, i.bytes)) = some (some (.int .i64 0), 1, 8) := by kernel_rfl
section
variable {w : World}
theorem rkind_c {A K : Option Addr} {N c kc : Nat} {fl : List Fld} {ks : List Int} {B : Option Addr} {d : Nat} (e : Exp) (hk : ks.length = e.kids.length)
 (hks : Sl kI (fun _ => True) w (.slice K ks.length kc) ks) (hf : Sl kFld (fun _ => True) w (.slice A N c) fl) :
 Calls Tryz.prog 171 #[.agg #[.int .i64 e.op, .slice B e.kids.length d, .string ⟨e.name.toArray⟩, .int .i64 e.val.kind, .int .i64 e.val.int, .bool e.val.bool, .string ⟨e.val.text.toArray⟩, .float .f64 e.val.num], .slice K ks.length kc, .slice A N c] w (Ret w (.tuple #[.int .i64 (pairK (kindOf fl e ks)).1, .int .i64 (pairK (kindOf fl e ks)).2])) := by
 obtain ⟨op, kids, name, val⟩ := e
 by_cases hg : ariF op = (kids.length : Int) ∧ (op = 2 ∨ name = []) ∧ (op = 1 ∨ sameV val zV = true)
 ·obtain ⟨hA, hB, hC⟩ := hg
  rcases ari_16 hA with h | h | h | h | h | h | h | h | h | h | h | h | h | h | h | h
  ·exact rkind1 op kids name val hk h hA hB hC hks hf
  ·exact rkind2 op kids name val hk h hA hB hC hks hf
  ·exact rkind3 op kids name val hk h hA hB hC hks hf
  ·exact rkind4 op kids name val hk h hA hB hC hks hf
  ·exact rkind5 op kids name val hk h hA hB hC hks hf
  ·exact rkind6 op kids name val hk h hA hB hC hks hf
  ·exact rkind7 op kids name val hk h hA hB hC hks hf
  ·exact rkind8 op kids name val hk h hA hB hC hks hf
  ·exact rkind9 op kids name val hk h hA hB hC hks hf
  ·exact rkind10 op kids name val hk h hA hB hC hks hf
  ·exact rkind11 op kids name val hk h hA hB hC hks hf
  ·exact rkind12 op kids name val hk h hA hB hC hks hf
  ·exact rkind13 op kids name val hk h hA hB hC hks hf
  ·exact rkind14 op kids name val hk h hA hB hC hks hf
  ·exact rkind15 op kids name val hk h hA hB hC hks hf
  ·exact rkind16 op kids name val hk h hA hB hC hks hf
 ·exact rkind_no op kids name val hg hk hks hf
set_option maxRecDepth 20000 in
set_option maxHeartbeats 4000000 in
theorem rcheck_c {A : Option Addr} {N c : Nat} {fl : List Fld} : ∀ (n : Nat) (w : World) (cs : List Value) (e : Exp), Kb n e → (kExp n).R (fun _ => True) w cs e → Sl kFld (fun _ => True) w (.slice A N c) fl →
 Calls Tryz.prog 153 #[.agg cs.toArray, .slice A N c] w (Ret w (.tuple #[.int .i64 (pairK (kE fl n e)).1, .int .i64 (pairK (kE fl n e)).2])) := by
 intro n
 induction n with
 | zero => intro w cs e _ h; exact h.elim
 | succ n ih =>
  intro w cs e hkb h hf
  obtain ⟨h24, hkx⟩ := hkb
  have HKX := Lib.hid hkx
  clear hkx
  have hdp := kR_dp h
  obtain ⟨k, B, d, hk, rfl, hs⟩ := exp_open h
  obtain rfl : n = k := by omega
  have SF := store_f64
  have IH := Lib.hid ih
  have HD := Lib.hid (show ∀ x ∈ e.kids, ¬ kE fl n x = .error 0 from fun x hx => kE_err n x (hdp x hx))
  have HF := hidS hf
  have HS := hidS hs
  have E := Lib.hid (show kE fl (n + 1) e = match manyK (kE fl n) e.kids with | .error x => .error x | .ok ks => kindOf fl e ks from rfl)
  have hmax := hs.len.2.2.1
  have hnc := hs.len.2.1
  have hL := Loc1.new w 44 #[.int .i64 e.op, .slice B e.kids.length d, .string ⟨e.name.toArray⟩, .int .i64 e.val.kind, .int .i64 e.val.int, .bool e.val.bool, .string ⟨e.val.text.toArray⟩, .float .f64 e.val.num]
  have B0 : Below w.heap.size w (w.alloc (.cells #[.int .i64 e.op, .slice B e.kids.length d, .string ⟨e.name.toArray⟩, .int .i64 e.val.kind, .int .i64 e.val.int, .bool e.val.bool, .string ⟨e.val.text.toArray⟩, .float .f64 e.val.num] 44)) := bW
  have KK := kk8 hL
  generalize kE fl (n + 1) e = r at *
  clear ih h hf hs hL hdp
  go_enter Tryz.func153, Tryz.ntmps153
  go_wp2_with fail
  generalize (w.alloc (.cells #[.int .i64 e.op, .slice B e.kids.length d, .string ⟨e.name.toArray⟩, .int .i64 e.val.kind, .int .i64 e.val.int, .bool e.val.bool, .string ⟨e.val.text.toArray⟩, .float .f64 e.val.num] 44)) = w0 at *
  go_loopw [7, 6] (fun v7 v6 wr => ∃ (i : Nat) (ks : List Int), i ≤ e.kids.length ∧ v7 = .int .i64 i ∧ Own kI 3 (fun _ => True) wr w0.heap.size v6 ks ∧ manyK (kE fl n) (e.kids.take i) = .ok ks ∧ Below w0.heap.size w0 wr) (fun v7 _ _ => e.kids.length - (intOf v7).toNat)
  case atStart => exact ⟨0, [], Nat.zero_le _, rfl, Own.nil _ _ _ _ _, rfl, Below.refl _ _⟩
  case round =>
   obtain ⟨i, ks, hi, rfl, ho, hm, hb⟩ := hrel
   have HM := Lib.hid hm
   have HO := Lib.hid ho
   have hlk : ks.length ≤ i := by rw [manyK_len' _ _ _ hm, List.length_take]; omega
   obtain ⟨A6, cc, rfl⟩ := ho.form
   clear hm ho
   obtain ⟨⟨c0, c1, c2, c3, c4, c5, c6, c7⟩, hz⟩ := KK.out wr bW
   by_cases hlt : i < e.kids.length
   ·obtain ⟨ad, x, k', X, y, rfl, hx, hk', hsx, q0, q1, q2, q3, q4, q5, q6, q7⟩ := exp_at (HS.out wr bW) hlt
    have HX := Lib.hid hx
    have HXE := Lib.hid (show ∀ W : World, Below wr.heap.size wr W → (kExp n).R (fun _ => True) W [.int .i64 x.op, .slice X x.kids.length y, .string ⟨x.name.toArray⟩, .int .i64 x.val.kind, .int .i64 x.val.int, .bool x.val.bool, .string ⟨x.val.text.toArray⟩, .float .f64 x.val.num] x from fun W hW => by rw [hk']; exact exp_mk (hsx.below hW))
    have HXM := Lib.hid (List.mem_of_getElem? hx)
    clear hx hk' hsx
    go_wp2_with fail
    refine (IH.out wr _ x (HKX.out x HXM.out) (HXE.out _ (Below.refl _ _)) (HF.out _ bW)).mono ?_
    rintro x9 w1 ⟨hret, hb1⟩
    have HO1 := Lib.hid (HO.out.below (w' := w1) hb1)
    have hb2 : Below w0.heap.size w0 w1 := bW
    clear q0 q1 q2 q3 q4 q5 q6 q7 c0 c1 c2 c3 c4 c5 c6 c7 hz hb1 hb HO
    have HSN := Lib.hid (manyK_snoc (kE fl n) x (e.kids.take i) ks HM.out)
    have HTK := Lib.hid (show e.kids.take (i + 1) = e.kids.take i ++ [x] by rw [List.take_add_one, HX.out]; rfl)
    have HER := Lib.hid (HD.out x HXM.out)
    cases hr : kE fl n x with
    | error y =>
     rw [hr] at HSN HER hret
     have hret : x9 = .returned (.tuple #[.int .i64 0, .int .i64 y]) := hret
     subst hret
     have hy : (y != 0) = true := by simp only [bne_iff_ne]; exact fun h => HER.out (by rw [h])
     have E1 := Lib.hid (show r = .error y by
      rw [E.out, ← List.take_append_drop (i + 1) e.kids, HTK.out, manyK_err (kE fl n) y _ _ HSN.out])
     go_wp2_with fail
     go_ret2
     rw [E1.out]
     exact ⟨rfl, bW⟩
    | ok z =>
     rw [hr] at HSN hret
     have hret : x9 = .returned (.tuple #[.int .i64 z, .int .i64 0]) := hret
     subst hret
     clear hr
     go_wp2_with (at_builtin; go_loud (refine at_append rfl (.tmp 30) (.tmp 32) 66 66 rfl rfl rfl (run_append_clp1 (P := Tryz.prog) (f := fun x : Int => Value.int .i64 x) (h1 := fun _ => rfl) Tryz.underlying66 Tryz.underlying66 infoInt rfl (.inr HO1.out) hb2.size z (by omega) (by omega)) ?_); rintro v' w' ⟨ho, hb⟩; have HO8 := Lib.hid ho; have hb8 : Below w0.heap.size w0 w' := Below.trans hb2 hb; clear ho hb)
     go_roundw
     case rel => exact ⟨i + 1, ks ++ [z], by omega, by go_num, HO8.out, by rw [HTK.out]; exact HSN.out, hb8⟩
     case measure => simp [intOf]; omega
   ·have HO2 := Lib.hid (show Own kI 3 (fun _ => True) wr w0.heap.size (.slice A6 ks.length cc) ks from HO.out)
    have E1 := Lib.hid (show r = kindOf fl e ks by rw [E.out, ← List.take_of_length_le (show e.kids.length ≤ i by omega), HM.out])
    have HKL := Lib.hid (show ks.length = e.kids.length by rw [manyK_len' _ _ _ HM.out, List.length_take]; omega)
    go_wp2_with fail
    refine (rkind_c (ks := ks) e HKL.out (HO2.out.sl (ok := fun _ => True) (fun _ _ => trivial)) (HF.out _ bW)).mono ?_
    rintro x9 w1 ⟨rfl, hb1⟩
    rw [← E1.out]
    go_wp2_with fail
    go_ret2
    exact ⟨rfl, bW⟩
/-- the reference's Check -/
theorem rCheckE_c {A : Option Addr} {N c : Nat} {fl : List Fld} {n : Nat} {cs : List Value} {e : Exp} (h : (kExp n).R (fun _ => True) w cs e) (hf : Sl kFld (fun _ => True) w (.slice A N c) fl) :
 Calls Tryz.prog 110 #[.agg cs.toArray, .slice A N c] w (Ret w (.tuple #[.int .i64 (chkE fl n e).1, .int .i64 (chkE fl n e).2])) := by
 have HH := Lib.hid h
 obtain ⟨m, B, d, hm, rfl, hs⟩ := exp_open h
 have SF := store_f64
 have HE := Lib.hid (show ∀ W : World, Below w.heap.size w W → (kExp n).R (fun _ => True) W [.int .i64 e.op, .slice B e.kids.length d, .string ⟨e.name.toArray⟩, .int .i64 e.val.kind, .int .i64 e.val.int, .bool e.val.bool, .string ⟨e.val.text.toArray⟩, .float .f64 e.val.num] e from fun W hW => (by rw [hm]; exact exp_mk (hs.below hW)))
 have HF := hidS hf
 have E := Lib.hid (show chkE fl n e = if small e then pairK (kE fl n e) else (0, 51) by unfold chkE pairK; rfl)
 have KB := Lib.hid (kb_small (e := e) n)
 have hL := Loc1.new w 44 #[.int .i64 e.op, .slice B e.kids.length d, .string ⟨e.name.toArray⟩, .int .i64 e.val.kind, .int .i64 e.val.int, .bool e.val.bool, .string ⟨e.val.text.toArray⟩, .float .f64 e.val.num]
 have B0 : Below w.heap.size w (w.alloc (.cells #[.int .i64 e.op, .slice B e.kids.length d, .string ⟨e.name.toArray⟩, .int .i64 e.val.kind, .int .i64 e.val.int, .bool e.val.bool, .string ⟨e.val.text.toArray⟩, .float .f64 e.val.num] 44)) := bW
 have KK := kk8 hL
 generalize chkE fl n e = r at *
 clear h hf hs hm hL
 go_enter Tryz.func110, Tryz.ntmps110
 go_wp2_with fail
 generalize (w.alloc (.cells #[.int .i64 e.op, .slice B e.kids.length d, .string ⟨e.name.toArray⟩, .int .i64 e.val.kind, .int .i64 e.val.int, .bool e.val.bool, .string ⟨e.val.text.toArray⟩, .float .f64 e.val.num] 44)) = w0 at *
 obtain ⟨⟨c0, c1, c2, c3, c4, c5, c6, c7⟩, hz⟩ := KK.out w0 bW
 go_wp2_with fail
 refine (small4_c (HE.out _ bW)).mono ?_
 rintro x9 w1 ⟨rfl, hb1⟩
 obtain ⟨⟨c0, c1, c2, c3, c4, c5, c6, c7⟩, hz⟩ := KK.out w1 bW
 cases hsm : small e
 ·have E1 := Lib.hid (show r = (0, 51) by rw [E.out, hsm]; rfl)
  go_wp2_with fail
  go_ret2
  rw [E1.out]
  exact ⟨rfl, bW⟩
 ·have E1 := Lib.hid (show r = pairK (kE fl n e) by rw [E.out, hsm]; rfl)
  have HKB := Lib.hid (KB.out hsm)
  go_wp2_with fail
  refine (rcheck_c n _ _ e HKB.out (HE.out _ bW) (HF.out _ bW)).mono ?_
  rw [← E1.out]
  rintro x9 w2 ⟨rfl, hb2⟩
  go_wp2_with fail
  go_ret2
  exact ⟨rfl, bW⟩
end
end Go.Proofs.YtjnhgfmjehaalaaGreat
/- Chapter 6: the reference's moves. -/
namespace Go.Proofs.YtjnhgfmjehaalaaGreat
open Go.RowKit
set_option linter.unusedVariables false
set_option linter.unusedSimpArgs false
def pMv (c : Con) (n : Nat) (l : List Eff) (i : Nat) (x : Eff) : Bool := gEff c.fields n x && (idx (fun y => y.field == x.field) l == (i : Int))
theorem idx_map {α β : Type} (f : α → β) (p : β → Bool) (l : List α) : idx p (l.map f) = idx (fun x => p (f x)) l := by
 unfold idx
 rw [List.findIdx?_map]
 rfl
theorem gMove_eq (c : Con) (n : Nat) (m : Mov) : gMove c n m = (gHead c n m && allI (pMv c n m.effects) m.effects) := by
 unfold gMove
 congr 1
 rw [Bool.eq_iff_iff, Bool.and_eq_true, List.all_eq_true, allI_iff]
 unfold apartB
 rw [allI_iff]
 constructor
 ·rintro ⟨h1, h2⟩ j x hx
  have h3 := h2 j x.field (by rw [List.getElem?_map, hx]; rfl)
  rw [idx_map] at h3
  unfold pMv
  rw [h1 x (List.mem_of_getElem? hx), h3]; rfl
 ·intro h
  refine ⟨fun x hx => ?_, fun j s hs => ?_⟩
  ·obtain ⟨j, hj, rfl⟩ := List.getElem_of_mem hx
   have := h j _ (List.getElem?_eq_getElem hj)
   unfold pMv at this
   rw [Bool.and_eq_true] at this
   exact this.1
  ·rw [List.getElem?_map] at hs
   cases hx : m.effects[j]? with
   | none => rw [hx] at hs; cases hs
   | some x =>
    rw [hx] at hs
    injection hs with hs
    subst hs
    have := h j x hx
    unfold pMv at this
    rw [Bool.and_eq_true] at this
    rw [idx_map]
    exact this.2
section
variable {w : World}
set_option maxRecDepth 100000 in
set_option maxHeartbeats 4000000 in
theorem rgmove_c {A B D : Option Addr} {a b d : Nat} {c : Con} {n : Nat} (m : Mov) {k : Nat} {M P : Option Addr} {u p : Nat} (hn : n = k + 1) (h1 : Sl kFld (fun _ => True) w (.slice A c.fields.length a) c.fields)
 (hg : Sl (kExp k) (fun _ => True) w (.slice M m.guard.kids.length u) m.guard.kids) (he : Sl (kEff n) (fun _ => True) w (.slice P m.effects.length p) m.effects) :
 Calls Tryz.prog 65 #[.agg #[.string ⟨c.name.toArray⟩, .slice A c.fields.length a, .slice B c.stages.length b, .slice D c.moves.length d], .agg #[.string ⟨m.name.toArray⟩, .int .i64 m.frm, .int .i64 m.tgt, .int .i64 m.guard.op, .slice M m.guard.kids.length u, .string ⟨m.guard.name.toArray⟩, .int .i64 m.guard.val.kind, .int .i64 m.guard.val.int, .bool m.guard.val.bool, .string ⟨m.guard.val.text.toArray⟩, .float .f64 m.guard.val.num, .slice P m.effects.length p, .int .i64 m.org]] w (Ret w (.bool (gMove c n m))) := by
 have SF := store_f64
 have HF := hidS h1
 have HG := Lib.hid (show ∀ W : World, Below w.heap.size w W → (kExp n).R (fun _ => True) W [.int .i64 m.guard.op, .slice M m.guard.kids.length u, .string ⟨m.guard.name.toArray⟩, .int .i64 m.guard.val.kind, .int .i64 m.guard.val.int, .bool m.guard.val.bool, .string ⟨m.guard.val.text.toArray⟩, .float .f64 m.guard.val.num] m.guard from fun W hW => by rw [hn]; exact exp_mk (hg.below hW))
 have HE := hidS he
 have E := Lib.hid (gMove_eq c n m)
 have EH := Lib.hid (show gHead c n m = (decide (0 ≤ m.frm) && decide (m.frm < (c.stages.length : Int)) && (decide (0 ≤ m.tgt) && decide (m.tgt < (c.stages.length : Int))) && decide (-1 ≤ m.org) && decide (m.org < 4) && decide (m.effects.length ≤ 4) && ((chkE c.fields n m.guard).2 == 0 && (chkE c.fields n m.guard).1 == 2)) from rfl)
 have hmax := he.len.2.2.1
 have hnc := he.len.2.1
 have hma := h1.len.2.2.1
 have hna := h1.len.2.1
 have B0 : Below w.heap.size w ((w.alloc (.cells #[.string ⟨c.name.toArray⟩, .slice A c.fields.length a, .slice B c.stages.length b, .slice D c.moves.length d] 26)).alloc (.cells #[.string ⟨m.name.toArray⟩, .int .i64 m.frm, .int .i64 m.tgt, .int .i64 m.guard.op, .slice M m.guard.kids.length u, .string ⟨m.guard.name.toArray⟩, .int .i64 m.guard.val.kind, .int .i64 m.guard.val.int, .bool m.guard.val.bool, .string ⟨m.guard.val.text.toArray⟩, .float .f64 m.guard.val.num, .slice P m.effects.length p, .int .i64 m.org] 47)) := bW
 have KK := Lib.hid (show ∀ W : World, Below ((w.alloc (.cells #[.string ⟨c.name.toArray⟩, .slice A c.fields.length a, .slice B c.stages.length b, .slice D c.moves.length d] 26)).alloc (.cells #[.string ⟨m.name.toArray⟩, .int .i64 m.frm, .int .i64 m.tgt, .int .i64 m.guard.op, .slice M m.guard.kids.length u, .string ⟨m.guard.name.toArray⟩, .int .i64 m.guard.val.kind, .int .i64 m.guard.val.int, .bool m.guard.val.bool, .string ⟨m.guard.val.text.toArray⟩, .float .f64 m.guard.val.num, .slice P m.effects.length p, .int .i64 m.org] 47)).heap.size ((w.alloc (.cells #[.string ⟨c.name.toArray⟩, .slice A c.fields.length a, .slice B c.stages.length b, .slice D c.moves.length d] 26)).alloc (.cells #[.string ⟨m.name.toArray⟩, .int .i64 m.frm, .int .i64 m.tgt, .int .i64 m.guard.op, .slice M m.guard.kids.length u, .string ⟨m.guard.name.toArray⟩, .int .i64 m.guard.val.kind, .int .i64 m.guard.val.int, .bool m.guard.val.bool, .string ⟨m.guard.val.text.toArray⟩, .float .f64 m.guard.val.num, .slice P m.effects.length p, .int .i64 m.org] 47)) W → (W.cell? ⟨w.heap.size, 0, none⟩ = some (.string ⟨c.name.toArray⟩) ∧ W.cell? ⟨w.heap.size, 1, none⟩ = some (.slice A c.fields.length a) ∧ W.cell? ⟨w.heap.size, 2, none⟩ = some (.slice B c.stages.length b) ∧ W.cell? ⟨w.heap.size, 3, none⟩ = some (.slice D c.moves.length d)) ∧ (W.cell? ⟨w.heap.size + 1, 0, none⟩ = some (.string ⟨m.name.toArray⟩) ∧ W.cell? ⟨w.heap.size + 1, 1, none⟩ = some (.int .i64 m.frm) ∧ W.cell? ⟨w.heap.size + 1, 2, none⟩ = some (.int .i64 m.tgt) ∧ W.cell? ⟨w.heap.size + 1, 3, none⟩ = some (.int .i64 m.guard.op) ∧ W.cell? ⟨w.heap.size + 1, 4, none⟩ = some (.slice M m.guard.kids.length u) ∧ W.cell? ⟨w.heap.size + 1, 5, none⟩ = some (.string ⟨m.guard.name.toArray⟩) ∧ W.cell? ⟨w.heap.size + 1, 6, none⟩ = some (.int .i64 m.guard.val.kind) ∧ W.cell? ⟨w.heap.size + 1, 7, none⟩ = some (.int .i64 m.guard.val.int) ∧ W.cell? ⟨w.heap.size + 1, 8, none⟩ = some (.bool m.guard.val.bool) ∧ W.cell? ⟨w.heap.size + 1, 9, none⟩ = some (.string ⟨m.guard.val.text.toArray⟩) ∧ W.cell? ⟨w.heap.size + 1, 10, none⟩ = some (.float .f64 m.guard.val.num) ∧ W.cell? ⟨w.heap.size + 1, 11, none⟩ = some (.slice P m.effects.length p) ∧ W.cell? ⟨w.heap.size + 1, 12, none⟩ = some (.int .i64 m.org)) ∧ w.heap.size + 1 < W.heap.size from fun W hW => by
  have h1 : Loc1 w.heap.size 26 #[.string ⟨c.name.toArray⟩, .slice A c.fields.length a, .slice B c.stages.length b, .slice D c.moves.length d] ((w.alloc (.cells #[.string ⟨c.name.toArray⟩, .slice A c.fields.length a, .slice B c.stages.length b, .slice D c.moves.length d] 26)).alloc (.cells #[.string ⟨m.name.toArray⟩, .int .i64 m.frm, .int .i64 m.tgt, .int .i64 m.guard.op, .slice M m.guard.kids.length u, .string ⟨m.guard.name.toArray⟩, .int .i64 m.guard.val.kind, .int .i64 m.guard.val.int, .bool m.guard.val.bool, .string ⟨m.guard.val.text.toArray⟩, .float .f64 m.guard.val.num, .slice P m.effects.length p, .int .i64 m.org] 47)) := (by (focus (repeat (first | with_reducible assumption | exact Loc1.newE _ _ _ (by simp) | with_reducible refine Loc1.al _ ?_ | with_reducible refine Loc1.dr ?_ | with_reducible refine Loc1.bel (by assumption) ?_))))
  have h2 : Loc1 (w.heap.size + 1) 47 #[.string ⟨m.name.toArray⟩, .int .i64 m.frm, .int .i64 m.tgt, .int .i64 m.guard.op, .slice M m.guard.kids.length u, .string ⟨m.guard.name.toArray⟩, .int .i64 m.guard.val.kind, .int .i64 m.guard.val.int, .bool m.guard.val.bool, .string ⟨m.guard.val.text.toArray⟩, .float .f64 m.guard.val.num, .slice P m.effects.length p, .int .i64 m.org] ((w.alloc (.cells #[.string ⟨c.name.toArray⟩, .slice A c.fields.length a, .slice B c.stages.length b, .slice D c.moves.length d] 26)).alloc (.cells #[.string ⟨m.name.toArray⟩, .int .i64 m.frm, .int .i64 m.tgt, .int .i64 m.guard.op, .slice M m.guard.kids.length u, .string ⟨m.guard.name.toArray⟩, .int .i64 m.guard.val.kind, .int .i64 m.guard.val.int, .bool m.guard.val.bool, .string ⟨m.guard.val.text.toArray⟩, .float .f64 m.guard.val.num, .slice P m.effects.length p, .int .i64 m.org] 47)) := (by (focus (repeat (first | with_reducible assumption | exact Loc1.newE _ _ _ (by simp) | with_reducible refine Loc1.al _ ?_ | with_reducible refine Loc1.dr ?_ | with_reducible refine Loc1.bel (by assumption) ?_))))
  exact ⟨⟨cell_of (h1.bel hW) 0, cell_of (h1.bel hW) 1, cell_of (h1.bel hW) 2, cell_of (h1.bel hW) 3⟩, ⟨cell_of (h2.bel hW) 0, cell_of (h2.bel hW) 1, cell_of (h2.bel hW) 2, cell_of (h2.bel hW) 3, cell_of (h2.bel hW) 4, cell_of (h2.bel hW) 5, cell_of (h2.bel hW) 6, cell_of (h2.bel hW) 7, cell_of (h2.bel hW) 8, cell_of (h2.bel hW) 9, cell_of (h2.bel hW) 10, cell_of (h2.bel hW) 11, cell_of (h2.bel hW) 12⟩, lt_of_heap (h2.bel hW)⟩)
 generalize gMove c n m = r at *
 have HCG := Lib.hid (show ∀ W : World, Below w.heap.size w W → Calls Tryz.prog 110 #[.agg #[.int .i64 m.guard.op, .slice M m.guard.kids.length u, .string ⟨m.guard.name.toArray⟩, .int .i64 m.guard.val.kind, .int .i64 m.guard.val.int, .bool m.guard.val.bool, .string ⟨m.guard.val.text.toArray⟩, .float .f64 m.guard.val.num], .slice A c.fields.length a] W (Ret W (.tuple #[.int .i64 (chkE c.fields n m.guard).1, .int .i64 (chkE c.fields n m.guard).2])) from fun W hW => rCheckE_c (HG.out W hW) (HF.out W hW))
 generalize chkE c.fields n m.guard = ck at *
 obtain ⟨k1, e1⟩ := ck
 clear h1 hg he hn HG
 cases hH : gHead c n m
 ·have E1 := Lib.hid (show r = false by rw [E.out, hH]; rfl)
  rw [hH] at EH
  clear hH
  have je : (e1 == 0) = !(e1 != 0) := by simp [bne]
  have jk : (k1 == 2) = !(k1 != 2) := by simp [bne]
  cases he : (e1 != 0) <;> cases hk : (k1 != 2)
  all_goals rw [he] at je
  all_goals rw [hk] at jk
  all_goals rw [je, jk] at EH
  all_goals clear je jk
  all_goals (go_enter Tryz.func65, Tryz.ntmps65)
  all_goals go_wp2_with (first
   | (go_at_call 110; refine (HCG.out _ bW).mono ?_; rintro x9 wz ⟨rfl, hb⟩; obtain ⟨⟨c0, c1, c2, c3⟩, ⟨m0, m1, m2, m3, m4, m5, m6, m7, m8, m9, m10, m11, m12⟩, hz⟩ := KK.out wz bW))
  all_goals first
   | (go_ret; rw [E1.out]; exact ⟨rfl, bW⟩)
   | (exfalso; have h9 := EH.out.symm; clear KK HF HE HCG EH E1 E; simp [*] at h9; done)
   | (exfalso; have h9 := EH.out.symm; clear KK HF HE HCG EH E1 E; simp [*] at h9; omega)
   | (exfalso; have h9 := EH.out.symm; clear KK HF HE HCG EH E1 E; simp_all; omega)
 have g := EH.out
 rw [hH] at g
 replace g := g.symm
 simp only [Bool.and_eq_true, decide_eq_true_eq] at g
 obtain ⟨⟨⟨⟨⟨⟨g1, g2⟩, g3, g4⟩, g5⟩, g6⟩, g7⟩, g8, g9⟩ := g
 have g7' : (m.effects.length : Int) ≤ 4 := by omega
 have g8' : (e1 != 0) = false := by simpa [bne] using g8
 have g9' : (k1 != 2) = false := by simpa [bne] using g9
 replace E := Lib.hid (show r = allI (pMv c n m.effects) m.effects by rw [E.out, hH]; rfl)
 clear hH EH g7 g8 g9
 go_enter Tryz.func65, Tryz.ntmps65
 go_wp2_with fail
 generalize ((w.alloc (.cells #[.string ⟨c.name.toArray⟩, .slice A c.fields.length a, .slice B c.stages.length b, .slice D c.moves.length d] 26)).alloc (.cells #[.string ⟨m.name.toArray⟩, .int .i64 m.frm, .int .i64 m.tgt, .int .i64 m.guard.op, .slice M m.guard.kids.length u, .string ⟨m.guard.name.toArray⟩, .int .i64 m.guard.val.kind, .int .i64 m.guard.val.int, .bool m.guard.val.bool, .string ⟨m.guard.val.text.toArray⟩, .float .f64 m.guard.val.num, .slice P m.effects.length p, .int .i64 m.org] 47)) = w0 at *
 obtain ⟨⟨c0, c1, c2, c3⟩, ⟨m0, m1, m2, m3, m4, m5, m6, m7, m8, m9, m10, m11, m12⟩, hz⟩ := KK.out w0 bW
 go_wp2_with fail
 refine (HCG.out _ bW).mono ?_
 rintro x9 w1 ⟨rfl, hb1⟩
 clear c0 c1 c2 c3 m0 m1 m2 m3 m4 m5 m6 m7 m8 m9 m10 m11 m12 hz
 obtain ⟨⟨c0, c1, c2, c3⟩, ⟨m0, m1, m2, m3, m4, m5, m6, m7, m8, m9, m10, m11, m12⟩, hz⟩ := KK.out w1 bW
 go_wp2_with fail
 clear g1 g2 g3 g4 g5 g6 g8' g9'
 clear c0 c1 c2 c3 m0 m1 m2 m3 m4 m5 m6 m7 m8 m9 m10 m11 m12 hz
 go_loopw [7] (fun v7 wr => ∃ i : Nat, i ≤ m.effects.length ∧ v7 = .int .i64 i ∧ (∀ j x, j < i → m.effects[j]? = some x → pMv c n m.effects j x = true) ∧ Below w0.heap.size w0 wr) (fun v7 _ => m.effects.length - (intOf v7).toNat)
 case atStart => exact ⟨0, Nat.zero_le _, rfl, allI_nil, hb1⟩
 case round =>
  clear hb1
  obtain ⟨i, hi, rfl, hp, hb⟩ := hrel
  have HP := Lib.hid hp
  clear hp
  obtain ⟨⟨c0, c1, c2, c3⟩, ⟨m0, m1, m2, m3, m4, m5, m6, m7, m8, m9, m10, m11, m12⟩, hz⟩ := KK.out wr bW
  by_cases hlt : i < m.effects.length
  rotate_left
  ·have E1 := Lib.hid (show r = true by rw [E.out]; exact allI_yes (n := i) (by omega) HP.out)
   go_wp2_with fail
   go_ret
   rw [E1.out]
   exact ⟨rfl, bW⟩
  obtain ⟨ad, x, k', X, y, rfl, hx, hk', hsx, q0, q1, q2, q3, q4, q5, q6, q7, q8⟩ := eff_at (HE.out wr bW) hlt
  have HX := Lib.hid hx
  have HXE := Lib.hid (show ∀ W : World, Below wr.heap.size wr W → (kExp n).R (fun _ => True) W [.int .i64 x.expr.op, .slice X x.expr.kids.length y, .string ⟨x.expr.name.toArray⟩, .int .i64 x.expr.val.kind, .int .i64 x.expr.val.int, .bool x.expr.val.bool, .string ⟨x.expr.val.text.toArray⟩, .float .f64 x.expr.val.num] x.expr from fun W hW => by rw [hk']; exact exp_mk (hsx.below hW))
  have KX := Lib.hid (show ∀ W : World, Below wr.heap.size wr W → W.cell? (ad.add (i * 9)) = some (.string ⟨x.field.toArray⟩) ∧ W.cell? ⟨(ad.add (i * 9)).block, (ad.add (i * 9)).off + 1, none⟩ = some (.int .i64 x.expr.op) ∧ W.cell? ⟨(ad.add (i * 9)).block, (ad.add (i * 9)).off + 2, none⟩ = some (.slice X x.expr.kids.length y) ∧ W.cell? ⟨(ad.add (i * 9)).block, (ad.add (i * 9)).off + 3, none⟩ = some (.string ⟨x.expr.name.toArray⟩) ∧ W.cell? ⟨(ad.add (i * 9)).block, (ad.add (i * 9)).off + 4, none⟩ = some (.int .i64 x.expr.val.kind) ∧ W.cell? ⟨(ad.add (i * 9)).block, (ad.add (i * 9)).off + 5, none⟩ = some (.int .i64 x.expr.val.int) ∧ W.cell? ⟨(ad.add (i * 9)).block, (ad.add (i * 9)).off + 6, none⟩ = some (.bool x.expr.val.bool) ∧ W.cell? ⟨(ad.add (i * 9)).block, (ad.add (i * 9)).off + 7, none⟩ = some (.string ⟨x.expr.val.text.toArray⟩) ∧ W.cell? ⟨(ad.add (i * 9)).block, (ad.add (i * 9)).off + 8, none⟩ = some (.float .f64 x.expr.val.num) from fun W hW => ⟨keepC q0 hW, keepC q1 hW, keepC q2 hW, keepC q3 hW, keepC q4 hW, keepC q5 hW, keepC q6 hW, keepC q7 hW, keepC q8 hW⟩)
  have hi0 : (0 : Int) ≤ (i : Int) := by omega
  have hi1 : (i : Int) < (m.effects.length : Int) := by omega
  clear hx hk' hsx q0 q1 q2 q3 q4 q5 q6 q7 q8
  go_upto_region 9 with (fail)
  clear c0 c1 c2 c3 m0 m1 m2 m3 m4 m5 m6 m7 m8 m9 m10 m11 m12 hz
  have K9 := Lib.hid (show ∀ W : World, Below wr.heap.size wr W → (W.cell? ⟨w.heap.size, 0, none⟩ = some (.string ⟨c.name.toArray⟩) ∧ W.cell? ⟨w.heap.size, 1, none⟩ = some (.slice A c.fields.length a) ∧ W.cell? ⟨w.heap.size, 2, none⟩ = some (.slice B c.stages.length b) ∧ W.cell? ⟨w.heap.size, 3, none⟩ = some (.slice D c.moves.length d)) ∧ W.cell? ⟨w.heap.size + 1, 11, none⟩ = some (.slice (some ad) m.effects.length p) ∧ W.cell? (ad.add (i * 9)) = some (.string ⟨x.field.toArray⟩) from fun W hW => by
   have h1 := KX.out W hW
   have h2 := KK.out W bW
   exact ⟨h2.1, h2.2.1.2.2.2.2.2.2.2.2.2.2.2.1, h1.1⟩)
  go_region_held3 (fun W => (W.cell? ⟨w.heap.size, 0, none⟩ = some (.string ⟨c.name.toArray⟩) ∧ W.cell? ⟨w.heap.size, 1, none⟩ = some (.slice A c.fields.length a) ∧ W.cell? ⟨w.heap.size, 2, none⟩ = some (.slice B c.stages.length b) ∧ W.cell? ⟨w.heap.size, 3, none⟩ = some (.slice D c.moves.length d)) ∧ W.cell? ⟨w.heap.size + 1, 11, none⟩ = some (.slice (some ad) m.effects.length p) ∧ W.cell? (ad.add (i * 9)) = some (.string ⟨x.field.toArray⟩)) (exact K9.out _ bW)
   (first | (go_at_call 106; refine (rfield_c (n := 0) x.field (HF.out _ bW)).mono ?_; rintro x9 w6 ⟨rfl, hb6⟩))
  clear K9
  have hlt' := Lib.hid (idx_lt (p := fun e : Fld => e.name == x.field) (l := c.fields))
  have HGE := Lib.hid (show pMv c n m.effects i x = ((decide (0 ≤ idx (fun e => e.name == x.field) c.fields) && ((chkE c.fields n x.expr).2 == 0 && (chkE c.fields n x.expr).1 == kindAt c.fields (idx (fun e => e.name == x.field) c.fields))) && (idx (fun y => y.field == x.field) m.effects == (i : Int))) from rfl)
  generalize idx (fun e => e.name == x.field) c.fields = ix at *
  have E0 := Lib.hid (show pMv c n m.effects i x = false → r = false from fun h => E.out.trans (allI_no HX.out h))
  have E1 := Lib.hid (show pMv c n m.effects i x = true → ∀ j e, j < i + 1 → m.effects[j]? = some e → pMv c n m.effects j e = true from fun h => allI_step HP.out HX.out h)
  clear HP E
  by_cases hix : 0 ≤ ix
  rotate_left
  ·have E2 := Lib.hid (E0.out (by rw [HGE.out, decide_eq_false hix]; rfl))
   go_wp2_with fail
   go_ret
   rw [E2.out]
   exact ⟨rfl, bW⟩
  obtain ⟨q, f, rfl, hf, -⟩ := hlt'.out hix
  clear hlt' hix
  have hq : q < c.fields.length := (List.getElem?_eq_some_iff.1 hf).1
  obtain ⟨adF, f', B', d', rfl, hf', -, -, ck, -⟩ := fld_at (HF.out w6 bW) hq
  obtain rfl : f' = f := by rw [hf] at hf'; injection hf' with e; exact e.symm
  replace HGE := Lib.hid (show pMv c n m.effects i x = (((chkE c.fields n x.expr).2 == 0 && (chkE c.fields n x.expr).1 == f'.kind) && (idx (fun y => y.field == x.field) m.effects == (i : Int))) by
   rw [HGE.out, decide_eq_true (Int.natCast_nonneg q), Bool.true_and]
   unfold kindAt
   rw [Int.toNat_natCast, hf])
  clear hf hf'
  have HCX := Lib.hid (show ∀ W : World, Below wr.heap.size wr W → Calls Tryz.prog 110 #[.agg #[.int .i64 x.expr.op, .slice X x.expr.kids.length y, .string ⟨x.expr.name.toArray⟩, .int .i64 x.expr.val.kind, .int .i64 x.expr.val.int, .bool x.expr.val.bool, .string ⟨x.expr.val.text.toArray⟩, .float .f64 x.expr.val.num], .slice (some adF) c.fields.length a] W (Ret W (.tuple #[.int .i64 (chkE c.fields n x.expr).1, .int .i64 (chkE c.fields n x.expr).2])) from fun W hW => rCheckE_c (HXE.out W hW) (HF.out W bW))
  generalize chkE c.fields n x.expr = ce at *
  obtain ⟨k2, e2⟩ := ce
  have hq' : (0 : Int) ≤ (q : Int) := by omega
  have hq2 : (q : Int) < (c.fields.length : Int) := by omega
  have hq3 : decide ((q : Int) < 0) = false := decide_eq_false (by omega)
  go_upto_region 12 with (fail)
  have K12 := Lib.hid (show ∀ W : World, Below w6.heap.size w6 W → W.cell? ⟨w.heap.size, 1, none⟩ = some (.slice (some adF) c.fields.length a) ∧ W.cell? ⟨w.heap.size + 1, 11, none⟩ = some (.slice (some ad) m.effects.length p) ∧ W.cell? ⟨(ad.add (i * 9)).block, (ad.add (i * 9)).off + 1, none⟩ = some (.int .i64 x.expr.op) ∧ W.cell? ⟨(ad.add (i * 9)).block, (ad.add (i * 9)).off + 2, none⟩ = some (.slice X x.expr.kids.length y) ∧ W.cell? ⟨(ad.add (i * 9)).block, (ad.add (i * 9)).off + 3, none⟩ = some (.string ⟨x.expr.name.toArray⟩) ∧ W.cell? ⟨(ad.add (i * 9)).block, (ad.add (i * 9)).off + 4, none⟩ = some (.int .i64 x.expr.val.kind) ∧ W.cell? ⟨(ad.add (i * 9)).block, (ad.add (i * 9)).off + 5, none⟩ = some (.int .i64 x.expr.val.int) ∧ W.cell? ⟨(ad.add (i * 9)).block, (ad.add (i * 9)).off + 6, none⟩ = some (.bool x.expr.val.bool) ∧ W.cell? ⟨(ad.add (i * 9)).block, (ad.add (i * 9)).off + 7, none⟩ = some (.string ⟨x.expr.val.text.toArray⟩) ∧ W.cell? ⟨(ad.add (i * 9)).block, (ad.add (i * 9)).off + 8, none⟩ = some (.float .f64 x.expr.val.num) from fun W hW => by
   have h1 := KX.out W bW
   have h2 := KK.out W bW
   exact ⟨h2.1.2.1, h2.2.1.2.2.2.2.2.2.2.2.2.2.2.1, h1.2⟩)
  go_region_held3 (fun W => W.cell? ⟨w.heap.size, 1, none⟩ = some (.slice (some adF) c.fields.length a) ∧ W.cell? ⟨w.heap.size + 1, 11, none⟩ = some (.slice (some ad) m.effects.length p) ∧ W.cell? ⟨(ad.add (i * 9)).block, (ad.add (i * 9)).off + 1, none⟩ = some (.int .i64 x.expr.op) ∧ W.cell? ⟨(ad.add (i * 9)).block, (ad.add (i * 9)).off + 2, none⟩ = some (.slice X x.expr.kids.length y) ∧ W.cell? ⟨(ad.add (i * 9)).block, (ad.add (i * 9)).off + 3, none⟩ = some (.string ⟨x.expr.name.toArray⟩) ∧ W.cell? ⟨(ad.add (i * 9)).block, (ad.add (i * 9)).off + 4, none⟩ = some (.int .i64 x.expr.val.kind) ∧ W.cell? ⟨(ad.add (i * 9)).block, (ad.add (i * 9)).off + 5, none⟩ = some (.int .i64 x.expr.val.int) ∧ W.cell? ⟨(ad.add (i * 9)).block, (ad.add (i * 9)).off + 6, none⟩ = some (.bool x.expr.val.bool) ∧ W.cell? ⟨(ad.add (i * 9)).block, (ad.add (i * 9)).off + 7, none⟩ = some (.string ⟨x.expr.val.text.toArray⟩) ∧ W.cell? ⟨(ad.add (i * 9)).block, (ad.add (i * 9)).off + 8, none⟩ = some (.float .f64 x.expr.val.num)) (exact K12.out _ bW)
   (first | (go_at_call 110; refine (HCX.out _ bW).mono ?_; rintro x9 w7 ⟨rfl, hb7⟩))
  clear K12
  have ck7 := keepC ck (show Below w6.heap.size w6 w7 from bW)
  obtain ⟨⟨c0, c1, c2, c3⟩, ⟨m0, m1, m2, m3, m4, m5, m6, m7, m8, m9, m10, m11, m12⟩, hz⟩ := KK.out w7 bW
  cases he2 : (e2 != 0)
  rotate_left
  ·have E2 := Lib.hid (E0.out (by rw [HGE.out, show (e2 == 0) = false by simpa [bne] using he2]; rfl))
   go_wp2_with fail
   go_ret
   rw [E2.out]
   exact ⟨rfl, bW⟩
  cases hk2 : (k2 != f'.kind)
  rotate_left
  ·have E2 := Lib.hid (E0.out (by rw [HGE.out, show (k2 == f'.kind) = false by simpa [bne] using hk2]; simp))
   go_wp2_with fail
   go_ret
   rw [E2.out]
   exact ⟨rfl, bW⟩
  replace HGE := Lib.hid (show pMv c n m.effects i x = (idx (fun y => y.field == x.field) m.effects == (i : Int)) by
   rw [HGE.out, show (e2 == 0) = true by simpa [bne] using he2, show (k2 == f'.kind) = true by simpa [bne] using hk2]; rfl)
  go_wp2_with fail
  clear c0 c1 c2 c3 m0 m1 m2 m3 m4 m5 m6 m7 m8 m9 m10 m11 m12 hz
  clear ck ck7 he2 hk2 hq' hq2 hq3
  go_loopw [11] (fun v11 wy => ∃ t : Nat, t ≤ i ∧ v11 = .int .i64 t ∧ (∀ j o, j < t → m.effects[j]? = some o → (fun (_ : Nat) (o : Eff) => o.field == x.field) j o = false) ∧ Below w7.heap.size w7 wy) (fun v11 _ => i - (intOf v11).toNat)
  case atStart => exact ⟨0, Nat.zero_le _, rfl, allI_nil, Below.refl _ _⟩
  case round =>
   obtain ⟨t, ht, rfl, hq, hby⟩ := hrel
   have HQ := Lib.hid hq
   clear hq
   obtain ⟨⟨c0, c1, c2, c3⟩, ⟨m0, m1, m2, m3, m4, m5, m6, m7, m8, m9, m10, m11, m12⟩, hz⟩ := KK.out wr bW
   by_cases hti : t < i
   rotate_left
   ·have hti' : t = i := by omega
    have HM := Lib.hid (E1.out (by rw [HGE.out, idx_at (i := i) (p := fun y : Eff => y.field == x.field) (fun j o hj ho => HQ.out j o (by omega) ho) HX.out (by simp)]; simp))
    clear hti'
    go_wp2_with fail
    go_roundw
    case rel => exact ⟨i + 1, by omega, by go_num, HM.out, bW⟩
    case measure => simp [intOf]; omega
   obtain ⟨ad2, z, -, -, -, ea, hz', -, -, cz, -⟩ := eff_at (HE.out wr bW) (show t < m.effects.length by omega)
   injection ea with ea
   subst ea
   have HZ := Lib.hid hz'
   have cx := (KX.out wr bW).1
   have ht0 : (0 : Int) ≤ (t : Int) := by omega
   have ht1 : (t : Int) < (m.effects.length : Int) := by omega
   clear hz'
   cases hm : (z.field == x.field)
   ·have HS2 := Lib.hid (allI_step (q := fun (_ : Nat) (o : Eff) => o.field == x.field) HQ.out HZ.out hm)
    go_wp2_with fail
    go_quiet ((fail))
    go_wp2_with fail
    go_roundw
    case rel => exact ⟨t + 1, by omega, by go_num, HS2.out, bW⟩
    case measure => simp [intOf]; omega
   ·have hid := idx_le (p := fun y : Eff => y.field == x.field) HZ.out hm
    have E2 := Lib.hid (E0.out (by rw [HGE.out, beq_eq_false_iff_ne]; omega))
    clear hid
    go_wp2_with fail
    go_quiet ((fail))
    go_wp2_with fail
    go_ret
    rw [E2.out]
    exact ⟨rfl, bW⟩
end
end Go.Proofs.YtjnhgfmjehaalaaGreat
