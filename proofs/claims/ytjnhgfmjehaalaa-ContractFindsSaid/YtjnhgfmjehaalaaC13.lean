/- Chapter 6: the reference's Check of expressions, whole. -/
import Derived.Test.YtjnhgfmjehaalaaC12a
import Derived.Test.YtjnhgfmjehaalaaC12b
import Derived.Test.YtjnhgfmjehaalaaC12c
import Derived.Test.YtjnhgfmjehaalaaP7
namespace Go.Proofs.Ytjnhgfmjehaalaa
open Go.RowKit
set_option linter.unusedVariables false
set_option linter.unusedSimpArgs false
theorem manyK_len' (p : Exp → Except Int Int) : ∀ (l : List Exp) (ks : List Int), manyK p l = .ok ks → ks.length = l.length
  | [], ks, h => by injection h with h; subst h; rfl
  | a :: l, ks, h => by
    rw [manyK] at h
    cases ha : p a with
    | error x => rw [ha] at h; cases h
    | ok k =>
      rw [ha] at h
      simp only at h
      cases hl : manyK p l with
      | error x => rw [hl] at h; cases h
      | ok ks' => rw [hl] at h; injection h with h; subst h; rw [List.length_cons, List.length_cons, manyK_len' p l ks' hl]
/-- so many parts of its own, and of theirs -/
def Kb : Nat → Exp → Prop
  | 0, _ => True
  | n + 1, e => e.kids.length ≤ 24 ∧ ∀ x ∈ e.kids, Kb n x
theorem spF_ok (d : Nat) (hd : ∀ (x : Exp) (M M' : Int), spD d x M = (true, M') → 0 ≤ M' ∧ M' ≤ M - 1) : ∀ (l : List Exp) (M M' : Int), 0 ≤ M → l.foldl (spF d) (true, M) = (true, M') → 0 ≤ M' ∧ M' ≤ M - l.length ∧ ∀ x ∈ l, ∃ a b, spD d x a = (true, b) ∧ a ≤ M
  | [], M, M', h0, h => by
    injection h with _ h
    subst h
    exact ⟨h0, by simp, fun x hx => by cases hx⟩
  | x :: l, M, M', h0, h => by
    rw [List.foldl_cons] at h
    have e : spF d (true, M) x = spD d x M := rfl
    rw [e] at h
    cases hr : spD d x M with
    | mk b M1 =>
      rw [hr] at h
      cases b with
      | false => rw [spF_no] at h; injection h with h; cases h
      | true =>
        obtain ⟨h1, h2⟩ := hd x M M1 hr
        obtain ⟨h3, h4, h5⟩ := spF_ok d hd l M1 M' h1 h
        refine ⟨h3, by rw [List.length_cons]; omega, fun y hy => ?_⟩
        rcases List.mem_cons.1 hy with rfl | hy
        · exact ⟨M, M1, hr, Int.le_refl _⟩
        · obtain ⟨a, b, h6, h7⟩ := h5 y hy
          exact ⟨a, b, h6, by omega⟩
theorem spD_ok : ∀ (d : Nat) (e : Exp) (N N' : Int), spD d e N = (true, N') → 0 ≤ N' ∧ N' ≤ N - 1 ∧ (e.kids.length : Int) ≤ N - 1 ∧ ∀ x ∈ e.kids, ∃ M M', spD (d - 1) x M = (true, M') ∧ M ≤ N - 1
  | 0, e, N, N', h => by injection h with h; cases h
  | d + 1, e, N, N', h => by
    rw [spD] at h
    by_cases hN : N - 1 < 0
    · rw [if_pos hN] at h; injection h with h; cases h
    · rw [if_neg hN] at h
      obtain ⟨h1, h2, h3⟩ := spF_ok d (fun x M M' hx => by obtain ⟨a, b, _⟩ := spD_ok d x M M' hx; exact ⟨a, b⟩) e.kids (N - 1) N' (by omega) h
      exact ⟨h1, by omega, by omega, h3⟩
theorem kb_of : ∀ (n d : Nat) (e : Exp) (N N' : Int), N ≤ 24 → spD d e N = (true, N') → Kb n e
  | 0, _, _, _, _, _, _ => trivial
  | n + 1, d, e, N, N', hN, h => by
    obtain ⟨_, _, h3, h4⟩ := spD_ok d e N N' h
    refine ⟨by omega, fun x hx => ?_⟩
    obtain ⟨M, M', h5, h6⟩ := h4 x hx
    exact kb_of n (d - 1) x M M' (by omega) h5
theorem kb_small {e : Exp} (n : Nat) (h : small e = true) : Kb n e := by
  unfold small at h
  cases hr : spD 6 e 24 with
  | mk b N' =>
    rw [hr] at h
    have h : b = true := h
    subst h
    exact kb_of n 6 e 24 N' (by decide) hr
theorem infoInt : (Try.prog.info? 3).map (fun i => (i.zero, i.size, i.bytes)) = some (some (.int .i64 0), 1, 8) := by kernel_rfl
section
variable {w : World}
theorem rkind_c {A K : Option Addr} {N c kc : Nat} {fl : List Fld} {ks : List Int} {B : Option Addr} {d : Nat} (e : Exp) (hk : ks.length = e.kids.length)
    (hks : Sl kI (fun _ => True) w (.slice K ks.length kc) ks) (hf : Sl kFld (fun _ => True) w (.slice A N c) fl) :
    Calls Try.prog 92 #[.agg #[.int .i64 e.op, .slice B e.kids.length d, .string ⟨e.name.toArray⟩, .int .i64 e.val.kind, .int .i64 e.val.int, .bool e.val.bool, .string ⟨e.val.text.toArray⟩, .float .f64 e.val.num], .slice K ks.length kc, .slice A N c] w (Ret w (.tuple #[.int .i64 (pairK (kindOf fl e ks)).1, .int .i64 (pairK (kindOf fl e ks)).2])) := by
  obtain ⟨op, kids, name, val⟩ := e
  by_cases hg : ariF op = (kids.length : Int) ∧ (op = 2 ∨ name = []) ∧ (op = 1 ∨ sameV val zV = true)
  · obtain ⟨hA, hB, hC⟩ := hg
    rcases ari_16 hA with h | h | h | h | h | h | h | h | h | h | h | h | h | h | h | h
    · exact rkind1 op kids name val hk h hA hB hC hks hf
    · exact rkind2 op kids name val hk h hA hB hC hks hf
    · exact rkind3 op kids name val hk h hA hB hC hks hf
    · exact rkind4 op kids name val hk h hA hB hC hks hf
    · exact rkind5 op kids name val hk h hA hB hC hks hf
    · exact rkind6 op kids name val hk h hA hB hC hks hf
    · exact rkind7 op kids name val hk h hA hB hC hks hf
    · exact rkind8 op kids name val hk h hA hB hC hks hf
    · exact rkind9 op kids name val hk h hA hB hC hks hf
    · exact rkind10 op kids name val hk h hA hB hC hks hf
    · exact rkind11 op kids name val hk h hA hB hC hks hf
    · exact rkind12 op kids name val hk h hA hB hC hks hf
    · exact rkind13 op kids name val hk h hA hB hC hks hf
    · exact rkind14 op kids name val hk h hA hB hC hks hf
    · exact rkind15 op kids name val hk h hA hB hC hks hf
    · exact rkind16 op kids name val hk h hA hB hC hks hf
  · exact rkind_no op kids name val hg hk hks hf
set_option maxRecDepth 20000 in
set_option maxHeartbeats 4000000 in
theorem rcheck_c {A : Option Addr} {N c : Nat} {fl : List Fld} : ∀ (n : Nat) (w : World) (cs : List Value) (e : Exp), Kb n e → (kExp n).R (fun _ => True) w cs e → Sl kFld (fun _ => True) w (.slice A N c) fl →
    Calls Try.prog 77 #[.agg cs.toArray, .slice A N c] w (Ret w (.tuple #[.int .i64 (pairK (kE fl n e)).1, .int .i64 (pairK (kE fl n e)).2])) := by
  intro n
  induction n with
  | zero => intro w cs e _ h; exact h.elim
  | succ n ih =>
    intro w cs e hkb h hf
    obtain ⟨h24, hkx⟩ := hkb
    have HKX := Lib.hid hkx
    clear hkx
    have hdp := kR_dp h
    obtain ⟨k, B, d, hk, rfl, hs⟩ := exp_open h
    obtain rfl : n = k := by omega
    have SF := store_f64
    have IH := Lib.hid ih
    have HD := Lib.hid (show ∀ x ∈ e.kids, ¬ kE fl n x = .error 0 from fun x hx => kE_err n x (hdp x hx))
    have HF := Lib.hid (show ∀ W : World, Below w.heap.size w W → Sl kFld (fun _ => True) W (.slice A N c) fl from fun W hW => hf.below hW)
    have HS := Lib.hid (show ∀ W : World, Below w.heap.size w W → Sl (kExp n) (fun _ => True) W (.slice B e.kids.length d) e.kids from fun W hW => hs.below hW)
    have E := Lib.hid (show kE fl (n + 1) e = match manyK (kE fl n) e.kids with | .error x => .error x | .ok ks => kindOf fl e ks from rfl)
    have hmax := hs.len.2.2.1
    have hnc := hs.len.2.1
    have hL : Loc1 w.heap.size 44 #[.int .i64 e.op, .slice B e.kids.length d, .string ⟨e.name.toArray⟩, .int .i64 e.val.kind, .int .i64 e.val.int, .bool e.val.bool, .string ⟨e.val.text.toArray⟩, .float .f64 e.val.num] (w.alloc (.cells #[.int .i64 e.op, .slice B e.kids.length d, .string ⟨e.name.toArray⟩, .int .i64 e.val.kind, .int .i64 e.val.int, .bool e.val.bool, .string ⟨e.val.text.toArray⟩, .float .f64 e.val.num] 44)) := Loc1.new _ _ _
    have B0 : Below w.heap.size w (w.alloc (.cells #[.int .i64 e.op, .slice B e.kids.length d, .string ⟨e.name.toArray⟩, .int .i64 e.val.kind, .int .i64 e.val.int, .bool e.val.bool, .string ⟨e.val.text.toArray⟩, .float .f64 e.val.num] 44)) := (by (focus (repeat (first | with_reducible exact Below.refl _ _ | with_reducible assumption | with_reducible refine bel_al _ ?_ | with_reducible refine bel_dr ?_ | with_reducible refine bel_dn _ ?_ | with_reducible refine bel_tr (by assumption) ?_))))
    have KK := Lib.hid (show ∀ W : World, Below (w.alloc (.cells #[.int .i64 e.op, .slice B e.kids.length d, .string ⟨e.name.toArray⟩, .int .i64 e.val.kind, .int .i64 e.val.int, .bool e.val.bool, .string ⟨e.val.text.toArray⟩, .float .f64 e.val.num] 44)).heap.size (w.alloc (.cells #[.int .i64 e.op, .slice B e.kids.length d, .string ⟨e.name.toArray⟩, .int .i64 e.val.kind, .int .i64 e.val.int, .bool e.val.bool, .string ⟨e.val.text.toArray⟩, .float .f64 e.val.num] 44)) W → (W.cell? ⟨w.heap.size, 0, none⟩ = some (.int .i64 e.op) ∧ W.cell? ⟨w.heap.size, 1, none⟩ = some (.slice B e.kids.length d) ∧ W.cell? ⟨w.heap.size, 2, none⟩ = some (.string ⟨e.name.toArray⟩) ∧ W.cell? ⟨w.heap.size, 3, none⟩ = some (.int .i64 e.val.kind) ∧ W.cell? ⟨w.heap.size, 4, none⟩ = some (.int .i64 e.val.int) ∧ W.cell? ⟨w.heap.size, 5, none⟩ = some (.bool e.val.bool) ∧ W.cell? ⟨w.heap.size, 6, none⟩ = some (.string ⟨e.val.text.toArray⟩) ∧ W.cell? ⟨w.heap.size, 7, none⟩ = some (.float .f64 e.val.num)) ∧ w.heap.size < W.heap.size from fun W hW => ⟨⟨cell_of (hL.bel hW) 0, cell_of (hL.bel hW) 1, cell_of (hL.bel hW) 2, cell_of (hL.bel hW) 3, cell_of (hL.bel hW) 4, cell_of (hL.bel hW) 5, cell_of (hL.bel hW) 6, cell_of (hL.bel hW) 7⟩, lt_of_heap (hL.bel hW)⟩)
    generalize kE fl (n + 1) e = r at *
    clear ih h hf hs hL hdp
    go_enter Try.func77, Try.ntmps77
    go_wp2_with fail
    generalize (w.alloc (.cells #[.int .i64 e.op, .slice B e.kids.length d, .string ⟨e.name.toArray⟩, .int .i64 e.val.kind, .int .i64 e.val.int, .bool e.val.bool, .string ⟨e.val.text.toArray⟩, .float .f64 e.val.num] 44)) = w0 at *
    go_loopw [7, 6] (fun v7 v6 wr => ∃ (i : Nat) (ks : List Int), i ≤ e.kids.length ∧ v7 = .int .i64 i ∧ Own kI 3 (fun _ => True) wr w0.heap.size v6 ks ∧ manyK (kE fl n) (e.kids.take i) = .ok ks ∧ Below w0.heap.size w0 wr) (fun v7 _ _ => e.kids.length - (intOf v7).toNat)
    case atStart => exact ⟨0, [], Nat.zero_le _, rfl, Own.nil _ _ _ _ _, rfl, Below.refl _ _⟩
    case round =>
      obtain ⟨i, ks, hi, rfl, ho, hm, hb⟩ := hrel
      have HM := Lib.hid hm
      have HO := Lib.hid ho
      have hlk : ks.length ≤ i := by rw [manyK_len' _ _ _ hm, List.length_take]; omega
      obtain ⟨A6, cc, rfl⟩ := ho.form
      clear hm ho
      obtain ⟨⟨c0, c1, c2, c3, c4, c5, c6, c7⟩, hz⟩ := KK.out wr (by (focus (repeat (first | with_reducible exact Below.refl _ _ | with_reducible assumption | with_reducible refine bel_al _ ?_ | with_reducible refine bel_dr ?_ | with_reducible refine bel_dn _ ?_ | with_reducible refine bel_tr (by assumption) ?_))))
      by_cases hlt : i < e.kids.length
      · obtain ⟨ad, x, k', X, y, rfl, hx, hk', hsx, q0, q1, q2, q3, q4, q5, q6, q7⟩ := exp_at (HS.out wr (by (focus (repeat (first | with_reducible exact Below.refl _ _ | with_reducible assumption | with_reducible refine bel_al _ ?_ | with_reducible refine bel_dr ?_ | with_reducible refine bel_dn _ ?_ | with_reducible refine bel_tr (by assumption) ?_))))) hlt
        have HX := Lib.hid hx
        have HXE := Lib.hid (show ∀ W : World, Below wr.heap.size wr W → (kExp n).R (fun _ => True) W [.int .i64 x.op, .slice X x.kids.length y, .string ⟨x.name.toArray⟩, .int .i64 x.val.kind, .int .i64 x.val.int, .bool x.val.bool, .string ⟨x.val.text.toArray⟩, .float .f64 x.val.num] x from fun W hW => by rw [hk']; exact exp_mk (hsx.below hW))
        have HXM := Lib.hid (List.mem_of_getElem? hx)
        clear hx hk' hsx
        go_wp2_with fail
        refine (IH.out wr _ x (HKX.out x HXM.out) (HXE.out _ (Below.refl _ _)) (HF.out _ (by (focus (repeat (first | with_reducible exact Below.refl _ _ | with_reducible assumption | with_reducible refine bel_al _ ?_ | with_reducible refine bel_dr ?_ | with_reducible refine bel_dn _ ?_ | with_reducible refine bel_tr (by assumption) ?_)))))).mono ?_
        rintro x9 w1 ⟨hret, hb1⟩
        have HO1 := Lib.hid (HO.out.below (w' := w1) hb1)
        have hb2 : Below w0.heap.size w0 w1 := (by (focus (repeat (first | with_reducible exact Below.refl _ _ | with_reducible assumption | with_reducible refine bel_al _ ?_ | with_reducible refine bel_dr ?_ | with_reducible refine bel_dn _ ?_ | with_reducible refine bel_tr (by assumption) ?_))))
        clear q0 q1 q2 q3 q4 q5 q6 q7 c0 c1 c2 c3 c4 c5 c6 c7 hz hb1 hb HO
        have HSN := Lib.hid (manyK_snoc (kE fl n) x (e.kids.take i) ks HM.out)
        have HTK := Lib.hid (show e.kids.take (i + 1) = e.kids.take i ++ [x] by rw [List.take_add_one, HX.out]; rfl)
        have HER := Lib.hid (HD.out x HXM.out)
        cases hr : kE fl n x with
        | error y =>
          rw [hr] at HSN HER hret
          have hret : x9 = .returned (.tuple #[.int .i64 0, .int .i64 y]) := hret
          subst hret
          have hy : (y != 0) = true := by simp only [bne_iff_ne]; exact fun h => HER.out (by rw [h])
          have E1 := Lib.hid (show r = .error y by
            rw [E.out, ← List.take_append_drop (i + 1) e.kids, HTK.out, manyK_err (kE fl n) y _ _ HSN.out])
          go_wp2_with fail
          go_ret2
          rw [E1.out]
          exact ⟨rfl, (by (focus (repeat (first | with_reducible exact Below.refl _ _ | with_reducible assumption | with_reducible refine bel_al _ ?_ | with_reducible refine bel_dr ?_ | with_reducible refine bel_dn _ ?_ | with_reducible refine bel_tr (by assumption) ?_))))⟩
        | ok z =>
          rw [hr] at HSN hret
          have hret : x9 = .returned (.tuple #[.int .i64 z, .int .i64 0]) := hret
          subst hret
          clear hr
          go_wp2_with (at_builtin; go_loud (refine at_append rfl (.tmp 30) (.tmp 32) 39 39 rfl rfl rfl (run_append_clp1 (P := Try.prog) (f := fun x : Int => Value.int .i64 x) (h1 := fun _ => rfl) Try.underlying39 Try.underlying39 infoInt rfl (.inr HO1.out) hb2.size z (by omega) (by omega)) ?_); rintro v' w' ⟨ho, hb⟩; have HO8 := Lib.hid ho; have hb8 : Below w0.heap.size w0 w' := Below.trans hb2 hb; clear ho hb)
          go_roundw
          case rel => exact ⟨i + 1, ks ++ [z], by omega, by go_num, HO8.out, by rw [HTK.out]; exact HSN.out, hb8⟩
          case measure => simp [intOf]; omega
      · have HO2 := Lib.hid (show Own kI 3 (fun _ => True) wr w0.heap.size (.slice A6 ks.length cc) ks from HO.out)
        have E1 := Lib.hid (show r = kindOf fl e ks by rw [E.out, ← List.take_of_length_le (show e.kids.length ≤ i by omega), HM.out])
        have HKL := Lib.hid (show ks.length = e.kids.length by rw [manyK_len' _ _ _ HM.out, List.length_take]; omega)
        go_wp2_with fail
        refine (rkind_c (ks := ks) e HKL.out (HO2.out.sl (ok := fun _ => True) (fun _ _ => trivial)) (HF.out _ (by (focus (repeat (first | with_reducible exact Below.refl _ _ | with_reducible assumption | with_reducible refine bel_al _ ?_ | with_reducible refine bel_dr ?_ | with_reducible refine bel_dn _ ?_ | with_reducible refine bel_tr (by assumption) ?_)))))).mono ?_
        rintro x9 w1 ⟨rfl, hb1⟩
        rw [← E1.out]
        go_wp2_with fail
        go_ret2
        exact ⟨rfl, (by (focus (repeat (first | with_reducible exact Below.refl _ _ | with_reducible assumption | with_reducible refine bel_al _ ?_ | with_reducible refine bel_dr ?_ | with_reducible refine bel_dn _ ?_ | with_reducible refine bel_tr (by assumption) ?_))))⟩
/-- the reference's Check -/
theorem rCheckE_c {A : Option Addr} {N c : Nat} {fl : List Fld} {n : Nat} {cs : List Value} {e : Exp} (h : (kExp n).R (fun _ => True) w cs e) (hf : Sl kFld (fun _ => True) w (.slice A N c) fl) :
    Calls Try.prog 51 #[.agg cs.toArray, .slice A N c] w (Ret w (.tuple #[.int .i64 (chkE fl n e).1, .int .i64 (chkE fl n e).2])) := by
  have HH := Lib.hid h
  obtain ⟨m, B, d, hm, rfl, hs⟩ := exp_open h
  have SF := store_f64
  have HE := Lib.hid (show ∀ W : World, Below w.heap.size w W → (kExp n).R (fun _ => True) W [.int .i64 e.op, .slice B e.kids.length d, .string ⟨e.name.toArray⟩, .int .i64 e.val.kind, .int .i64 e.val.int, .bool e.val.bool, .string ⟨e.val.text.toArray⟩, .float .f64 e.val.num] e from fun W hW => (by rw [hm]; exact exp_mk (hs.below hW)))
  have HF := Lib.hid (show ∀ W : World, Below w.heap.size w W → Sl kFld (fun _ => True) W (.slice A N c) fl from fun W hW => hf.below hW)
  have E := Lib.hid (show chkE fl n e = if small e then pairK (kE fl n e) else (0, 51) by unfold chkE pairK; rfl)
  have KB := Lib.hid (kb_small (e := e) n)
  have hL : Loc1 w.heap.size 44 #[.int .i64 e.op, .slice B e.kids.length d, .string ⟨e.name.toArray⟩, .int .i64 e.val.kind, .int .i64 e.val.int, .bool e.val.bool, .string ⟨e.val.text.toArray⟩, .float .f64 e.val.num] (w.alloc (.cells #[.int .i64 e.op, .slice B e.kids.length d, .string ⟨e.name.toArray⟩, .int .i64 e.val.kind, .int .i64 e.val.int, .bool e.val.bool, .string ⟨e.val.text.toArray⟩, .float .f64 e.val.num] 44)) := Loc1.new _ _ _
  have B0 : Below w.heap.size w (w.alloc (.cells #[.int .i64 e.op, .slice B e.kids.length d, .string ⟨e.name.toArray⟩, .int .i64 e.val.kind, .int .i64 e.val.int, .bool e.val.bool, .string ⟨e.val.text.toArray⟩, .float .f64 e.val.num] 44)) := (by (focus (repeat (first | with_reducible exact Below.refl _ _ | with_reducible assumption | with_reducible refine bel_al _ ?_ | with_reducible refine bel_dr ?_ | with_reducible refine bel_dn _ ?_ | with_reducible refine bel_tr (by assumption) ?_))))
  have KK := Lib.hid (show ∀ W : World, Below (w.alloc (.cells #[.int .i64 e.op, .slice B e.kids.length d, .string ⟨e.name.toArray⟩, .int .i64 e.val.kind, .int .i64 e.val.int, .bool e.val.bool, .string ⟨e.val.text.toArray⟩, .float .f64 e.val.num] 44)).heap.size (w.alloc (.cells #[.int .i64 e.op, .slice B e.kids.length d, .string ⟨e.name.toArray⟩, .int .i64 e.val.kind, .int .i64 e.val.int, .bool e.val.bool, .string ⟨e.val.text.toArray⟩, .float .f64 e.val.num] 44)) W → (W.cell? ⟨w.heap.size, 0, none⟩ = some (.int .i64 e.op) ∧ W.cell? ⟨w.heap.size, 1, none⟩ = some (.slice B e.kids.length d) ∧ W.cell? ⟨w.heap.size, 2, none⟩ = some (.string ⟨e.name.toArray⟩) ∧ W.cell? ⟨w.heap.size, 3, none⟩ = some (.int .i64 e.val.kind) ∧ W.cell? ⟨w.heap.size, 4, none⟩ = some (.int .i64 e.val.int) ∧ W.cell? ⟨w.heap.size, 5, none⟩ = some (.bool e.val.bool) ∧ W.cell? ⟨w.heap.size, 6, none⟩ = some (.string ⟨e.val.text.toArray⟩) ∧ W.cell? ⟨w.heap.size, 7, none⟩ = some (.float .f64 e.val.num)) ∧ w.heap.size < W.heap.size from fun W hW => ⟨⟨cell_of (hL.bel hW) 0, cell_of (hL.bel hW) 1, cell_of (hL.bel hW) 2, cell_of (hL.bel hW) 3, cell_of (hL.bel hW) 4, cell_of (hL.bel hW) 5, cell_of (hL.bel hW) 6, cell_of (hL.bel hW) 7⟩, lt_of_heap (hL.bel hW)⟩)
  generalize chkE fl n e = r at *
  clear h hf hs hm hL
  go_enter Try.func51, Try.ntmps51
  go_wp2_with fail
  generalize (w.alloc (.cells #[.int .i64 e.op, .slice B e.kids.length d, .string ⟨e.name.toArray⟩, .int .i64 e.val.kind, .int .i64 e.val.int, .bool e.val.bool, .string ⟨e.val.text.toArray⟩, .float .f64 e.val.num] 44)) = w0 at *
  obtain ⟨⟨c0, c1, c2, c3, c4, c5, c6, c7⟩, hz⟩ := KK.out w0 (by (focus (repeat (first | with_reducible exact Below.refl _ _ | with_reducible assumption | with_reducible refine bel_al _ ?_ | with_reducible refine bel_dr ?_ | with_reducible refine bel_dn _ ?_ | with_reducible refine bel_tr (by assumption) ?_))))
  go_wp2_with fail
  refine (small4_c (HE.out _ (by (focus (repeat (first | with_reducible exact Below.refl _ _ | with_reducible assumption | with_reducible refine bel_al _ ?_ | with_reducible refine bel_dr ?_ | with_reducible refine bel_dn _ ?_ | with_reducible refine bel_tr (by assumption) ?_)))))).mono ?_
  rintro x9 w1 ⟨rfl, hb1⟩
  obtain ⟨⟨c0, c1, c2, c3, c4, c5, c6, c7⟩, hz⟩ := KK.out w1 (by (focus (repeat (first | with_reducible exact Below.refl _ _ | with_reducible assumption | with_reducible refine bel_al _ ?_ | with_reducible refine bel_dr ?_ | with_reducible refine bel_dn _ ?_ | with_reducible refine bel_tr (by assumption) ?_))))
  cases hsm : small e
  · have E1 := Lib.hid (show r = (0, 51) by rw [E.out, hsm]; rfl)
    go_wp2_with fail
    go_ret2
    rw [E1.out]
    exact ⟨rfl, (by (focus (repeat (first | with_reducible exact Below.refl _ _ | with_reducible assumption | with_reducible refine bel_al _ ?_ | with_reducible refine bel_dr ?_ | with_reducible refine bel_dn _ ?_ | with_reducible refine bel_tr (by assumption) ?_))))⟩
  · have E1 := Lib.hid (show r = pairK (kE fl n e) by rw [E.out, hsm]; rfl)
    have HKB := Lib.hid (KB.out hsm)
    go_wp2_with fail
    refine (rcheck_c n _ _ e HKB.out (HE.out _ (by (focus (repeat (first | with_reducible exact Below.refl _ _ | with_reducible assumption | with_reducible refine bel_al _ ?_ | with_reducible refine bel_dr ?_ | with_reducible refine bel_dn _ ?_ | with_reducible refine bel_tr (by assumption) ?_))))) (HF.out _ (by (focus (repeat (first | with_reducible exact Below.refl _ _ | with_reducible assumption | with_reducible refine bel_al _ ?_ | with_reducible refine bel_dr ?_ | with_reducible refine bel_dn _ ?_ | with_reducible refine bel_tr (by assumption) ?_)))))).mono ?_
    rw [← E1.out]
    rintro x9 w2 ⟨rfl, hb2⟩
    go_wp2_with fail
    go_ret2
    exact ⟨rfl, (by (focus (repeat (first | with_reducible exact Below.refl _ _ | with_reducible assumption | with_reducible refine bel_al _ ?_ | with_reducible refine bel_dr ?_ | with_reducible refine bel_dn _ ?_ | with_reducible refine bel_tr (by assumption) ?_))))⟩
end
end Go.Proofs.Ytjnhgfmjehaalaa
