/- MessageBatches, walked. -/
import Derived.Test.YtplpmhlakiikgaaN11
import Derived.Test.YtplpmhlakiikgaaN5
namespace Go.Proofs.Ytplpmhlakiikgaa
open Go.RowKit
set_option linter.unusedVariables false
theorem ps_inj : ∀ (ps qs : List (List UInt8)), ps.length = qs.length → (∀ p ∈ ps, p.length < 4294967296) → (∀ q ∈ qs, q.length < 4294967296) → ps.flatMap bBytes = qs.flatMap bBytes → ps = qs
  | [], [], _, _, _, _ => rfl
  | [], _ :: _, h, _, _, _ => by simp at h
  | _ :: _, [], h, _, _, _ => by simp at h
  | p :: ps, q :: qs, h, hp, hq, he => by
    rw [List.flatMap_cons, List.flatMap_cons] at he
    have h1 := rBytes_put 4294967295 p (by have := hp p (by simp); omega) (hp p (by simp)) (ps.flatMap bBytes)
    have h2 := rBytes_put 4294967295 q (by have := hq q (by simp); omega) (hq q (by simp)) (qs.flatMap bBytes)
    rw [he, h2] at h1
    injection h1 with e1 e2
    injection e2 with e2 _
    rw [e1, ps_inj ps qs (by simpa using h) (fun x hx => hp x (by simp [hx])) (fun x hx => hq x (by simp [hx])) e2.symm]
theorem ofD_inj {tag : UInt8} {ps qs : List (List UInt8)} (hp : ps.length < 4294967296 ∧ ∀ p ∈ ps, p.length < 4294967296) (hq : qs.length < 4294967296 ∧ ∀ q ∈ qs, q.length < 4294967296) (h : ofD tag ps = ofD tag qs) : ps = qs := by
  unfold ofD at h
  rw [List.append_assoc, List.append_assoc] at h
  replace h := List.append_cancel_left h
  have h1 := rCount_put 4294967295 ps.length (by omega) hp.1 (ps.flatMap bBytes)
  have h2 := rCount_put 4294967295 qs.length (by omega) hq.1 (qs.flatMap bBytes)
  rw [h, h2] at h1
  injection h1 with e1 e2
  injection e2 with e2 _
  exact ps_inj ps qs e1.symm hp.2 hq.2 e2.symm
theorem encE_inj {a b : Env} (ha : EnvSm a) (hb : EnvSm b) (h : encE a = encE b) : a = b := by
  have h1 := rEnv_put ha []
  have h2 := rEnv_put hb []
  rw [h, h2] at h1
  injection h1 with e1 _
  exact e1.symm
theorem map_inj {l m : List Env} (hl : ∀ e ∈ l, EnvSm e) (hm : ∀ e ∈ m, EnvSm e) (h : l.map encE = m.map encE) : l = m := by
  induction l generalizing m with
  | nil =>
    cases m with
    | nil => rfl
    | cons x m => simp at h
  | cons e l ih =>
    cases m with
    | nil => simp at h
    | cons x m =>
      simp only [List.map_cons, List.cons.injEq] at h
      rw [encE_inj (hl e (by simp)) (hm x (by simp)) h.1, ih (fun y hy => hl y (by simp [hy])) (fun y hy => hm y (by simp [hy])) h.2]
structure Brf (l : List Env) : Prop where
  len : l.length ≤ 30
  body : ∀ e ∈ l, e.body.length ≤ 500
  int : ∀ e ∈ l, i64 e.signer
theorem Brf.sm {l : List Env} (h : Brf l) : ∀ e ∈ l, EnvSm e := fun e he => ⟨h.int e he, by have := h.body e he; omega⟩
theorem Brf.ok {l : List Env} (h : Brf l) : ∀ e ∈ l, EnvOk e := fun e he => (h.sm e he).ok
theorem Brf.parts {l : List Env} (h : Brf l) : (l.map encE).length < 4294967296 ∧ ∀ p ∈ l.map encE, p.length < 4294967296 := by
  refine ⟨by rw [List.length_map]; have := h.len; omega, fun p hp => ?_⟩
  obtain ⟨e, he, rfl⟩ := List.mem_map.1 hp
  rw [encE_len]
  have := h.body e he
  omega
theorem digB_inj {l m : List Env} (hl : Brf l) (hm : Brf m) (h : digB l = digB m) : l = m := map_inj hl.sm hm.sm (ofD_inj hl.parts hm.parts h)
theorem digB_len {l : List Env} (h : Brf l) : (digB l).length ≤ 1000000 := by
  unfold digB ofD
  rw [List.length_append, List.length_append, bCount_len]
  have := flatMap_le (f := bBytes) (C := 516) (l.map encE) fun p hp => by
    obtain ⟨e, he, rfl⟩ := List.mem_map.1 hp
    rw [bBytes_len, encE_len]
    have := h.body e he
    omega
  rw [List.length_map] at this
  have := h.len
  have : l.length * 516 ≤ 30 * 516 := Nat.mul_le_mul_right _ h.len
  simp only [List.length_singleton]
  omega
section
variable {w : World} {A B : Option Addr} {n c n' c' : Nat}
set_option maxHeartbeats 4000000 in
theorem batches_c {l m : List Env} (h : Sl kEnv (fun _ => True) w (.slice A n c) l) (hi : ∀ e ∈ l, i64 e.signer) (h' : Sl kEnv (fun _ => True) w (.slice B n' c') m) (hi' : ∀ e ∈ m, i64 e.signer) : Calls Try.prog 7 #[.slice A n c, .slice B n' c'] w (Ret w (.bool true)) := by
  have HAW := Lib.hid (fun W : World => awake_c (w := W))
  have H := Lib.hid h
  have H' := Lib.hid h'
  have HI := Lib.hid (And.intro hi hi')
  have HB1 := Lib.hid (brief_c h)
  have HB2 := Lib.hid (show ∀ W, Below w.heap.size w W → Calls Try.prog 15 #[.slice B n' c'] W (Ret W (.bool (brf m))) from fun W hW => brief_c (h'.below hW))
  clear h h' hi hi'
  go_enter Try.func7, Try.ntmps7
  go_wp2_with fail
  refine HB1.out.mono ?_
  rintro e w1 ⟨rfl, hb⟩
  have B1 := Lib.hid hb
  clear hb HB1
  cases hbl : brf l
  · go_wp2_with fail
    go_ret
    exact ⟨rfl, B1.out⟩
  go_wp2_with fail
  refine (HB2.out _ B1.out).mono ?_
  rintro e w2 ⟨rfl, hb⟩
  have B2 := Lib.hid (below_self B1.out hb)
  clear hb HB2 B1
  cases hbm : brf m
  · go_wp2_with fail
    go_ret
    exact ⟨rfl, B2.out⟩
  have BL := Lib.hid (show Brf l from ⟨(brf_of hbl).1, (brf_of hbl).2, HI.out.1⟩)
  have BM := Lib.hid (show Brf m from ⟨(brf_of hbm).1, (brf_of hbm).2, HI.out.2⟩)
  clear hbl hbm
  have EQ : (digB l == digB m) = eqL l m := by
    rw [Bool.eq_iff_iff]
    unfold eqL
    rw [decide_eq_true_iff, beq_iff_eq]
    exact ⟨digB_inj BL.out BM.out, fun e => by rw [e]⟩
  have EQ2 := Lib.hid EQ
  clear EQ
  have FL := Lib.hid (show ∀ W, Below w.heap.size w W → Calls Try.prog 16 #[.slice A n c] W (Ret W (.string ⟨(digB l).toArray⟩)) from fun W hW => batch_c (H.out.below hW) BL.out.ok (digB_len BL.out))
  have FR := Lib.hid (show ∀ W, Below w.heap.size w W → Calls Try.prog 17 #[.slice A n c] W (Ret W (.string ⟨(digB l).toArray⟩)) from fun W hW => batchRef_c (H.out.below hW) BL.out.ok (digB_len BL.out))
  have FM := Lib.hid (show ∀ W, Below w.heap.size w W → Calls Try.prog 16 #[.slice B n' c'] W (Ret W (.string ⟨(digB m).toArray⟩)) from fun W hW => batch_c (H'.out.below hW) BM.out.ok (digB_len BM.out))
  have FA := Lib.hid (show ∀ W, Below w.heap.size w W → Calls Try.prog 18 #[.slice A n c, .slice B n' c'] W (Ret W (.bool (eqL l m))) from fun W hW => all_c (H.out.below hW) (H'.out.below hW))
  generalize digB l = dl at *
  generalize digB m = dm at *
  go_wp2_with fail
  refine (FL.out _ B2.out).mono ?_
  rintro e w3 ⟨rfl, hb⟩
  have B3 := Lib.hid (below_self B2.out hb)
  clear hb B2
  go_wp2_with fail
  refine (FR.out _ B3.out).mono ?_
  rintro e w4 ⟨rfl, hb⟩
  have B4 := Lib.hid (below_self B3.out hb)
  clear hb B3
  go_wp2_with fail
  refine (FL.out _ B4.out).mono ?_
  rintro e w5 ⟨rfl, hb⟩
  have B5 := Lib.hid (below_self B4.out hb)
  clear hb B4
  go_wp2_with fail
  refine (FM.out _ B5.out).mono ?_
  rintro e w6 ⟨rfl, hb⟩
  have B6 := Lib.hid (below_self B5.out hb)
  clear hb B5
  go_wp2_with fail
  refine (FA.out _ B6.out).mono ?_
  rintro e w7 ⟨rfl, hb⟩
  have B7 := Lib.hid (below_self B6.out hb)
  clear hb B6
  have EQ := EQ2.out
  go_wp2_with fail
  refine (HAW.out _).mono ?_
  rintro e w8 ⟨rfl, hb⟩
  have B8 := Lib.hid (below_self B7.out hb)
  clear hb B7
  go_wp2_with fail
  go_ret
  exact ⟨rfl, B8.out⟩
end
end Go.Proofs.Ytplpmhlakiikgaa
