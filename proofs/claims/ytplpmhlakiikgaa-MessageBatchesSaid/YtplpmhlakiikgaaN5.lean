/- The plain side of the laws of messages. -/
import Derived.Test.YtplpmhlakiikgaaN4
namespace Go.Proofs.Ytplpmhlakiikgaa
open Go.RowKit
set_option linter.unusedVariables false
/-- a message whose numbers are of their kind -/
structure MsgI (m : Msg) : Prop where
  kind : i64 m.kind
  view : i64 m.view
  seq : i64 m.seq
  client : i64 m.client
  stamp : i64 m.stamp
  code : i64 m.code
  stage : i64 m.stage
  batch : ∀ e ∈ m.batch, i64 e.signer
  pres : ∀ e ∈ m.pres, i64 e.signer
  certs : ∀ c ∈ m.certs, i64 c.pre.signer ∧ ∀ e ∈ c.votes, i64 e.signer
theorem flatMap_le {α : Type} {f : α → List UInt8} {C : Nat} : ∀ l : List α, (∀ x ∈ l, (f x).length ≤ C) → (l.flatMap f).length ≤ l.length * C
  | [], _ => by simp
  | x :: l, h => by
    rw [List.flatMap_cons, List.length_append, List.length_cons, Nat.succ_mul]
    have h1 := h x (by simp)
    have h2 := flatMap_le l fun y hy => h y (by simp [hy])
    omega
theorem encL_le {l : List Env} {N K : Nat} (hn : l.length ≤ N) (hk : ∀ e ∈ l, e.body.length ≤ K) : (encL l).length ≤ 4 + N * (K + 12) := by
  unfold encL encEs
  rw [List.length_append, bCount_len]
  have h := flatMap_le (f := encE) (C := K + 12) l fun e he => by rw [encE_len]; have := hk e he; omega
  have := Nat.mul_le_mul_right (K + 12) hn
  omega
theorem encTo_bound (a : Int) {m : Msg} {N K : Nat} (hb : m.batch.length ≤ N ∧ ∀ e ∈ m.batch, e.body.length ≤ K) (hp : m.pres.length ≤ N ∧ ∀ e ∈ m.pres, e.body.length ≤ K)
    (hc : m.certs.length ≤ N ∧ ∀ c ∈ m.certs, c.pre.body.length ≤ K ∧ c.votes.length ≤ N ∧ ∀ e ∈ c.votes, e.body.length ≤ K) :
    (encTo a m 9).length ≤ 100 + m.digest.length + m.data.length + 2 * (N * (K + 12)) + N * ((K + 12) + 4 + N * (K + 12)) := by
  have h : ∀ (b : Bool) (l : List UInt8), (if b then l else []).length ≤ l.length := fun b l => by cases b <;> simp
  have e1 := encL_le hb.1 hb.2
  have e2 := encL_le hp.1 hp.2
  have e3 : (encCs m.certs).length ≤ N * ((K + 12) + 4 + N * (K + 12)) := by
    unfold encCs
    have := flatMap_le (f := encC) (C := (K + 12) + 4 + N * (K + 12)) m.certs fun c hcc => by
      obtain ⟨q1, q2, q3⟩ := hc.2 c hcc
      unfold encC
      rw [List.length_append, encE_len]
      have := encL_le q2 q3
      omega
    exact Nat.le_trans this (Nat.mul_le_mul_right _ hc.1)
  simp only [encTo, List.length_append]
  have h0 := h (had a (fv 0)) (fld m 0)
  have h1 := h (had a (fv 1)) (fld m 1)
  have h2 := h (had a (fv 2)) (fld m 2)
  have h3 := h (had a (fv 3)) (fld m 3)
  have h4 := h (had a (fv 4)) (fld m 4)
  have h5 := h (had a (fv 5)) (fld m 5)
  have h6 := h (had a (fv 6)) (fld m 6)
  have h7 := h (had a (fv 7)) (fld m 7)
  have h8 := h (had a (fv 8)) (fld m 8)
  simp only [fld, List.length_append, bInt_len, bBytes_len, bCount_len] at *
  omega
theorem MsgSm.len {n : Int} {m : Msg} (h : MsgSm n m) (a : Int) : (encTo a m 9).length ≤ 137438953472 := by
  have := encTo_bound a (N := 15) (K := 16777216) ⟨h.batch.1, fun e he => (h.batch.2 e he).body⟩ ⟨h.pres.1, fun e he => (h.pres.2 e he).body⟩ ⟨by have := h.certs.1; omega, fun c hc => ⟨(h.certs.2 c hc).pre.body, (h.certs.2 c hc).len, fun e he => ((h.certs.2 c hc).votes e he).body⟩⟩
  have := h.digest.2
  have := h.data.2
  omega
theorem brf_of {l : List Env} (h : brf l = true) : l.length ≤ 30 ∧ ∀ e ∈ l, e.body.length ≤ 500 := by
  unfold brf at h
  rw [Bool.and_eq_true, decide_eq_true_iff, List.all_eq_true] at h
  exact ⟨by omega, fun e he => by have := h.2 e he; unfold brf1 at this; rw [decide_eq_true_iff] at this; omega⟩
structure Few (m : Msg) : Prop where
  digest : m.digest.length ≤ 2000
  data : m.data.length ≤ 5000
  batch : m.batch.length ≤ 30 ∧ ∀ e ∈ m.batch, e.body.length ≤ 500
  pres : m.pres.length ≤ 30 ∧ ∀ e ∈ m.pres, e.body.length ≤ 500
  certs : m.certs.length ≤ 30 ∧ ∀ c ∈ m.certs, c.pre.body.length ≤ 500 ∧ c.votes.length ≤ 30 ∧ ∀ e ∈ c.votes, e.body.length ≤ 500
theorem few_of {m : Msg} (h : few m = true) : Few m := by
  unfold few at h
  simp only [Bool.and_eq_true, decide_eq_true_iff, List.all_eq_true] at h
  obtain ⟨⟨⟨⟨⟨h1, h2⟩, h3⟩, h4⟩, h5⟩, h6⟩ := h
  refine ⟨by omega, by omega, brf_of h3, brf_of h4, by omega, fun c hc => ?_⟩
  have := h6 c hc
  unfold few1 at this
  rw [Bool.and_eq_true, decide_eq_true_iff] at this
  exact ⟨by omega, brf_of this.2⟩
theorem Few.ok {m : Msg} (h : Few m) (hi : MsgI m) : MsgOk m :=
  ⟨hi.kind, hi.view, hi.seq, hi.client, hi.stamp, hi.code, hi.stage, by have := h.digest; omega, by have := h.data; omega,
    ⟨by have := h.batch.1; omega, fun e he => ⟨hi.batch e he, by have := h.batch.2 e he; omega⟩⟩, ⟨by have := h.pres.1; omega, fun e he => ⟨hi.pres e he, by have := h.pres.2 e he; omega⟩⟩,
    ⟨by have := h.certs.1; omega, fun c hc => ⟨⟨(hi.certs c hc).1, by have := (h.certs.2 c hc).1; omega⟩, by have := (h.certs.2 c hc).2.1; omega, fun e he => ⟨(hi.certs c hc).2 e he, by have := (h.certs.2 c hc).2.2 e he; omega⟩⟩⟩⟩
theorem Few.len {m : Msg} (h : Few m) (a : Int) : (encTo a m 9).length ≤ 1000000 := by
  have := encTo_bound a h.batch h.pres h.certs
  have := h.digest
  have := h.data
  omega
theorem inB_le {a f n l g : Int} (h : inB a f n l g = true) : n ≤ max g 0 := by
  unfold inB at h
  split at h
  · have := of_decide_eq_true h; omega
  · rw [Bool.and_eq_true] at h; have := of_decide_eq_true h.2; omega
theorem shp_d {k a b c d : Int} (h : shp k = some (a, b, c, d)) : d ≤ 7 := by
  unfold shp at h
  repeat' split at h
  all_goals first | (injection h with h; injection h with _ h; injection h with _ h; injection h with _ h; omega) | cases h
theorem flTo_le (a : Int) (m : Msg) : ∀ i j, i ≤ j → (flTo a m i).length ≤ (flTo a m j).length
  | i, 0, h => by rw [Nat.le_zero.1 h]; exact Nat.le_refl _
  | i, j + 1, h => by
    rcases Nat.eq_or_lt_of_le h with h | h
    · rw [h]; exact Nat.le_refl _
    · refine Nat.le_trans (flTo_le a m i j (by omega)) ?_
      rw [flTo, List.length_append]; omega
theorem fld_le {a : Int} {m : Msg} {i : Nat} (hi : i < 9) (hh : had a (fv i) = true) : (fld m i).length ≤ (flTo a m 9).length := by
  refine Nat.le_trans ?_ (flTo_le a m (i + 1) 9 (by omega))
  rw [flTo, if_pos hh, List.length_append]
  omega
/-- a well message's parts -/
theorem sm_of {m : Msg} (h : chk m = true) (hi : MsgI m) (hb : (∀ e ∈ m.batch, e.body.length ≤ 16777216) ∧ (∀ e ∈ m.pres, e.body.length ≤ 16777216) ∧ ∀ c ∈ m.certs, c.pre.body.length ≤ 16777216 ∧ ∀ e ∈ c.votes, e.body.length ≤ 16777216) (hl : (enc m).length < 4294967296) : MsgSm (enc m).length m := by
  obtain ⟨a, b, c, d, hs, hc⟩ := chk_shp h
  have he := enc_eq hs h
  have hd := shp_d hs
  have hlen : (enc m).length = 8 + (flTo a m 9).length := by rw [he, List.length_append, bInt_len]
  simp only [chkB, Bool.and_eq_true] at hc
  obtain ⟨⟨⟨⟨⟨⟨⟨⟨h1, h2⟩, h3⟩, h4⟩, ⟨h5, h6⟩, h7⟩, ⟨h8, h9⟩, h10⟩, -⟩, -⟩, h11⟩ := hc
  have k5 := inB_le h5
  have k6 := inB_le h6
  have k7 := inB_le h7
  have hdg : (m.digest.length : Int) ≤ (enc m).length := by
    by_cases hh : had a 8 = true
    · have := fld_le (m := m) (i := 3) (by decide) hh
      simp only [fld, bBytes_len] at this
      omega
    · have := inB_not h8 (by simpa using hh)
      omega
  have hda : (m.data.length : Int) ≤ (enc m).length := by
    by_cases hh : had a 16 = true
    · have := fld_le (m := m) (i := 4) (by decide) hh
      simp only [fld, bBytes_len] at this
      omega
    · have := inB_not h9 (by simpa using hh)
      omega
  have hv : ∀ c ∈ m.certs, c.votes.length ≤ 7 := fun c hcc => by
    have : m.certs.any many = false := by simpa using h11
    rw [List.any_eq_false] at this
    have := this c hcc
    unfold many at this
    rw [decide_eq_true_iff] at this
    omega
  exact ⟨hi.kind, hi.view, hi.seq, hi.client, hi.stamp, hi.code, hi.stage, ⟨hdg, by omega⟩, ⟨hda, by omega⟩, ⟨by omega, fun e he => ⟨hi.batch e he, hb.1 e he⟩⟩, ⟨by omega, fun e he => ⟨hi.pres e he, hb.2.1 e he⟩⟩,
    ⟨by omega, fun c hcc => ⟨⟨(hi.certs c hcc).1, (hb.2.2 c hcc).1⟩, fun e he => ⟨(hi.certs c hcc).2 e he, (hb.2.2 c hcc).2 e he⟩, by have := hv c hcc; omega⟩⟩⟩
theorem enc_len {m : Msg} (h : ∀ a, (encTo a m 9).length ≤ 1000000) : (enc m).length ≤ 1000000 := by
  unfold enc
  split
  · split
    · simp
    · exact h _
  · simp
theorem Few.sm {m : Msg} (h : Few m) (hi : MsgI m) (hc : chk m = true) : MsgSm (enc m).length m :=
  sm_of hc hi ⟨fun e he => by have := h.batch.2 e he; omega, fun e he => by have := h.pres.2 e he; omega, fun c hcc => ⟨by have := (h.certs.2 c hcc).1; omega, fun e he => by have := (h.certs.2 c hcc).2.2 e he; omega⟩⟩ (by have := enc_len h.len; omega)
theorem enc_no {m : Msg} (h : chk m = false) : enc m = [] := by unfold enc; rw [h]; rfl
theorem enc_yes {m : Msg} (h : chk m = true) : 8 ≤ (enc m).length := by
  obtain ⟨a, b, c, d, hs, hc⟩ := chk_shp h
  rw [enc_eq hs h, List.length_append, bInt_len]
  omega
theorem dec_of {m : Msg} (h : Few m) (hi : MsgI m) (hc : chk m = true) : dec (enc m) = (m, 0) :=
  dec_put' hc (h.sm hi hc) (by have := enc_len h.len; omega)
theorem dec_sm {b : List UInt8} (hb : b.length ≤ 16777216) : MsgSm b.length (dec b).1 := by
  unfold dec
  rw [if_neg (by omega)]
  unfold decS
  have z : i64 0 := by unfold i64; omega
  split
  · exact msg0_sm _ _ (by omega) z
  · split
    · exact dcTo_sm _ _ _ _ (by omega) (by omega) (rInt_i64 _) 9 (Nat.le_refl _)
    · exact msg0_sm _ _ (by omega) z
end Go.Proofs.Ytplpmhlakiikgaa
