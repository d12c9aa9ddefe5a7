/- The plain law of messages: Decode is Encode's inverse. -/
import Derived.Test.YtplpmhlakiikgaaP
namespace Go.Proofs.Ytplpmhlakiikgaa
open Go.RowKit
set_option linter.unusedVariables false
def msg0 (k : Int) : Msg := ⟨k, 0, 0, 0, 0, [], [], 0, 0, [], [], []⟩
/-- a field that is read -/
def stp (n : Int) (m : Msg) (s : RS) : Nat → Msg × RS
  | 0 => ({ m with view := (rInt s).1 }, (rInt s).2)
  | 1 => ({ m with seq := (rInt s).1 }, (rInt s).2)
  | 2 => ({ m with client := (rInt s).1, stamp := (rInt (rInt s).2).1 }, (rInt (rInt s).2).2)
  | 3 => ({ m with digest := (rBytes n s).1 }, (rBytes n s).2)
  | 4 => ({ m with data := (rBytes n s).1 }, (rBytes n s).2)
  | 5 => ({ m with code := (rInt s).1, stage := (rInt (rInt s).2).1 }, (rInt (rInt s).2).2)
  | 6 => ({ m with batch := (rList s).1 }, (rList s).2)
  | 7 => ({ m with pres := (rList s).1 }, (rList s).2)
  | _ => ({ m with certs := (rCerts s).1 }, (rCerts s).2)
def dcTo (a n k : Int) (s : RS) : Nat → Msg × RS
  | 0 => (msg0 k, s)
  | i + 1 => if had a (fv i) then stp n (dcTo a n k s i).1 (dcTo a n k s i).2 i else dcTo a n k s i
def decS (n : Int) (r : Int × RS) : Msg × Int :=
  match shp r.1 with
  | none => (msg0 0, 12)
  | some (a, _, _, _) => if (rEnd (dcTo a n r.1 r.2 9).2).2 = 0 ∧ chk (dcTo a n r.1 r.2 9).1 = true then ((dcTo a n r.1 r.2 9).1, 0) else (msg0 0, 12)
def dec (b : List UInt8) : Msg × Int := if 16777216 < b.length then (msg0 0, 11) else decS b.length (rInt (b, 0))
/-- a message's first fields -/
def mTo (a : Int) (m : Msg) (i : Nat) : Msg :=
  ⟨m.kind, if decide (0 < i) && had a 1 then m.view else 0, if decide (1 < i) && had a 2 then m.seq else 0, if decide (2 < i) && had a 4 then m.client else 0, if decide (2 < i) && had a 4 then m.stamp else 0,
    if decide (3 < i) && had a 8 then m.digest else [], if decide (4 < i) && had a 16 then m.data else [], if decide (5 < i) && had a 32 then m.code else 0, if decide (5 < i) && had a 32 then m.stage else 0,
    if decide (6 < i) && had a 64 then m.batch else [], if decide (7 < i) && had a 128 then m.pres else [], if decide (8 < i) && had a 256 then m.certs else []⟩
/-- and their bytes -/
def flTo (a : Int) (m : Msg) : Nat → List UInt8
  | 0 => []
  | i + 1 => flTo a m i ++ if had a (fv i) then fld m i else []
theorem encTo_fl (a : Int) (m : Msg) : ∀ i, encTo a m i = bInt m.kind ++ flTo a m i
  | 0 => by simp [encTo, flTo]
  | i + 1 => by rw [encTo, flTo, encTo_fl a m i, List.append_assoc]
structure MsgSm (n : Int) (m : Msg) : Prop where
  kind : i64 m.kind
  view : i64 m.view
  seq : i64 m.seq
  client : i64 m.client
  stamp : i64 m.stamp
  code : i64 m.code
  stage : i64 m.stage
  digest : (m.digest.length : Int) ≤ n ∧ m.digest.length < 4294967296
  data : (m.data.length : Int) ≤ n ∧ m.data.length < 4294967296
  batch : m.batch.length ≤ 15 ∧ ∀ e ∈ m.batch, EnvSm e
  pres : m.pres.length ≤ 15 ∧ ∀ e ∈ m.pres, EnvSm e
  certs : m.certs.length ≤ 8 ∧ ∀ c ∈ m.certs, CrtSm c
theorem EnvSm.ok {e : Env} (h : EnvSm e) : EnvOk e := ⟨h.signer, Nat.le_trans h.body (by omega)⟩
theorem MsgSm.ok {n : Int} {m : Msg} (h : MsgSm n m) : MsgOk m :=
  ⟨h.kind, h.view, h.seq, h.client, h.stamp, h.code, h.stage, by have := h.digest.2; omega, by have := h.data.2; omega, ⟨by have := h.batch.1; omega, fun e he => (h.batch.2 e he).ok⟩, ⟨by have := h.pres.1; omega, fun e he => (h.pres.2 e he).ok⟩,
    ⟨by have := h.certs.1; omega, fun c hc => ⟨(h.certs.2 c hc).pre.ok, by have := (h.certs.2 c hc).len; omega, fun e he => ((h.certs.2 c hc).votes e he).ok⟩⟩⟩
/-- one field -/
theorem stp_put (a n : Int) (m : Msg) (h : MsgSm n m) (t : List UInt8) (i : Nat) (hi : i < 9) (hh : had a (fv i) = true) : stp n (mTo a m i) (fld m i ++ t, 0) i = (mTo a m (i + 1), (t, 0)) := by
  rcases (show i = 0 ∨ i = 1 ∨ i = 2 ∨ i = 3 ∨ i = 4 ∨ i = 5 ∨ i = 6 ∨ i = 7 ∨ i = 8 by omega) with rfl | rfl | rfl | rfl | rfl | rfl | rfl | rfl | rfl <;> simp only [fv] at hh <;> simp only [stp, fld]
  · rw [rInt_put _ h.view]; simp [mTo, hh]
  · rw [rInt_put _ h.seq]; simp [mTo, hh]
  · rw [List.append_assoc, rInt_put _ h.client]; simp only; rw [rInt_put _ h.stamp]; simp [mTo, hh]
  · rw [rBytes_put _ _ h.digest.1 h.digest.2]; simp [mTo, hh]
  · rw [rBytes_put _ _ h.data.1 h.data.2]; simp [mTo, hh]
  · rw [List.append_assoc, rInt_put _ h.code]; simp only; rw [rInt_put _ h.stage]; simp [mTo, hh]
  · rw [rList_put h.batch.2 h.batch.1]; simp [mTo, hh]
  · rw [rList_put h.pres.2 h.pres.1]; simp [mTo, hh]
  · rw [rCerts_put h.certs.2 h.certs.1]; simp [mTo, hh]
theorem mTo_skip (a : Int) (m : Msg) (i : Nat) (hi : i < 9) (hh : had a (fv i) = false) : mTo a m (i + 1) = mTo a m i := by
  rcases (show i = 0 ∨ i = 1 ∨ i = 2 ∨ i = 3 ∨ i = 4 ∨ i = 5 ∨ i = 6 ∨ i = 7 ∨ i = 8 by omega) with rfl | rfl | rfl | rfl | rfl | rfl | rfl | rfl | rfl <;> simp only [fv] at hh <;> simp [mTo, hh]
theorem dcTo_put (a n : Int) (m : Msg) (h : MsgSm n m) : ∀ (i : Nat) (t : List UInt8), i ≤ 9 → dcTo a n m.kind (flTo a m i ++ t, 0) i = (mTo a m i, (t, 0))
  | 0, t, _ => by simp [dcTo, flTo, mTo, msg0]
  | i + 1, t, hi => by
    rw [dcTo, flTo, List.append_assoc, dcTo_put a n m h i _ (by omega)]
    by_cases hh : had a (fv i) = true
    · rw [if_pos hh, if_pos hh]; exact stp_put a n m h t i (by omega) hh
    · have hf : had a (fv i) = false := by simpa using hh
      rw [if_neg hh, if_neg hh, mTo_skip a m i (by omega) hf]; rfl
/-- a well message has no other fields -/
theorem inB_not {a f n l g : Int} (h : inB a f n l g = true) (hf : had a f = false) : n = 0 := by
  have : Go.bits .and .i64 a f = 0 := by simpa [had] using hf
  simpa [inB, this] using h
theorem mTo_all {m : Msg} {a b c d : Int} (h : chkB m a b c d = true) : mTo a m 9 = m := by
  simp only [chkB, Bool.and_eq_true] at h
  obtain ⟨⟨⟨⟨⟨⟨⟨⟨h1, h2⟩, h3⟩, h4⟩, ⟨⟨h5, h6⟩, h7⟩⟩, ⟨⟨h8, h9⟩, h10⟩⟩, -⟩, -⟩, -⟩ := h
  have e1 : ∀ {α : Type} (f : Int) (x z : α), (had a f = false → x = z) → (if had a f then x else z) = x := fun f x z hz => by
    by_cases hh : had a f = true
    · rw [if_pos hh]
    · rw [if_neg hh, hz (by simpa using hh)]
  have nil : ∀ {α : Type} (l : List α), (l.length : Int) = 0 → l = [] := fun l hl => List.eq_nil_of_length_eq_zero (by omega)
  have hres : had a 32 = false → m.code = 0 ∧ m.stage = 0 := fun hf => by
    rw [show ored a = had a 32 from rfl, hf] at h10
    simpa [noRes] using h10
  obtain ⟨kind, view, seq, client, stamp, digest, data, code, stage, batch, pres, certs⟩ := m
  unfold mTo
  simp only [show (0 < 9) = True by simp, show (1 < 9) = True by simp, show (2 < 9) = True by simp, show (3 < 9) = True by simp, show (4 < 9) = True by simp, show (5 < 9) = True by simp, show (6 < 9) = True by simp, show (7 < 9) = True by simp, show (8 < 9) = True by simp, decide_true, Bool.true_and] at *
  rw [e1 1 view 0 (inB_not h1), e1 2 seq 0 (inB_not h2), e1 4 client 0 (inB_not h3), e1 4 stamp 0 (inB_not h4), e1 8 digest [] (fun hf => nil _ (inB_not h8 hf)), e1 16 data [] (fun hf => nil _ (inB_not h9 hf)), e1 32 code 0 (fun hf => (hres hf).1), e1 32 stage 0 (fun hf => (hres hf).2),
    e1 64 batch [] (fun hf => nil _ (inB_not h5 hf)), e1 128 pres [] (fun hf => nil _ (inB_not h6 hf)), e1 256 certs [] (fun hf => nil _ (inB_not h7 hf))]
theorem enc_eq {m : Msg} {a b c d : Int} (hs : shp m.kind = some (a, b, c, d)) (h : chk m = true) : enc m = bInt m.kind ++ flTo a m 9 := by
  unfold enc
  rw [if_pos h, hs]
  exact encTo_fl a m 9
theorem chk_shp {m : Msg} (h : chk m = true) : ∃ a b c d, shp m.kind = some (a, b, c, d) ∧ chkB m a b c d = true := by
  unfold chk at h
  cases hs : shp m.kind with
  | none => rw [hs] at h; cases h
  | some q => obtain ⟨a, b, c, d⟩ := q; rw [hs] at h; exact ⟨a, b, c, d, rfl, h⟩
theorem decS_put {n : Int} {m : Msg} (h : chk m = true) (hm : MsgSm n m) (t : List UInt8) : decS n (rInt (enc m ++ t, 0)) = if t.length = 0 then (m, 0) else (msg0 0, 12) := by
  obtain ⟨a, b, c, d, hs, hc⟩ := chk_shp h
  rw [enc_eq hs h, List.append_assoc, rInt_put _ hm.kind]
  unfold decS
  simp only [hs]
  rw [dcTo_put a n m hm 9 t (Nat.le_refl _), mTo_all hc]
  by_cases ht : t.length = 0
  · simp [rEnd, h, ht]
  · rw [if_neg ht, if_neg]
    simp [rEnd, show t ≠ [] by intro e; rw [e] at ht; exact ht rfl, List.length_pos_iff]
theorem dec_put {m : Msg} (t : List UInt8) (h : chk m = true) (hm : MsgSm (enc m ++ t).length m) (hl : (enc m ++ t).length ≤ 16777216) : dec (enc m ++ t) = if t.length = 0 then (m, 0) else (msg0 0, 12) := by
  unfold dec
  rw [if_neg (by omega), decS_put h hm]
theorem dec_put' {m : Msg} (h : chk m = true) (hm : MsgSm (enc m).length m) (hl : (enc m).length ≤ 16777216) : dec (enc m) = (m, 0) := by
  have := dec_put (m := m) [] h (by simpa using hm) (by simpa using hl)
  simpa using this
/-! ### back -/
theorem fld_other (n : Int) (m : Msg) (s : RS) (i j : Nat) (hi : i < 9) (hj : j < i) : fld (stp n m s i).1 j = fld m j := by
  rcases (show i = 1 ∨ i = 2 ∨ i = 3 ∨ i = 4 ∨ i = 5 ∨ i = 6 ∨ i = 7 ∨ i = 8 by omega) with rfl | rfl | rfl | rfl | rfl | rfl | rfl | rfl <;>
    rcases (show j = 0 ∨ j = 1 ∨ j = 2 ∨ j = 3 ∨ j = 4 ∨ j = 5 ∨ j = 6 ∨ j = 7 by omega) with rfl | rfl | rfl | rfl | rfl | rfl | rfl | rfl <;> first | rfl | omega
theorem flTo_other (a n : Int) (m : Msg) (s : RS) (i : Nat) (hi : i < 9) : ∀ j, j ≤ i → flTo a (stp n m s i).1 j = flTo a m j
  | 0, _ => rfl
  | j + 1, h => by rw [flTo, flTo, flTo_other a n m s i hi j (by omega), fld_other n m s i j hi (by omega)]
theorem stp_get (n : Int) (m : Msg) (s : RS) (i : Nat) (hi : i < 9) (h : (stp n m s i).2.2 = 0) : s.2 = 0 ∧ s.1 = fld (stp n m s i).1 i ++ (stp n m s i).2.1 := by
  rcases (show i = 0 ∨ i = 1 ∨ i = 2 ∨ i = 3 ∨ i = 4 ∨ i = 5 ∨ i = 6 ∨ i = 7 ∨ i = 8 by omega) with rfl | rfl | rfl | rfl | rfl | rfl | rfl | rfl | rfl <;> simp only [stp, fld] at *
  · exact rInt_get s h
  · exact rInt_get s h
  · have x := rInt_get _ h
    have y := rInt_get _ x.1
    rw [List.append_assoc, ← x.2, ← y.2]
    exact ⟨y.1, rfl⟩
  · exact rBytes_get _ s h
  · exact rBytes_get _ s h
  · have x := rInt_get _ h
    have y := rInt_get _ x.1
    rw [List.append_assoc, ← x.2, ← y.2]
    exact ⟨y.1, rfl⟩
  · exact rList_get s h
  · exact rList_get s h
  · exact rCerts_get s h
theorem dcTo_get (a n k : Int) (s : RS) : ∀ i, i ≤ 9 → (dcTo a n k s i).2.2 = 0 → s.2 = 0 ∧ s.1 = flTo a (dcTo a n k s i).1 i ++ (dcTo a n k s i).2.1
  | 0, _, h => ⟨h, by simp [dcTo, flTo]⟩
  | i + 1, hi, h => by
    rw [dcTo] at *
    by_cases hh : had a (fv i) = true
    · rw [if_pos hh] at *
      have x := stp_get n _ _ i (by omega) h
      have y := dcTo_get a n k s i (by omega) x.1
      refine ⟨y.1, ?_⟩
      rw [flTo, if_pos hh, flTo_other a n _ _ i (by omega) i (Nat.le_refl _), List.append_assoc, ← x.2, ← y.2]
    · rw [if_neg hh] at *
      have y := dcTo_get a n k s i (by omega) h
      refine ⟨y.1, ?_⟩
      rw [flTo, if_neg hh, List.append_nil]
      exact y.2
theorem stp_kind (n : Int) (m : Msg) (s : RS) (i : Nat) (hi : i < 9) : (stp n m s i).1.kind = m.kind := by
  rcases (show i = 0 ∨ i = 1 ∨ i = 2 ∨ i = 3 ∨ i = 4 ∨ i = 5 ∨ i = 6 ∨ i = 7 ∨ i = 8 by omega) with rfl | rfl | rfl | rfl | rfl | rfl | rfl | rfl | rfl <;> rfl
theorem dcTo_kind (a n k : Int) (s : RS) : ∀ i, i ≤ 9 → (dcTo a n k s i).1.kind = k
  | 0, _ => rfl
  | i + 1, hi => by
    rw [dcTo]
    split
    · rw [stp_kind _ _ _ _ (by omega)]; exact dcTo_kind a n k s i (by omega)
    · exact dcTo_kind a n k s i (by omega)
theorem stp_sm (n : Int) (hn0 : 0 ≤ n) (hn : n ≤ 4294967295) (m : Msg) (s : RS) (i : Nat) (hi : i < 9) (h : MsgSm n m) : MsgSm n (stp n m s i).1 := by
  obtain ⟨h1, h2, h3, h4, h5, h6, h7, h8, h9, h10, h11, h12⟩ := h
  have hb := rBytes_max n s
  rcases (show i = 0 ∨ i = 1 ∨ i = 2 ∨ i = 3 ∨ i = 4 ∨ i = 5 ∨ i = 6 ∨ i = 7 ∨ i = 8 by omega) with rfl | rfl | rfl | rfl | rfl | rfl | rfl | rfl | rfl <;> simp only [stp] at *
  · exact ⟨h1, rInt_i64 _, h3, h4, h5, h6, h7, h8, h9, h10, h11, h12⟩
  · exact ⟨h1, h2, rInt_i64 _, h4, h5, h6, h7, h8, h9, h10, h11, h12⟩
  · exact ⟨h1, h2, h3, rInt_i64 _, rInt_i64 _, h6, h7, h8, h9, h10, h11, h12⟩
  · exact ⟨h1, h2, h3, h4, h5, h6, h7, by simp only; omega, h9, h10, h11, h12⟩
  · exact ⟨h1, h2, h3, h4, h5, h6, h7, h8, by simp only; omega, h10, h11, h12⟩
  · exact ⟨h1, h2, h3, h4, h5, rInt_i64 _, rInt_i64 _, h8, h9, h10, h11, h12⟩
  · exact ⟨h1, h2, h3, h4, h5, h6, h7, h8, h9, ⟨rList_len _, rMany_sm _ _⟩, h11, h12⟩
  · exact ⟨h1, h2, h3, h4, h5, h6, h7, h8, h9, h10, ⟨rList_len _, rMany_sm _ _⟩, h12⟩
  · exact ⟨h1, h2, h3, h4, h5, h6, h7, h8, h9, h10, h11, ⟨rCerts_len _, rManyC_sm _ _⟩⟩
theorem msg0_sm (n k : Int) (hn : 0 ≤ n) (hk : i64 k) : MsgSm n (msg0 k) := by
  have z : i64 0 := by unfold i64; omega
  exact ⟨hk, z, z, z, z, z, z, by simp [msg0]; omega, by simp [msg0]; omega, by simp [msg0], by simp [msg0], by simp [msg0]⟩
theorem dcTo_sm (a n k : Int) (s : RS) (hn0 : 0 ≤ n) (hn : n ≤ 4294967295) (hk : i64 k) : ∀ i, i ≤ 9 → MsgSm n (dcTo a n k s i).1
  | 0, _ => msg0_sm n k hn0 hk
  | i + 1, hi => by
    rw [dcTo]
    split
    · exact stp_sm n hn0 hn _ _ i (by omega) (dcTo_sm a n k s hn0 hn hk i (by omega))
    · exact dcTo_sm a n k s hn0 hn hk i (by omega)
theorem rEnd_get {s : RS} (h : (rEnd s).2 = 0) : s.2 = 0 ∧ s.1 = [] := by
  unfold rEnd at h
  split at h
  · cases h
  · rename_i hn
    have h2 : s.2 = 0 := h
    refine ⟨h2, List.eq_nil_of_length_eq_zero ?_⟩
    by_cases hl : s.1.length = 0
    · exact hl
    · exact absurd ⟨h2, by omega⟩ hn
/-- what is read is well, and is put as it was read -/
theorem dec_get {b : List UInt8} (h : (dec b).2 = 0) : b.length ≤ 16777216 ∧ chk (dec b).1 = true ∧ MsgSm b.length (dec b).1 ∧ enc (dec b).1 = b := by
  unfold dec at h ⊢
  by_cases hl : 16777216 < b.length
  · rw [if_pos hl] at h; cases h
  · rw [if_neg hl] at h ⊢
    unfold decS at h ⊢
    cases hs : shp (rInt (b, 0)).1 with
    | none => rw [hs] at h; cases h
    | some q =>
      obtain ⟨a, x, y, z⟩ := q
      rw [hs] at h
      simp only at h ⊢
      by_cases hc : (rEnd (dcTo a b.length (rInt (b, 0)).1 (rInt (b, 0)).2 9).2).2 = 0 ∧ chk (dcTo a b.length (rInt (b, 0)).1 (rInt (b, 0)).2 9).1 = true
      · rw [if_pos hc]
        have e1 := rEnd_get hc.1
        have e2 := dcTo_get a b.length (rInt (b, 0)).1 (rInt (b, 0)).2 9 (Nat.le_refl _) e1.1
        have e3 := rInt_get (b, 0) e2.1
        have ek := dcTo_kind a b.length (rInt (b, 0)).1 (rInt (b, 0)).2 9 (Nat.le_refl _)
        refine ⟨by omega, hc.2, dcTo_sm a _ _ _ (by omega) (by omega) (rInt_i64 _) 9 (Nat.le_refl _), ?_⟩
        simp only
        rw [enc_eq (by rw [ek]; exact hs) hc.2, ek]
        rw [e1.2, List.append_nil] at e2
        rw [← e2.2]
        exact e3.2.symm
      · rw [if_neg hc] at h; cases h
theorem dec_err (b : List UInt8) : (dec b).2 = 0 ∨ (dec b).2 = 12 ∧ b.length ≤ 16777216 ∨ (dec b).2 = 11 ∧ 16777216 < b.length := by
  unfold dec
  by_cases hl : 16777216 < b.length
  · rw [if_pos hl]; exact .inr (.inr ⟨rfl, hl⟩)
  · rw [if_neg hl]
    unfold decS
    cases hs : shp (rInt (b, 0)).1 with
    | none => exact .inr (.inl ⟨rfl, by omega⟩)
    | some q =>
      obtain ⟨a, x, y, z⟩ := q
      simp only
      split
      · exact .inl rfl
      · exact .inr (.inl ⟨rfl, by omega⟩)
/-- no beginning of a message's bytes is a message -/
theorem dec_short {m : Msg} {p t : List UInt8} (h : chk m = true) (hm : MsgSm (enc m).length m) (hl : (enc m).length ≤ 16777216) (he : enc m = p ++ t) (ht : t ≠ []) : (dec p).2 = 12 := by
  have hp : p.length ≤ (enc m).length := by rw [he, List.length_append]; omega
  rcases dec_err p with h0 | h0 | h0
  · obtain ⟨_, hc, hs, hn⟩ := dec_get h0
    have x := dec_put' h hm hl
    rw [he] at x
    rw [← hn] at x
    have hs' : MsgSm ((enc (dec p).1 ++ t).length) (dec p).1 := by
      obtain ⟨h1, h2, h3, h4, h5, h6, h7, h8, h9, h10, h11, h12⟩ := hs
      have e : (p.length : Int) ≤ (enc (dec p).1 ++ t).length := by rw [hn, List.length_append]; omega
      exact ⟨h1, h2, h3, h4, h5, h6, h7, ⟨by omega, h8.2⟩, ⟨by omega, h9.2⟩, h10, h11, h12⟩
    rw [dec_put t hc hs' (by rw [hn, ← he]; exact hl), if_neg (by intro e; exact ht (List.eq_nil_of_length_eq_zero e))] at x
    cases congrArg Prod.snd x
  · exact h0.1
  · omega
end Go.Proofs.Ytplpmhlakiikgaa
