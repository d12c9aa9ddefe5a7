/- Digests of envelopes, walked. -/
import Derived.Test.YtplpmhlakiikgaaN10
import Derived.Deep.OwnRows
namespace Go.Proofs.Ytplpmhlakiikgaa
open Go.RowKit
set_option linter.unusedVariables false
def ofD (tag : UInt8) (ps : List (List UInt8)) : List UInt8 := [tag] ++ bCount ps.length ++ ps.flatMap bBytes
theorem ps_take (l : List (List UInt8)) (k : Nat) (e : List UInt8) (h : l[k]? = some e) : (l.take (k + 1)).flatMap bBytes = (l.take k).flatMap bBytes ++ bBytes e := by
  rw [List.take_add_one, h]
  simp
theorem ps_le (l : List (List UInt8)) (k : Nat) : ((l.take k).flatMap bBytes).length ≤ (l.flatMap bBytes).length := by
  have h := List.take_append_drop k l
  have : l.flatMap bBytes = (l.take k).flatMap bBytes ++ (l.drop k).flatMap bBytes := by rw [← List.flatMap_append, h]
  rw [this, List.length_append]
  omega
theorem ps_mem {l : List (List UInt8)} {k : Nat} {e : List UInt8} (h : l[k]? = some e) : e.length + 4 ≤ (l.flatMap bBytes).length := by
  have := ps_le l (k + 1)
  rw [ps_take l k e h, List.length_append, bBytes_len] at this
  omega
theorem ps_cnt (l : List (List UInt8)) : l.length * 4 ≤ (l.flatMap bBytes).length := by
  induction l with
  | nil => simp
  | cons x l ih => rw [List.flatMap_cons, List.length_append, bBytes_len, List.length_cons]; omega
section
variable {xs : List UInt8} {ok : Nat → Prop} {w : World} {A : Option Addr} {n c : Nat}
theorem sl_box (x : UInt8) (t : TypeId) (hok : ok w.heap.size) : Sl kU8 ok (w.alloc (.cells #[.int .u8 (x.toNat : Int)] t)) (.slice (some ⟨w.heap.size, 0, none⟩) 1 1) [x] := by
  refine ⟨_, _, _, rfl, rfl, Nat.le_refl _, by unfold maxLen; omega, fun h => (nomatch h), fun i y hi => ?_⟩
  cases i with
  | zero =>
    simp at hi
    subst hi
    refine ⟨_, [.int .u8 (x.toNat : Int)], rfl, hok, rfl, fun j u hj => ?_⟩
    cases j with
    | zero => simp at hj; subst hj; exact cell_of (heap_new _ _) 0
    | succ j => simp at hj
  | succ i => simp at hi
theorem envRef_c (h : Sl kU8 ok w (.slice A n c) xs) (hok : ∀ k, w.heap.size ≤ k → ok k) {cs : List Value} {e : Env} (he : kEnv.R ok w cs e) (hn : n ≤ 274877906944) (ho : EnvOk e) :
    Calls Try.prog 37 #[.slice A n c, .agg cs.toArray] w (RetOwn kU8 5 ok w (xs ++ encE e)) := by
  obtain ⟨B, d, rfl, hB⟩ := env_open he
  have H := Lib.hid h
  have HB := Lib.hid hB
  have hl := h.len.1
  have HL := Lib.hid hl
  obtain ⟨⟨o1, o2⟩, o3⟩ := ho
  have W0 := Lib.hid (show Below w.heap.size w (w.alloc (.cells #[.int .i64 e.signer, .slice B e.body.length d] 45)) from (Below.refl _ _).alloc (Nat.le_refl _) _)
  clear h he hB hl
  go_enter Try.func37, Try.ntmps37
  go_wp2
  have hz : w.heap.size ≤ (w.alloc (.cells #[.int .i64 e.signer, .slice B e.body.length d] 45)).heap.size := by simp
  have hz : w.heap.size ≤ (w.alloc (.cells #[.int .i64 e.signer, .slice B e.body.length d] 45)).heap.size := by simp
  have KK := Lib.hid (show ∀ W : World, Below (w.alloc (.cells #[.int .i64 e.signer, .slice B e.body.length d] 45)).heap.size (w.alloc (.cells #[.int .i64 e.signer, .slice B e.body.length d] 45)) W → W.cell? ⟨w.heap.size, 0, none⟩ = some (.int .i64 e.signer) ∧ W.cell? ⟨w.heap.size, 1, none⟩ = some (.slice B e.body.length d) from
    fun W hW => ⟨(hW.cell (p := ⟨w.heap.size, 0, none⟩) (by simp)).trans (cell_of (heap_new _ _) 0), (hW.cell (p := ⟨w.heap.size, 1, none⟩) (by simp)).trans (cell_of (heap_new _ _) 1)⟩)
  have P1 := Lib.hid (intRef_c (w := (w.alloc (.cells #[.int .i64 e.signer, .slice B e.body.length d] 45)).drew) (H.out.below W0.out.drew) e.signer o1 o2 (by omega))
  have P2 := Lib.hid (show ∀ (w1 : World) (A1 : Option Addr) (n1 d1 : Nat), n1 = (xs ++ bInt e.signer).length → Own kU8 5 ok w1 (w.alloc (.cells #[.int .i64 e.signer, .slice B e.body.length d] 45)).heap.size (.slice A1 n1 d1) (xs ++ bInt e.signer) → Below (w.alloc (.cells #[.int .i64 e.signer, .slice B e.body.length d] 45)).heap.size (w.alloc (.cells #[.int .i64 e.signer, .slice B e.body.length d] 45)) w1 → Calls Try.prog 48 #[.slice A1 n1 d1, .slice B e.body.length d] w1 (RetOwn kU8 5 ok w1 (xs ++ bInt e.signer ++ bBytes e.body)) from
    fun w1 A1 n1 d1 hn1 ho hb => bytesRef_c (ho.sl fun k hk => hok k (Nat.le_trans hz hk)) (HB.out.below (W0.out.trans (hb.mono hz))) (by rw [hn1, List.length_append, bInt_len, HL.out]; omega) o3)
  clear hok
  go_region_held3 (fun W => W.cell? ⟨w.heap.size, 0, none⟩ = some (.int .i64 e.signer) ∧ W.cell? ⟨w.heap.size, 1, none⟩ = some (.slice B e.body.length d))
    (first | exact KK.out _ HB2.out | exact KK.out _ HB1.out | exact KK.out _ (Below.refl _ _).drew)
    (first
    | (go_at_call 49; refine P1.out.mono ?_; rintro e1 w1 ⟨v1, rfl, ho, hb⟩; obtain ⟨A1, n1, d1, rfl, hn1⟩ := ho.form'; have HN := Lib.hid hn1; clear hn1; have HB1 := Lib.hid (show Below (w.alloc (.cells #[.int .i64 e.signer, .slice B e.body.length d] 45)).heap.size (w.alloc (.cells #[.int .i64 e.signer, .slice B e.body.length d] 45)) w1 from (Below.refl _ _).drew.trans hb); have HO := Lib.hid (show Own kU8 5 ok w1 (w.alloc (.cells #[.int .i64 e.signer, .slice B e.body.length d] 45)).heap.size (.slice A1 n1 d1) (xs ++ bInt e.signer) from ho); clear ho hb)
    | (go_at_call 48; refine (P2.out _ _ _ _ HN.out HO.out HB1.out).mono ?_; rintro e1 w2 ⟨v2, rfl, ho2, hb⟩; have HB2 := Lib.hid (HB1.out.trans (hb.mono HB1.out.size)); have HO2 := Lib.hid ho2; clear ho2 hb))
  go_wp2
  go_ret
  refine ⟨v2, rfl, ?_, W0.out.trans (HB2.out.mono hz)⟩
  rw [encE, ← List.append_assoc]
  exact HO2.out.lower (W0.out.trans (HB1.out.mono hz)).size
/-- one of the parts -/
theorem part_at {l : List (List UInt8)} (h : Sl kBytes ok w (.slice A n c) l) {i : Nat} (hi : i < n) :
    ∃ ad x B d, A = some ad ∧ l[i]? = some x ∧ w.cell? (ad.add i) = some (.slice B x.length d) ∧ Sl kU8 ok w (.slice B x.length d) x := by
  have hl := h.len.1
  obtain ⟨ad, cs, ea, _, ⟨v, rfl, hs⟩, hc⟩ := h.at_ (List.getElem?_eq_getElem (show i < l.length by omega))
  obtain ⟨B, d, rfl, _⟩ := hs.form
  refine ⟨ad, _, B, d, ea, List.getElem?_eq_getElem (by omega), ?_, hs⟩
  have := hc 0 _ rfl
  simpa [kSl] using this
theorem ofRef_c {l : List (List UInt8)} (h : Sl kBytes ok w (.slice A n c) l) (hok : ∀ k, w.heap.size ≤ k → ok k) (tag : UInt8) (hlen : (ofD tag l).length ≤ 1000000) : Calls Try.prog 38 #[.int .u8 (tag.toNat : Int), .slice A n c] w (Ret w (.string ⟨(ofD tag l).toArray⟩)) := by
  have hl := h.len.1
  have hmax := h.len.2.2.1
  have hnc := h.len.2.1
  have hcnt := ps_cnt l
  have hlen' : 5 + (l.flatMap bBytes).length ≤ 1000000 := by unfold ofD at hlen; rw [List.length_append, List.length_append, bCount_len] at hlen; simp only [List.length_singleton] at hlen; omega
  have hn : n ≤ 250000 := by omega
  have B0 := Lib.hid (show Below w.heap.size w (w.alloc (.cells #[.int .u8 (tag.toNat : Int)] 5)) from (Below.refl _ _).alloc (Nat.le_refl _) _)
  have HC := Lib.hid (countRef_c (ok := ok) (w := w.alloc (.cells #[.int .u8 (tag.toNat : Int)] 5)) (sl_box tag 5 (hok _ (Nat.le_refl _))) n (by omega) (by omega))
  have H := Lib.hid h
  have OK := Lib.hid hok
  clear h hok hcnt hlen
  go_enter Try.func38, Try.ntmps38
  go_wp2_with fail
  refine HC.out.mono ?_
  rintro e w1 ⟨v, rfl, ho, hb⟩
  have HO := Lib.hid (ho.lower (show w.heap.size ≤ _ by simp))
  have B1 := Lib.hid (below_self B0.out hb)
  clear HC ho hb B0
  go_wp2_with fail
  go_loopw [5, 6] (fun v5 v6 wr => ∃ k : Nat, k ≤ n ∧ v6 = .int .i64 k ∧ Own kU8 5 ok wr w.heap.size v5 ([tag] ++ bCount n ++ (l.take k).flatMap bBytes) ∧ Below w.heap.size w wr) (fun _ v6 _ => n - (intOf v6).toNat)
  case atStart => exact ⟨0, Nat.zero_le _, rfl, by simpa using HO.out, B1.out⟩
  case round =>
    obtain ⟨k, hk, rfl, ho, hb⟩ := hrel
    obtain ⟨A5, n5, c5, rfl, hn5⟩ := ho.form'
    have hle := ps_le l k
    have hq5 : n5 ≤ 1000000 := by rw [hn5, List.length_append, List.length_append, bCount_len]; simp only [List.length_singleton]; omega
    have HO := Lib.hid ho
    have HB := Lib.hid hb
    have HL := Lib.hid hl
    clear ho hb hn5 hle
    by_cases hlt : k < n
    · obtain ⟨ad, x, B, d, rfl, he, p0, s1⟩ := part_at (H.out.below HB.out) hlt
      have HE := Lib.hid he
      have hxm := ps_mem he
      have hx : x.length ≤ 1000000 := by omega
      have HQ := Lib.hid (bytesRef_c (ok := ok) (HO.out.sl fun q hq => OK.out q hq) s1 (by omega) (by omega))
      clear he s1 hxm
      go_wp2_with fail
      refine HQ.out.mono ?_
      rintro e w2 ⟨v, rfl, ho, hb⟩
      have HO2 := Lib.hid (show Own kU8 5 ok w2 w.heap.size v ([tag] ++ bCount n ++ (l.take (k + 1)).flatMap bBytes) by rw [ps_take l k x HE.out, ← List.append_assoc]; exact ho.lower HB.out.size)
      have HB2 := Lib.hid (below_self HB.out hb)
      clear ho hb
      go_wp2_with fail
      go_roundw
      case rel => exact ⟨k + 1, by omega, by go_num, HO2.out, HB2.out⟩
      case measure => simp [intOf]; omega
    · have E := Lib.hid (show [tag] ++ bCount n ++ (l.take k).flatMap bBytes = ofD tag l by rw [List.take_of_length_le (by have := HL.out; omega), ofD, HL.out])
      have CV := conv_bs (P := Try.prog) (HO.out.sl fun q hq => OK.out q hq) 23 22 5 Try.underlying23 Try.underlying5 Try.underlying22
      rw [E.out] at CV
      go_wp2_with fail
      go_ret
      exact ⟨rfl, HB.out⟩
theorem infoBy : (Try.prog.info? 23).map (fun i => (i.zero, i.size, i.bytes)) = some (some (.slice none 0 0), 1, 24) := by kernel_rfl
def digB (l : List Env) : List UInt8 := ofD 8 (l.map encE)
theorem batchRef_c {l : List Env} (h : Sl kEnv ok w (.slice A n c) l) (he : ∀ e ∈ l, EnvOk e) (hlen : (digB l).length ≤ 1000000) : Calls Try.prog 17 #[.slice A n c] w (Ret w (.string ⟨(digB l).toArray⟩)) := by
  have hl := h.len.1
  have hmax := h.len.2.2.1
  have hnc := h.len.2.1
  have hn : n ≤ 250000 := by
    have := ps_cnt (l.map encE)
    unfold digB ofD at hlen
    rw [List.length_append, List.length_append, bCount_len] at hlen
    rw [List.length_map] at this
    simp only [List.length_singleton] at hlen
    omega
  have H := Lib.hid h
  have HEO := Lib.hid he
  have HLen := Lib.hid hlen
  clear h he hlen
  go_enter Try.func17, Try.ntmps17
  go_wp2_with fail
  go_loopw [3, 4] (fun v3 v4 wr => ∃ k : Nat, k ≤ n ∧ v4 = .int .i64 k ∧ Own kBytes 23 (fun b => w.heap.size ≤ b) wr w.heap.size v3 ((l.take k).map encE) ∧ Below w.heap.size w wr) (fun _ v4 _ => n - (intOf v4).toNat)
  case atStart => exact ⟨0, Nat.zero_le _, rfl, Own.nil _ _ _ _ _, Below.refl _ _⟩
  case round =>
    obtain ⟨k, hk, rfl, ho, hb⟩ := hrel
    obtain ⟨A3, n3, c3, rfl, -⟩ := ho.form'
    have HO := Lib.hid ho
    have HB := Lib.hid hb
    have HL := Lib.hid hl
    clear ho hb
    by_cases hlt : k < n
    · obtain ⟨ad, x, B, d, rfl, he, p0, p1, s1⟩ := env_at (H.out.below HB.out) hlt
      have HE := Lib.hid he
      have HQ := Lib.hid (envRef_c (ok := fun _ => True) (w := wr) (Sl.nil kU8 _ wr) (fun _ _ => trivial) (env_mk (s1.weak (ok' := fun _ => True) fun _ _ => trivial)) (by omega) (HEO.out x (List.mem_of_getElem? he)))
      clear he s1
      go_wp2_with fail
      refine HQ.out.mono ?_
      rintro e w2 ⟨v, rfl, ho, hb⟩
      obtain ⟨Av, nv, cv, rfl, -⟩ := ho.form'
      have HV := Lib.hid (show kBytes.R (fun b => wr.heap.size ≤ b) w2 [.slice Av nv cv] (encE x) from ⟨_, rfl, (own_any ho : Own kU8 5 (fun b => wr.heap.size ≤ b) w2 wr.heap.size (.slice Av nv cv) (encE x)).sl (fun q hq => hq)⟩)
      have HO2 := Lib.hid (HO.out.below hb)
      have HBV := Lib.hid (show ∀ q, (Value.slice A3 n3 c3).ownBlock = some q → q < wr.heap.size from fun q hq => (HO.out.lt q hq).2)
      have HB2 := Lib.hid (below_self HB.out hb)
      have HLn := Lib.hid (show ((l.take k).map encE).length = k by rw [List.length_map, List.length_take]; have := HL.out; omega)
      clear ho hb HQ
      go_wp2_with (at_builtin; refine at_append rfl (.tmp 11) (.tmp 17) 71 71 rfl rfl rfl (append_fresh Try.underlying71 Try.underlying71 infoBy rfl HO2.out HB2.out.size HV.out HB.out.size HBV.out (by rw [HLn.out]; omega) (by rw [HLn.out]; omega)) ?_; rintro v' w' ⟨ho, hgr⟩; have HO3 := Lib.hid ho; have HG := Lib.hid hgr; clear ho hgr)
      go_roundw
      case rel =>
        refine ⟨k + 1, by omega, by go_num, ?_, below_grown HB2.out HO2.out (Nat.le_refl _) HB2.out.size HG.out⟩
        have e1 : (l.take (k + 1)).map encE = (l.take k).map encE ++ [encE x] := by rw [List.take_add_one, HE.out]; simp
        rw [e1]
        exact HO3.out
      case measure => simp [intOf]; omega
    · have E := Lib.hid (show (l.take k).map encE = l.map encE by rw [List.take_of_length_le (by have := HL.out; omega)])
      rw [E.out] at HO
      have HQ := Lib.hid (ofRef_c (w := wr) (HO.out.sl fun q hq => hq) (fun q hq => Nat.le_trans HB.out.size hq) 8 HLen.out)
      go_wp2_with fail
      refine HQ.out.mono ?_
      rintro e w2 ⟨rfl, hb⟩
      have HB2 := Lib.hid (below_self HB.out hb)
      clear hb
      go_wp2_with fail
      go_ret
      exact ⟨rfl, HB2.out⟩
theorem at_makeT {P : Program} {C : Value → World → Prop} {ops : Array Oper} {rest : List Oper} {o : Oper} {a : Act} {Q : Exit → Act → World → Prop} (hgd : o.guard = none) (l c : Operand) (t : TypeId)
    (hop : o.op = .makeSlice t l c) {vl vc : Value} (hl : a.eval l = vl) (hc : a.eval c = vc) (hrun : ∃ v' w', (Instr.makeSlice t vl vc).run P w = .ok v' w' ∧ C v' w') (h : ∀ v' w', C v' w' → wpList P ops Q rest (a.put o.dst v') w') : wpList P ops Q (o :: rest) a w := by
  obtain ⟨v', w', hr, hC⟩ := hrun
  refine wpList_plain hgd fun K hK => ?_
  unfold Oper.wp
  simp [execOp, hop, hl, hc, hr, Result.andThen]
  exact hK _ _ (h v' w' hC)
theorem room_u8 (q : Nat) (hq : q ≤ 1099511627776) : ∃ v' w', (Instr.makeSlice 23 (.int .i64 0) (.int .i64 (q : Int))).run Try.prog w = .ok v' w' ∧ Own kU8 5 ok w' w.heap.size v' [] ∧ Below w.heap.size w w' := by
  obtain ⟨i, hi, hz0, hz1, hz2⟩ := info_parts infoU8
  obtain ⟨w', hr, ho, hg⟩ := run_make_own (P := Try.prog) w w.heap.size 23 5 i _ 1 Try.underlying23 hi hz0 hz1 .i64 .i64 q (by rw [hz2]; omega) (by unfold maxLen; omega) (Nat.le_refl _)
  exact ⟨_, w', hr, ⟨[], ho, rfl⟩, ⟨hg.os, hg.tape, hg.output, hg.size, fun k hk => hg.block k hk (fun e => by cases e)⟩⟩
theorem of_c {l : List (List UInt8)} (h : Sl kBytes ok w (.slice A n c) l) (hok : ∀ k, w.heap.size ≤ k → ok k) (tag : UInt8) (hlen : (ofD tag l).length ≤ 1000000) : Calls Try.prog 36 #[.int .u8 (tag.toNat : Int), .slice A n c] w (Ret w (.string ⟨(ofD tag l).toArray⟩)) := by
  have hl := h.len.1
  have hmax := h.len.2.2.1
  have hnc := h.len.2.1
  have hcnt := ps_cnt l
  have hlen' : 5 + (l.flatMap bBytes).length ≤ 1000000 := by unfold ofD at hlen; rw [List.length_append, List.length_append, bCount_len] at hlen; simp only [List.length_singleton] at hlen; omega
  have hn : n ≤ 250000 := by omega
  have H := Lib.hid h
  have OK := Lib.hid hok
  clear h hok hcnt hlen
  go_enter Try.func36, Try.ntmps36
  go_wp2_with fail
  go_loop [5, 13] (fun v5 v13 => ∃ k : Nat, k ≤ n ∧ v13 = .int .i64 k ∧ v5 = .int .i64 (5 + ((l.take k).flatMap bBytes).length : Nat)) (fun _ v13 => n - (intOf v13).toNat)
  case atStart => exact ⟨0, Nat.zero_le _, rfl, by simp⟩
  case round =>
    obtain ⟨k, hk, rfl, rfl⟩ := hrel
    have hle := ps_le l k
    have HL := Lib.hid hl
    clear hl
    by_cases hlt : k < n
    · obtain ⟨ad, x, B, d, rfl, he, p0, s1⟩ := part_at H.out hlt
      have HE := Lib.hid he
      have e1 := congrArg List.length (ps_take l k x he)
      rw [List.length_append, bBytes_len] at e1
      have hle2 := ps_le l (k + 1)
      have E1 := Lib.hid e1
      have hq : ((5 + ((l.take k).flatMap bBytes).length : Nat) : Int) ≤ 1000000 := by omega
      have hx : (x.length : Int) ≤ 1000000 := by omega
      clear he s1 e1 hle hle2
      generalize hQ : 5 + ((l.take k).flatMap bBytes).length = Q at *
      go_wp2_with fail
      go_round
      case rel => exact ⟨k + 1, by omega, by go_num, by rw [E1.out]; congr 1; omega⟩
      case measure => simp [intOf]; omega
    · have hQ0 : (l.take k).flatMap bBytes = l.flatMap bBytes := by rw [List.take_of_length_le (by have := HL.out; omega)]
      rw [hQ0]
      have HLF := Lib.hid (show 5 + (l.flatMap bBytes).length ≤ 1000000 from hlen')
      clear hQ0 hle
      have hlenQ := hlen'
      clear hlen'
      generalize 5 + (l.flatMap bBytes).length = Q at hlenQ ⊢
      have hlen' := hlenQ
      clear hlenQ
      have hQ : (Q : Int) ≤ 1000000 := by omega
      have RM := Lib.hid (room_u8 (ok := ok) (w := w) Q (by omega))
      go_wp2_with (first
        | (at_make; refine at_makeT rfl _ _ 23 rfl rfl rfl RM.out ?_; rintro v1 w1 ⟨ho, hb⟩; have HO := Lib.hid ho; have HB := Lib.hid hb; clear ho hb)
        | (at_builtin; refine at_append rfl (.tmp 24) (.tmp 26) 23 23 rfl rfl rfl (run_append_clp1 Try.underlying23 Try.underlying23 infoU8 rfl (.inr HO.out) HB.out.size tag (by simp) (by simp)) ?_; rintro v2 w2 ⟨ho, hb⟩; obtain ⟨A2, n2, c2, rfl, hn2⟩ := ho.form'; have HO1 := Lib.hid (show Own kU8 5 ok w2 w.heap.size (.slice A2 n2 c2) [tag] from ho); have HN2 := Lib.hid (show n2 ≤ 1099511627776 from (by rw [hn2]; simp)); have HB1 := Lib.hid (HB.out.trans hb); clear ho hb hn2))
      have HC := Lib.hid (putCount_c (HO1.out.sl fun q hq => OK.out q hq) n (by omega) HN2.out)
      go_wp2_with fail
      refine HC.out.mono ?_
      rintro e w3 ⟨v, rfl, ho, hb⟩
      have HO := Lib.hid (ho.lower HB1.out.size)
      have B1 := Lib.hid (below_self HB1.out hb)
      have hl := HL.out
      clear hlen'
      have hlen' := HLF.out
      clear HC ho hb HB1 HO1
      go_wp2_with fail
      go_loopw [8, 34] (fun v5 v6 wr => ∃ k : Nat, k ≤ n ∧ v6 = .int .i64 k ∧ Own kU8 5 ok wr w.heap.size v5 ([tag] ++ bCount n ++ (l.take k).flatMap bBytes) ∧ Below w.heap.size w wr) (fun _ v6 _ => n - (intOf v6).toNat)
      case atStart => exact ⟨0, Nat.zero_le _, rfl, by simpa using HO.out, B1.out⟩
      case round =>
        obtain ⟨k, hk, rfl, ho, hb⟩ := hrel
        obtain ⟨A5, n5, c5, rfl, hn5⟩ := ho.form'
        have hle := ps_le l k
        have hq5 : n5 ≤ 1000000 := by rw [hn5, List.length_append, List.length_append, bCount_len]; simp only [List.length_singleton]; omega
        have HO := Lib.hid ho
        have HB := Lib.hid hb
        have HL := Lib.hid hl
        clear ho hb hn5 hle
        by_cases hlt : k < n
        · obtain ⟨ad, x, B, d, rfl, he, p0, s1⟩ := part_at (H.out.below HB.out) hlt
          have HE := Lib.hid he
          have hxm := ps_mem he
          have hx : x.length ≤ 1000000 := by omega
          have HQ := Lib.hid (putBytes_c (ok := ok) (HO.out.sl fun q hq => OK.out q hq) s1 (by omega) (by omega))
          clear he s1 hxm
          go_wp2_with fail
          refine HQ.out.mono ?_
          rintro e w2 ⟨v, rfl, ho, hb⟩
          have HO2 := Lib.hid (show Own kU8 5 ok w2 w.heap.size v ([tag] ++ bCount n ++ (l.take (k + 1)).flatMap bBytes) by rw [ps_take l k x HE.out, ← List.append_assoc]; exact ho.lower HB.out.size)
          have HB2 := Lib.hid (below_self HB.out hb)
          clear ho hb
          go_wp2_with fail
          go_roundw
          case rel => exact ⟨k + 1, by omega, by go_num, HO2.out, HB2.out⟩
          case measure => simp [intOf]; omega
        · have E := Lib.hid (show [tag] ++ bCount n ++ (l.take k).flatMap bBytes = ofD tag l by rw [List.take_of_length_le (by have := HL.out; omega), ofD, HL.out])
          have CV := conv_bs (P := Try.prog) (HO.out.sl fun q hq => OK.out q hq) 23 22 5 Try.underlying23 Try.underlying5 Try.underlying22
          rw [E.out] at CV
          go_wp2_with fail
          go_ret
          exact ⟨rfl, HB.out⟩
/-- a row of parts, the first k of which are laid -/
def Laid (PB n : Nat) (l : List Env) (k : Nat) (wr : World) : Prop := ∃ cur : Array Value, wr.heap[PB]? = some (.cells cur 23 (0, 0)) ∧ cur.size = n ∧ ∀ i e, i < k → l[i]? = some e → ∃ v, cur[i]? = some v ∧ Sl kU8 (fun b => PB < b) wr v (encE e)
theorem batch_c {l : List Env} (h : Sl kEnv ok w (.slice A n c) l) (he : ∀ e ∈ l, EnvOk e) (hlen : (digB l).length ≤ 1000000) : Calls Try.prog 16 #[.slice A n c] w (Ret w (.string ⟨(digB l).toArray⟩)) := by
  have hl := h.len.1
  have hmax := h.len.2.2.1
  have hnc := h.len.2.1
  have hn : n ≤ 250000 := by
    have := ps_cnt (l.map encE)
    unfold digB ofD at hlen
    rw [List.length_append, List.length_append, bCount_len] at hlen
    rw [List.length_map] at this
    simp only [List.length_singleton] at hlen
    omega
  have H := Lib.hid h
  have HEO := Lib.hid he
  have HLen := Lib.hid hlen
  have hn2 : (n : Int) ≤ 250000 := by omega
  have HL := Lib.hid hl
  have RM := Lib.hid (show ∃ v' w', (Instr.makeSlice 71 (.int .i64 (n : Int)) (.int .i64 (n : Int))).run Try.prog w = .ok v' w' ∧ (v' = .slice (some ⟨w.heap.size, 0, none⟩) n n ∧ Laid w.heap.size n l 0 w' ∧ Below w.heap.size w w' ∧ w.heap.size < w'.heap.size) from
    ⟨_, _, run_make_row' 71 23 _ 24 Try.underlying71 infoBy rfl .i64 .i64 n (by omega) (by omega) w, rfl, ⟨_, heap_new _ _, size_madeCells _ _, fun i e hi => by omega⟩, (Below.refl _ _).alloc (Nat.le_refl _) _, by simp⟩)
  clear h he hlen hl
  go_enter Try.func16, Try.ntmps16
  go_wp2_with (first
        | (at_make; refine at_makeT rfl _ _ 71 rfl rfl rfl RM.out ?_; rintro v1 w1 ⟨rfl, hla, hb, hsz⟩; have HLa := Lib.hid hla; have HB := Lib.hid hb; clear hla hb))
  go_loopw [11] (fun v11 wr => ∃ k : Nat, k ≤ n ∧ v11 = .int .i64 k ∧ Laid w.heap.size n l k wr ∧ Below w.heap.size w wr) (fun v11 _ => n - (intOf v11).toNat)
  case atStart => exact ⟨0, Nat.zero_le _, rfl, HLa.out, HB.out⟩
  case round =>
    obtain ⟨k, hk, rfl, ⟨cur, hcur, hcs, hla⟩, hb⟩ := hrel
    have HCu := Lib.hid hcur
    have HCs := Lib.hid hcs
    have HLd := Lib.hid hla
    clear HB HLa
    have HB := Lib.hid hb
    have hzr := lt_of_heap hcur
    clear hcur hcs hla hb
    by_cases hlt : k < n
    · obtain ⟨ad, x, B, d, rfl, he, p0, p1, s1⟩ := env_at (H.out.below HB.out) hlt
      have HE := Lib.hid he
      have BE := Lib.hid (show Below wr.heap.size wr (wr.alloc (.cells #[.int .i64 x.signer, .slice B x.body.length d] 45)) from (Below.refl _ _).alloc (Nat.le_refl _) _)
      have HQ := Lib.hid (putEnvelope_c (ok := fun _ => True) (w := (wr.alloc (.cells #[.int .i64 x.signer, .slice B x.body.length d] 45))) (Sl.nil kU8 _ _) (fun _ _ => trivial) (env_mk ((s1.below BE.out).weak (ok' := fun _ => True) fun _ _ => trivial)) (by omega) (HEO.out x (List.mem_of_getElem? he)))
      clear he s1
      go_wp2_with fail
      refine HQ.out.mono ?_
      rintro e w2 ⟨v, rfl, ho, hb⟩
      have hb2 := below_self BE.out hb
      obtain ⟨Av, nv, cv, rfl, -⟩ := ho.form'
      have hcur2 := (hb2.block _ hzr).trans HCu.out
      have q0 : w2.cell? ⟨w.heap.size, k, none⟩ = some (cur[k]'(by rw [HCs.out]; exact hlt)) := by rw [cell_of hcur2 k]; exact Array.getElem?_eq_getElem _
      have q1 : w2.frozen? ⟨w.heap.size, k, none⟩ = false := free_of hcur2 k
      generalize cur[k]'(by rw [HCs.out]; exact hlt) = old at q0
      have hklt : (k : Int) < n := by omega
      go_wp2_with fail
      have HLN := Lib.hid (show Laid w.heap.size n l (k + 1) (w2.setCell ⟨w.heap.size, k, none⟩ (.slice Av nv cv)) from by
        refine ⟨_, heap_set hcur2 k _, by rw [Array.size_setIfInBounds]; exact HCs.out, fun i e hi hie => ?_⟩
        rcases Nat.lt_or_ge i k with hik | hik
        · obtain ⟨v, hv, hs⟩ := HLd.out i e hik hie
          exact ⟨v, by rw [Array.getElem?_setIfInBounds_ne (by omega)]; exact hv, (hs.below hb2).ext (ext_set (ok := fun b => w.heap.size < b) (p := ⟨w.heap.size, k, none⟩) (fun q => by simp at q) _)⟩
        · obtain rfl : i = k := by omega
          rw [HE.out] at hie
          injection hie with hie
          subst hie
          exact ⟨_, by rw [Array.getElem?_setIfInBounds_self_of_lt (by rw [HCs.out]; exact hlt)], ((own_any ho : Own kU8 5 (fun b => w.heap.size < b) _ _ _ (encE x)).sl (fun q hq => by have := lt_of_alloc hq; omega)).ext (ext_set (ok := fun b => w.heap.size < b) (p := ⟨w.heap.size, i, none⟩) (fun q => by simp at q) _)⟩)
      have HBN := Lib.hid (below_ext_ne (below_self HB.out hb2) (ext_set_ne (Ext.refl (fun b => b ≠ w.heap.size) _) k (.slice Av nv cv)) (Nat.le_refl _) (Nat.le_refl _))
      clear ho hb hb2 hcur2 q0 q1
      go_roundw
      case rel => exact ⟨k + 1, by omega, by go_num, HLN.out, HBN.out⟩
      case measure => simp [intOf]; omega
    · have HP := Lib.hid (show Sl kBytes (fun b => w.heap.size ≤ b) wr (.slice (some ⟨w.heap.size, 0, none⟩) n n) (l.map encE) from by
        refine ⟨_, _, _, rfl, by rw [List.length_map]; exact HL.out, Nat.le_refl _, by unfold maxLen; omega, fun q => (nomatch q), fun i y hy => ?_⟩
        rw [List.getElem?_map] at hy
        obtain ⟨e, he, rfl⟩ := Option.map_eq_some_iff.1 hy
        have hi := (List.getElem?_eq_some_iff.1 he).1
        obtain ⟨v, hv, hs⟩ := HLd.out i e (by have := HL.out; omega) he
        refine ⟨_, [v], rfl, Nat.le_refl _, ⟨v, rfl, hs.weak fun b hb => Nat.le_of_lt hb⟩, fun j u hj => ?_⟩
        cases j with
        | zero =>
          simp at hj
          subst hj
          have e1 : (⟨w.heap.size, 0, none⟩ : Addr).add (i * kBytes.sz + 0) = ⟨w.heap.size, i, none⟩ := by
            show Addr.add _ (i * 1 + 0) = _
            unfold Addr.add
            by_cases h : i = 0 <;> simp [h]
          rw [e1, cell_of HCu.out i]
          exact hv
        | succ j => simp at hj)
      have HQ := Lib.hid (of_c HP.out (fun q hq => Nat.le_trans HB.out.size hq) 8 HLen.out)
      go_wp2_with fail
      refine HQ.out.mono ?_
      rintro e w2 ⟨rfl, hb⟩
      have HB2 := Lib.hid (below_self HB.out hb)
      clear hb
      go_wp2_with fail
      go_ret
      exact ⟨rfl, HB2.out⟩
end
end Go.Proofs.Ytplpmhlakiikgaa
