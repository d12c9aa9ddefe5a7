/- Package message, walked: Encode. -/
import Derived.Test.YtplpmhlakiikgaaM4
namespace Go.Proofs.Ytplpmhlakiikgaa
open Go.RowKit
set_option linter.unusedVariables false
def encC (c : Crt) : List UInt8 := encE c.pre ++ encL c.votes
def encCs (l : List Crt) : List UInt8 := l.flatMap encC
theorem encCs_take (l : List Crt) (k : Nat) (e : Crt) (h : l[k]? = some e) : encCs (l.take (k + 1)) = encCs (l.take k) ++ encC e := by
  rw [List.take_add_one, h]
  simp [encCs]
theorem encCs_take_le (l : List Crt) (k : Nat) : (encCs (l.take k)).length ≤ (encCs l).length := by
  have h := List.take_append_drop k l
  have : encCs l = encCs (l.take k) ++ encCs (l.drop k) := by
    unfold encCs
    rw [← List.flatMap_append, h]
  rw [this, List.length_append]
  omega
/-- is a field had? -/
def had (a f : Int) : Bool := !(Go.bits .and .i64 a f == 0)
def fv : Nat → Int | 0 => 1 | 1 => 2 | 2 => 4 | 3 => 8 | 4 => 16 | 5 => 32 | 6 => 64 | 7 => 128 | 8 => 256 | _ => 512
/-- a field as bytes -/
def fld (m : Msg) : Nat → List UInt8
  | 0 => bInt m.view
  | 1 => bInt m.seq
  | 2 => bInt m.client ++ bInt m.stamp
  | 3 => bBytes m.digest
  | 4 => bBytes m.data
  | 5 => bInt m.code ++ bInt m.stage
  | 6 => encL m.batch
  | 7 => encL m.pres
  | _ => bCount m.certs.length ++ encCs m.certs
def encTo (a : Int) (m : Msg) : Nat → List UInt8
  | 0 => bInt m.kind
  | i + 1 => encTo a m i ++ if had a (fv i) then fld m i else []
def enc (m : Msg) : List UInt8 := if chk m then match shp m.kind with | none => [] | some (a, _, _, _) => encTo a m 9 else []
theorem encTo_le (a : Int) (m : Msg) : ∀ i j, i ≤ j → (encTo a m i).length ≤ (encTo a m j).length
  | i, 0, h => by rw [Nat.le_zero.1 h]; exact Nat.le_refl _
  | i, j + 1, h => by
    rcases Nat.eq_or_lt_of_le h with h | h
    · rw [h]; exact Nat.le_refl _
    · refine Nat.le_trans (encTo_le a m i j (by omega)) ?_
      rw [encTo, List.length_append]; omega
/-- a message that can be put: numbers of their kind, lists and bodies that can be counted -/
structure MsgOk (m : Msg) : Prop where
  kind : i64 m.kind
  view : i64 m.view
  seq : i64 m.seq
  client : i64 m.client
  stamp : i64 m.stamp
  code : i64 m.code
  stage : i64 m.stage
  digest : m.digest.length ≤ 4294967295
  data : m.data.length ≤ 4294967295
  batch : m.batch.length ≤ 4294967295 ∧ ∀ e ∈ m.batch, EnvOk e
  pres : m.pres.length ≤ 4294967295 ∧ ∀ e ∈ m.pres, EnvOk e
  certs : m.certs.length ≤ 4294967295 ∧ ∀ c ∈ m.certs, EnvOk c.pre ∧ c.votes.length ≤ 4294967295 ∧ ∀ e ∈ c.votes, EnvOk e
/-- '[]byte(s)' -/
theorem conv_sb {P : Program} {ok : Nat → Prop} (w : World) (src dst e : TypeId) (l : List UInt8) (hs : P.underlying src = some .string) (hd : P.underlying dst = some (.slice e)) (he : P.underlying e = some (.int .u8)) (hok : ∀ k, w.heap.size ≤ k → ok k) (hl : l.length ≤ 274877906944) :
    ∃ A c w', (convert src dst (.string ⟨l.toArray⟩)).run P w = .ok (.slice A l.length c) w' ∧ Sl kU8 ok w' (.slice A l.length c) l ∧ Below w.heap.size w w' := by
  have hz : (⟨l.toArray⟩ : ByteArray).size = l.length := by show l.toArray.size = _; simp
  have hr := run_bytes_of_string (P := P) w src dst e ⟨l.toArray⟩ hs hd he
  rw [hz] at hr
  have hcap := grownCap_le w l.length 0 e (by omega)
  generalize grownCap w l.length 0 e = cap at *
  refine ⟨_, _, _, hr, ⟨_, _, _, rfl, rfl, hcap.1, hcap.2, fun h => (nomatch h), fun i x hi => ⟨⟨w.heap.size, 0, none⟩, [.int .u8 (x.toNat : Int)], rfl, hok _ (Nat.le_refl _), rfl, fun j u hj => ?_⟩⟩, ?_⟩
  · have hi' := List.getElem?_eq_some_iff.1 hi
    obtain ⟨hi', hx⟩ := hi'
    match j, hj with
    | 0, hj =>
      have hj : Value.int .u8 (x.toNat : Int) = u := by simpa using hj
      subst hj
      have h0 : (w.drew.alloc (.cells (bytesRow ⟨l.toArray⟩ cap) e ((bytesRow ⟨l.toArray⟩ cap).size, (bytesRow ⟨l.toArray⟩ cap).size + 1))).heap[w.heap.size]? = some (.cells (bytesRow ⟨l.toArray⟩ cap) e ((bytesRow ⟨l.toArray⟩ cap).size, (bytesRow ⟨l.toArray⟩ cap).size + 1)) := heap_new w.drew _
      have h1 : ((⟨w.heap.size, 0, none⟩ : Addr).add (i * kU8.sz + 0)) = ⟨w.heap.size, i, none⟩ := by
        show Addr.add _ (i * 1 + 0) = _
        unfold Addr.add
        by_cases h : i = 0 <;> simp [h]
      rw [h1, cell_of h0]
      unfold bytesRow
      rw [Array.getElem?_append_left (by simpa using hi')]
      simp [hi', hx]
    | j + 1, hj => simp at hj
  · exact ((Below.refl _ w).drew).alloc (Nat.le_refl _) _
section
variable {ok : Nat → Prop} {w : World}
set_option maxRecDepth 10000 in
set_option maxHeartbeats 4000000 in
theorem encode_c {cs : List Value} {m : Msg} (h : kMsg.R ok w cs m) (hok : ∀ k, w.heap.size ≤ k → ok k) (hm : MsgOk m) (hlen : ∀ a, (encTo a m 9).length ≤ 137438953472) : Calls Try.prog 9 #[.agg cs.toArray] w (RetOwn kU8 5 ok w (enc m)) := by
  obtain ⟨A1, c1, A2, c2, A3, c3, A4, c4, rfl, h1, h2, h3, h4⟩ := msg_open h
  have HCk := Lib.hid (fun (W : World) (hb : Below w.heap.size w W) => check_c (w := W) (Kd.below h hb))
  have HSh := Lib.hid (fun (W : World) => shapeOf_c (w := W) m.kind)
  have H1 := Lib.hid h1
  have H2 := Lib.hid h2
  have H3 := Lib.hid h3
  have H4 := Lib.hid h4
  have OK := Lib.hid hok
  have MO := Lib.hid hm
  have HL := Lib.hid hlen
  have B0 := Lib.hid (show Below w.heap.size w (w.alloc (.cells #[.int .i64 m.kind, .int .i64 m.view, .int .i64 m.seq, .int .i64 m.client, .int .i64 m.stamp, .string ⟨m.digest.toArray⟩, .slice A1 m.data.length c1, .int .i64 m.code, .int .i64 m.stage, .slice A2 m.batch.length c2, .slice A3 m.pres.length c3, .slice A4 m.certs.length c4] 30)) from (Below.refl _ _).alloc (Nat.le_refl _) _)
  have L0 := Lib.hid (heap_new w (.cells #[.int .i64 m.kind, .int .i64 m.view, .int .i64 m.seq, .int .i64 m.client, .int .i64 m.stamp, .string ⟨m.digest.toArray⟩, .slice A1 m.data.length c1, .int .i64 m.code, .int .i64 m.stage, .slice A2 m.batch.length c2, .slice A3 m.pres.length c3, .slice A4 m.certs.length c4] 30))
  clear h h1 h2 h3 h4 hok hm hlen
  go_enter Try.func9, Try.ntmps9
  go_wp2_with fail
  refine (HCk.out _ B0.out).mono ?_
  rintro e w1 ⟨rfl, hb1⟩
  have B1 := Lib.hid (below_self B0.out hb1)
  have L1 := Lib.hid ((hb1.block _ (by simp)).trans L0.out)
  have hz : w.heap.size < w1.heap.size := Nat.lt_of_lt_of_le (by simp) hb1.size
  clear hb1 B0 L0 HCk
  cases hck : chk m
  · have E := Lib.hid (show enc m = [] by simp [enc, hck])
    have e1 : errOf (chk m) = 120 := by rw [hck]; rfl
    rw [hck] at e1
    go_wp2_with fail
    go_ret
    exact ⟨_, rfl, by rw [E.out]; exact Own.nil _ _ _ _ _, B1.out⟩
  · have e1 : errOf true = 0 := rfl
    have m0 : w1.cell? ⟨w.heap.size, 0, none⟩ = some (.int .i64 m.kind) := cell_of L1.out 0
    go_wp2_with fail
    refine (HSh.out _).mono ?_
    rintro e w2 ⟨⟨a, b, c, d, rfl, hq⟩, hb2⟩
    obtain ⟨a', b', c', d', hs⟩ : ∃ a b c d, shp m.kind = some (a, b, c, d) := by
      cases hx : shp m.kind with
      | none => rw [chk, hx] at hck; cases hck
      | some q => exact ⟨_, _, _, _, rfl⟩
    obtain ⟨rfl, rfl, rfl, rfl⟩ : a' = a ∧ b' = b ∧ c' = c ∧ d' = d := by have := hq _ hs; simp at this; exact this
    have E := Lib.hid (show enc m = encTo a' m 9 by simp [enc, hck, hs])
    have hsome : (shp m.kind).isSome = true := by rw [hs]; rfl
    have B3 := Lib.hid (show Below w.heap.size w (w2.alloc (.cells #[.int .i64 a', .int .i64 b', .int .i64 c', .int .i64 d'] 49)) from (below_self B1.out hb2).alloc (below_self B1.out hb2).size _)
    have LC := Lib.hid (show Loc2 w.heap.size w2.heap.size 30 49 #[.int .i64 m.kind, .int .i64 m.view, .int .i64 m.seq, .int .i64 m.client, .int .i64 m.stamp, .string ⟨m.digest.toArray⟩, .slice A1 m.data.length c1, .int .i64 m.code, .int .i64 m.stage, .slice A2 m.batch.length c2, .slice A3 m.pres.length c3, .slice A4 m.certs.length c4] #[.int .i64 a', .int .i64 b', .int .i64 c', .int .i64 d'] (w2.alloc (.cells #[.int .i64 a', .int .i64 b', .int .i64 c', .int .i64 d'] 49)) from
      ⟨(Below.heap_alloc _ _ _ (Nat.lt_of_lt_of_le hz hb2.size)).trans ((hb2.block _ hz).trans L1.out), heap_new _ _⟩)
    have m0 : w2.cell? ⟨w.heap.size, 0, none⟩ = some (.int .i64 m.kind) := cell_of ((hb2.block _ hz).trans L1.out) 0
    have hz2 : w.heap.size < w2.heap.size := Nat.lt_of_lt_of_le hz hb2.size
    have PI := Lib.hid (putInt_c (w := w2.alloc (.cells #[.int .i64 a', .int .i64 b', .int .i64 c', .int .i64 d'] 49)) (Sl.nil kU8 ok _) m.kind MO.out.kind.1 MO.out.kind.2 (by decide))
    clear hq hb2 HSh L1 B1 hs hz hck
    go_wp2_with fail
    refine PI.out.mono ?_
    rintro e w3 ⟨v, rfl, ho, hb3⟩
    have HO := Lib.hid (show Own kU8 5 ok w3 w.heap.size v (encTo a' m 0) from ho.lower B3.out.size)
    have LC3 := Lib.hid (LC.out.below hb3)
    have B4 := Lib.hid (below_self B3.out hb3)
    clear ho hb3 LC B3 PI
    go_wp2_with fail
    go_loopw [5, 6] (fun v5 v6 wr => ∃ i : Nat, i ≤ 9 ∧ v6 = .int .i64 (fv i) ∧ Own kU8 5 ok wr w.heap.size v5 (encTo a' m i) ∧ Below w.heap.size w wr ∧ Loc2 w.heap.size w2.heap.size 30 49 #[.int .i64 m.kind, .int .i64 m.view, .int .i64 m.seq, .int .i64 m.client, .int .i64 m.stamp, .string ⟨m.digest.toArray⟩, .slice A1 m.data.length c1, .int .i64 m.code, .int .i64 m.stage, .slice A2 m.batch.length c2, .slice A3 m.pres.length c3, .slice A4 m.certs.length c4] #[.int .i64 a', .int .i64 b', .int .i64 c', .int .i64 d'] wr) (fun _ v6 _ => 512 - (intOf v6).toNat)
    case atStart => exact ⟨0, Nat.zero_le _, rfl, HO.out, B4.out, LC3.out⟩
    case round =>
      obtain ⟨i, hi, rfl, ho, hb, hl⟩ := hrel
      obtain ⟨A, n, q, rfl, hn⟩ := ho.form'
      have HN := Lib.hid hn
      have HX := Lib.hid ho
      have HB := Lib.hid hb
      have LC := Lib.hid hl
      have hle := encTo_le a' m i 9 hi
      have HM := Lib.hid (show n + (encTo a' m 9).length ≤ 274877906944 by have := HL.out a'; omega)
      have HE := Lib.hid (show i < 9 → encTo a' m (i + 1) = encTo a' m i ++ if had a' (fv i) then fld m i else [] from fun _ => rfl)
      clear hn ho hb hl hle HO LC3 B4
      have m0 : wr.cell? ⟨w.heap.size, 0, none⟩ = some (.int .i64 m.kind) := cell_of LC.out.1 0
      have m1 : wr.cell? ⟨w.heap.size, 1, none⟩ = some (.int .i64 m.view) := cell_of LC.out.1 1
      have m2 : wr.cell? ⟨w.heap.size, 2, none⟩ = some (.int .i64 m.seq) := cell_of LC.out.1 2
      have m3 : wr.cell? ⟨w.heap.size, 3, none⟩ = some (.int .i64 m.client) := cell_of LC.out.1 3
      have m4 : wr.cell? ⟨w.heap.size, 4, none⟩ = some (.int .i64 m.stamp) := cell_of LC.out.1 4
      have m5 : wr.cell? ⟨w.heap.size, 5, none⟩ = some (.string ⟨m.digest.toArray⟩) := cell_of LC.out.1 5
      have m6 : wr.cell? ⟨w.heap.size, 6, none⟩ = some (.slice A1 m.data.length c1) := cell_of LC.out.1 6
      have m7 : wr.cell? ⟨w.heap.size, 7, none⟩ = some (.int .i64 m.code) := cell_of LC.out.1 7
      have m8 : wr.cell? ⟨w.heap.size, 8, none⟩ = some (.int .i64 m.stage) := cell_of LC.out.1 8
      have m9 : wr.cell? ⟨w.heap.size, 9, none⟩ = some (.slice A2 m.batch.length c2) := cell_of LC.out.1 9
      have m10 : wr.cell? ⟨w.heap.size, 10, none⟩ = some (.slice A3 m.pres.length c3) := cell_of LC.out.1 10
      have m11 : wr.cell? ⟨w.heap.size, 11, none⟩ = some (.slice A4 m.certs.length c4) := cell_of LC.out.1 11
      have s0 : wr.cell? ⟨w2.heap.size, 0, none⟩ = some (.int .i64 a') := cell_of LC.out.2 0
      rcases (show i = 9 ∨ i = 0 ∨ i = 1 ∨ i = 2 ∨ i = 3 ∨ i = 4 ∨ i = 5 ∨ i = 6 ∨ i = 7 ∨ i = 8 by omega) with rfl | rfl | rfl | rfl | rfl | rfl | rfl | rfl | rfl | rfl
      · rw [show fv 9 = 512 from rfl]
        go_wp2_with fail
        go_ret
        exact ⟨_, rfl, by rw [E.out]; exact HX.out, HB.out⟩
      · rw [show fv 0 = 1 from rfl]
        have HD := Lib.hid (show encTo a' m 1 = encTo a' m 0 ++ if (!(Go.bits .and .i64 a' 1 == 0)) = true then bInt m.view else [] from rfl)
        have SH : Op.shift .shl .i64 1 .i64 1 = pure (Value.int .i64 2) := rfl
        cases hh : (Go.bits .and .i64 a' 1 == 0)
        · rw [hh] at HD
          go_wp2_with fail
          refine (putInt_c (HX.out.sl fun k hk => OK.out k hk) m.view MO.out.view.1 MO.out.view.2 (by have := HM.out; omega)).mono ?_
          rintro e w' ⟨v', rfl, ho, hb⟩
          have HX' := Lib.hid (show Own kU8 5 ok w' w.heap.size v' (encTo a' m 1) by rw [HD.out]; exact ho.lower HB.out.size)
          have HB' := Lib.hid (below_self HB.out hb)
          have LC' := Lib.hid (LC.out.below hb)
          clear ho hb
          go_wp2_with fail
          go_roundw
          case rel => exact ⟨1, by decide, rfl, HX'.out, HB'.out, LC'.out⟩
          case measure => decide
        · rw [hh] at HD
          go_wp2_with fail
          go_roundw
          case rel => exact ⟨1, by decide, rfl, by rw [HD.out]; simpa using HX.out, HB.out, LC.out⟩
          case measure => decide
      · rw [show fv 1 = 2 from rfl]
        have HD := Lib.hid (show encTo a' m 2 = encTo a' m 1 ++ if (!(Go.bits .and .i64 a' 2 == 0)) = true then bInt m.seq else [] from rfl)
        have SH : Op.shift .shl .i64 2 .i64 1 = pure (Value.int .i64 4) := rfl
        cases hh : (Go.bits .and .i64 a' 2 == 0)
        · rw [hh] at HD
          go_wp2_with fail
          refine (putInt_c (HX.out.sl fun k hk => OK.out k hk) m.seq MO.out.seq.1 MO.out.seq.2 (by have := HM.out; omega)).mono ?_
          rintro e w' ⟨v', rfl, ho, hb⟩
          have HX' := Lib.hid (show Own kU8 5 ok w' w.heap.size v' (encTo a' m 2) by rw [HD.out]; exact ho.lower HB.out.size)
          have HB' := Lib.hid (below_self HB.out hb)
          have LC' := Lib.hid (LC.out.below hb)
          clear ho hb
          go_wp2_with fail
          go_roundw
          case rel => exact ⟨2, by decide, rfl, HX'.out, HB'.out, LC'.out⟩
          case measure => decide
        · rw [hh] at HD
          go_wp2_with fail
          go_roundw
          case rel => exact ⟨2, by decide, rfl, by rw [HD.out]; simpa using HX.out, HB.out, LC.out⟩
          case measure => decide
      · rw [show fv 2 = 4 from rfl]
        have HD := Lib.hid (show encTo a' m 3 = encTo a' m 2 ++ if (!(Go.bits .and .i64 a' 4 == 0)) = true then bInt m.client ++ bInt m.stamp else [] from rfl)
        have SH : Op.shift .shl .i64 4 .i64 1 = pure (Value.int .i64 8) := rfl
        cases hh : (Go.bits .and .i64 a' 4 == 0)
        · rw [hh] at HD
          have KK := Lib.hid (show ∀ W : World, Below wr.heap.size wr W → W.cell? ⟨w.heap.size, 3, none⟩ = some (.int .i64 m.client) ∧ W.cell? ⟨w.heap.size, 4, none⟩ = some (.int .i64 m.stamp) from
            fun W hW => ⟨cell_of (LC.out.below hW).1 3, cell_of (LC.out.below hW).1 4⟩)
          have P1 := Lib.hid (putInt_c (w := wr.drew) ((HX.out.sl fun k hk => OK.out k hk).below (Below.refl _ _).drew) m.client MO.out.client.1 MO.out.client.2 (by have := HM.out; omega))
          have P2 := Lib.hid (show ∀ (w1 : World) (A1 : Option Addr) (n1 d1 : Nat), n1 = (encTo a' m 2 ++ bInt m.client).length → Own kU8 5 ok w1 wr.heap.size (.slice A1 n1 d1) (encTo a' m 2 ++ bInt m.client) → Below wr.heap.size wr w1 → Calls Try.prog 20 #[.slice A1 n1 d1, .int .i64 m.stamp] w1 (RetOwn kU8 5 ok w1 (encTo a' m 2 ++ bInt m.client ++ bInt m.stamp)) from
            fun w1 A1 n1 d1 hn1 ho hb => putInt_c (ho.sl fun k hk => OK.out k (Nat.le_trans HB.out.size hk)) m.stamp MO.out.stamp.1 MO.out.stamp.2 (by rw [hn1, List.length_append, bInt_len]; have := HM.out; have := HN.out; omega))
          go_wp2_with fail
          go_region_held3 (fun W => W.cell? ⟨w.heap.size, 3, none⟩ = some (.int .i64 m.client) ∧ W.cell? ⟨w.heap.size, 4, none⟩ = some (.int .i64 m.stamp))
            (first | exact KK.out _ HB2.out | exact KK.out _ HB1.out | exact KK.out _ (Below.refl _ _).drew)
            (first
            | (go_at_call 20; refine P1.out.mono ?_; clear P1; rintro e1 w1 ⟨v1, rfl, ho, hb⟩; obtain ⟨B1, n1, d1, rfl, hn1⟩ := ho.form'; have HN1 := Lib.hid hn1; clear hn1; have HB1 := Lib.hid (show Below wr.heap.size wr w1 from (Below.refl _ _).drew.trans hb); have HO := Lib.hid (show Own kU8 5 ok w1 wr.heap.size (.slice B1 n1 d1) (encTo a' m 2 ++ bInt m.client) from ho); clear ho hb)
            | (go_at_call 20; refine (P2.out _ _ _ _ HN1.out HO.out HB1.out).mono ?_; rintro e1 w2' ⟨v2, rfl, ho2, hb⟩; have HB2 := Lib.hid (HB1.out.trans (hb.mono HB1.out.size)); have HO2 := Lib.hid (ho2.lower (Nat.le_trans HB.out.size HB1.out.size)); clear ho2 hb))
          have HX' := Lib.hid (show Own kU8 5 ok w2' w.heap.size v2 (encTo a' m 3) by rw [HD.out]; show Own _ _ _ _ _ _ (encTo a' m 2 ++ (bInt m.client ++ bInt m.stamp)); rw [← List.append_assoc]; exact HO2.out)
          have HB' := Lib.hid (below_self HB.out HB2.out)
          have LC' := Lib.hid (LC.out.below HB2.out)
          go_wp2_with fail
          go_roundw
          case rel => exact ⟨3, by decide, rfl, HX'.out, HB'.out, LC'.out⟩
          case measure => decide
        · rw [hh] at HD
          go_wp2_with fail
          go_roundw
          case rel => exact ⟨3, by decide, rfl, by rw [HD.out]; simpa using HX.out, HB.out, LC.out⟩
          case measure => decide
      · rw [show fv 3 = 8 from rfl]
        have HD := Lib.hid (show encTo a' m 4 = encTo a' m 3 ++ if (!(Go.bits .and .i64 a' 8 == 0)) = true then bBytes m.digest else [] from rfl)
        have SH : Op.shift .shl .i64 8 .i64 1 = pure (Value.int .i64 16) := rfl
        cases hh : (Go.bits .and .i64 a' 8 == 0)
        · rw [hh] at HD
          obtain ⟨A5, c5, w5, hcv, hs5, hb5⟩ := conv_sb (P := Try.prog) (ok := ok) wr 22 23 5 m.digest Try.underlying22 Try.underlying23 Try.underlying5 (fun k hk => OK.out k (Nat.le_trans HB.out.size hk)) (by have := MO.out.digest; omega)
          have H5 := Lib.hid hs5
          have HB5 := Lib.hid hb5
          clear hs5 hb5
          go_wp2_with fail
          refine (putBytes_c ((HX.out.below HB5.out).sl fun k hk => OK.out k hk) H5.out (by have := HM.out; omega) MO.out.digest).mono ?_
          rintro e w' ⟨v', rfl, ho, hb⟩
          have HX' := Lib.hid (show Own kU8 5 ok w' w.heap.size v' (encTo a' m 4) by rw [HD.out]; exact ho.lower (below_self HB.out HB5.out).size)
          have HB' := Lib.hid (below_self (below_self HB.out HB5.out) hb)
          have LC' := Lib.hid ((LC.out.below HB5.out).below hb)
          clear ho hb
          go_wp2_with fail
          go_roundw
          case rel => exact ⟨4, by decide, rfl, HX'.out, HB'.out, LC'.out⟩
          case measure => decide
        · rw [hh] at HD
          go_wp2_with fail
          go_roundw
          case rel => exact ⟨4, by decide, rfl, by rw [HD.out]; simpa using HX.out, HB.out, LC.out⟩
          case measure => decide
      · rw [show fv 4 = 16 from rfl]
        have HD := Lib.hid (show encTo a' m 5 = encTo a' m 4 ++ if (!(Go.bits .and .i64 a' 16 == 0)) = true then bBytes m.data else [] from rfl)
        have SH : Op.shift .shl .i64 16 .i64 1 = pure (Value.int .i64 32) := rfl
        cases hh : (Go.bits .and .i64 a' 16 == 0)
        · rw [hh] at HD
          go_wp2_with fail
          refine (putBytes_c (HX.out.sl fun k hk => OK.out k hk) (H1.out.below HB.out) (by have := HM.out; omega) MO.out.data).mono ?_
          rintro e w' ⟨v', rfl, ho, hb⟩
          have HX' := Lib.hid (show Own kU8 5 ok w' w.heap.size v' (encTo a' m 5) by rw [HD.out]; exact ho.lower HB.out.size)
          have HB' := Lib.hid (below_self HB.out hb)
          have LC' := Lib.hid (LC.out.below hb)
          clear ho hb
          go_wp2_with fail
          go_roundw
          case rel => exact ⟨5, by decide, rfl, HX'.out, HB'.out, LC'.out⟩
          case measure => decide
        · rw [hh] at HD
          go_wp2_with fail
          go_roundw
          case rel => exact ⟨5, by decide, rfl, by rw [HD.out]; simpa using HX.out, HB.out, LC.out⟩
          case measure => decide
      · rw [show fv 5 = 32 from rfl]
        have HD := Lib.hid (show encTo a' m 6 = encTo a' m 5 ++ if (!(Go.bits .and .i64 a' 32 == 0)) = true then bInt m.code ++ bInt m.stage else [] from rfl)
        have SH : Op.shift .shl .i64 32 .i64 1 = pure (Value.int .i64 64) := rfl
        cases hh : (Go.bits .and .i64 a' 32 == 0)
        · rw [hh] at HD
          have KK := Lib.hid (show ∀ W : World, Below wr.heap.size wr W → W.cell? ⟨w.heap.size, 7, none⟩ = some (.int .i64 m.code) ∧ W.cell? ⟨w.heap.size, 8, none⟩ = some (.int .i64 m.stage) from
            fun W hW => ⟨cell_of (LC.out.below hW).1 7, cell_of (LC.out.below hW).1 8⟩)
          have P1 := Lib.hid (putInt_c (w := wr.drew) ((HX.out.sl fun k hk => OK.out k hk).below (Below.refl _ _).drew) m.code MO.out.code.1 MO.out.code.2 (by have := HM.out; omega))
          have P2 := Lib.hid (show ∀ (w1 : World) (A1 : Option Addr) (n1 d1 : Nat), n1 = (encTo a' m 5 ++ bInt m.code).length → Own kU8 5 ok w1 wr.heap.size (.slice A1 n1 d1) (encTo a' m 5 ++ bInt m.code) → Below wr.heap.size wr w1 → Calls Try.prog 20 #[.slice A1 n1 d1, .int .i64 m.stage] w1 (RetOwn kU8 5 ok w1 (encTo a' m 5 ++ bInt m.code ++ bInt m.stage)) from
            fun w1 A1 n1 d1 hn1 ho hb => putInt_c (ho.sl fun k hk => OK.out k (Nat.le_trans HB.out.size hk)) m.stage MO.out.stage.1 MO.out.stage.2 (by rw [hn1, List.length_append, bInt_len]; have := HM.out; have := HN.out; omega))
          go_wp2_with fail
          go_region_held3 (fun W => W.cell? ⟨w.heap.size, 7, none⟩ = some (.int .i64 m.code) ∧ W.cell? ⟨w.heap.size, 8, none⟩ = some (.int .i64 m.stage))
            (first | exact KK.out _ HB2.out | exact KK.out _ HB1.out | exact KK.out _ (Below.refl _ _).drew)
            (first
            | (go_at_call 20; refine P1.out.mono ?_; clear P1; rintro e1 w1 ⟨v1, rfl, ho, hb⟩; obtain ⟨B1, n1, d1, rfl, hn1⟩ := ho.form'; have HN1 := Lib.hid hn1; clear hn1; have HB1 := Lib.hid (show Below wr.heap.size wr w1 from (Below.refl _ _).drew.trans hb); have HO := Lib.hid (show Own kU8 5 ok w1 wr.heap.size (.slice B1 n1 d1) (encTo a' m 5 ++ bInt m.code) from ho); clear ho hb)
            | (go_at_call 20; refine (P2.out _ _ _ _ HN1.out HO.out HB1.out).mono ?_; rintro e1 w2' ⟨v2, rfl, ho2, hb⟩; have HB2 := Lib.hid (HB1.out.trans (hb.mono HB1.out.size)); have HO2 := Lib.hid (ho2.lower (Nat.le_trans HB.out.size HB1.out.size)); clear ho2 hb))
          have HX' := Lib.hid (show Own kU8 5 ok w2' w.heap.size v2 (encTo a' m 6) by rw [HD.out]; show Own _ _ _ _ _ _ (encTo a' m 5 ++ (bInt m.code ++ bInt m.stage)); rw [← List.append_assoc]; exact HO2.out)
          have HB' := Lib.hid (below_self HB.out HB2.out)
          have LC' := Lib.hid (LC.out.below HB2.out)
          go_wp2_with fail
          go_roundw
          case rel => exact ⟨6, by decide, rfl, HX'.out, HB'.out, LC'.out⟩
          case measure => decide
        · rw [hh] at HD
          go_wp2_with fail
          go_roundw
          case rel => exact ⟨6, by decide, rfl, by rw [HD.out]; simpa using HX.out, HB.out, LC.out⟩
          case measure => decide
      · rw [show fv 6 = 64 from rfl]
        have HD := Lib.hid (show encTo a' m 7 = encTo a' m 6 ++ if (!(Go.bits .and .i64 a' 64 == 0)) = true then encL m.batch else [] from rfl)
        have SH : Op.shift .shl .i64 64 .i64 1 = pure (Value.int .i64 128) := rfl
        cases hh : (Go.bits .and .i64 a' 64 == 0)
        · rw [hh] at HD
          have hll : (encTo a' m 6).length + (encL m.batch).length ≤ (encTo a' m 9).length := by have := encTo_le a' m 7 9 (by decide); rw [HD.out] at this; rw [← List.length_append]; exact this
          go_wp2_with fail
          refine (putList_c (HX.out.sl fun k hk => OK.out k hk) (fun k hk => OK.out k (Nat.le_trans HB.out.size hk)) (H2.out.below HB.out) (by have := HM.out; have := HN.out; omega) MO.out.batch.2 MO.out.batch.1).mono ?_
          rintro e w' ⟨v', rfl, ho, hb⟩
          have HX' := Lib.hid (show Own kU8 5 ok w' w.heap.size v' (encTo a' m 7) by rw [HD.out]; exact ho.lower HB.out.size)
          have HB' := Lib.hid (below_self HB.out hb)
          have LC' := Lib.hid (LC.out.below hb)
          clear ho hb
          go_wp2_with fail
          go_roundw
          case rel => exact ⟨7, by decide, rfl, HX'.out, HB'.out, LC'.out⟩
          case measure => decide
        · rw [hh] at HD
          go_wp2_with fail
          go_roundw
          case rel => exact ⟨7, by decide, rfl, by rw [HD.out]; simpa using HX.out, HB.out, LC.out⟩
          case measure => decide
      · rw [show fv 7 = 128 from rfl]
        have HD := Lib.hid (show encTo a' m 8 = encTo a' m 7 ++ if (!(Go.bits .and .i64 a' 128 == 0)) = true then encL m.pres else [] from rfl)
        have SH : Op.shift .shl .i64 128 .i64 1 = pure (Value.int .i64 256) := rfl
        cases hh : (Go.bits .and .i64 a' 128 == 0)
        · rw [hh] at HD
          have hll : (encTo a' m 7).length + (encL m.pres).length ≤ (encTo a' m 9).length := by have := encTo_le a' m 8 9 (by decide); rw [HD.out] at this; rw [← List.length_append]; exact this
          go_wp2_with fail
          refine (putList_c (HX.out.sl fun k hk => OK.out k hk) (fun k hk => OK.out k (Nat.le_trans HB.out.size hk)) (H3.out.below HB.out) (by have := HM.out; have := HN.out; omega) MO.out.pres.2 MO.out.pres.1).mono ?_
          rintro e w' ⟨v', rfl, ho, hb⟩
          have HX' := Lib.hid (show Own kU8 5 ok w' w.heap.size v' (encTo a' m 8) by rw [HD.out]; exact ho.lower HB.out.size)
          have HB' := Lib.hid (below_self HB.out hb)
          have LC' := Lib.hid (LC.out.below hb)
          clear ho hb
          go_wp2_with fail
          go_roundw
          case rel => exact ⟨8, by decide, rfl, HX'.out, HB'.out, LC'.out⟩
          case measure => decide
        · rw [hh] at HD
          go_wp2_with fail
          go_roundw
          case rel => exact ⟨8, by decide, rfl, by rw [HD.out]; simpa using HX.out, HB.out, LC.out⟩
          case measure => decide
      · rw [show fv 8 = 256 from rfl]
        have HD := Lib.hid (show encTo a' m 9 = encTo a' m 8 ++ if (!(Go.bits .and .i64 a' 256 == 0)) = true then bCount m.certs.length ++ encCs m.certs else [] from rfl)
        have SH : Op.shift .shl .i64 256 .i64 1 = pure (Value.int .i64 512) := rfl
        cases hh : (Go.bits .and .i64 a' 256 == 0)
        · rw [hh] at HD
          have hcl : (encTo a' m 8).length + 4 + (encCs m.certs).length = (encTo a' m 9).length := by rw [HD.out]; show _ = (encTo a' m 8 ++ (bCount m.certs.length ++ encCs m.certs)).length; rw [List.length_append, List.length_append, bCount_len]; omega
          have HCL := Lib.hid hcl
          clear hcl
          go_wp2_with fail
          refine (putCount_c (HX.out.sl fun k hk => OK.out k hk) m.certs.length MO.out.certs.1 (by have := HM.out; omega)).mono ?_
          rintro e w' ⟨v', rfl, ho, hb⟩
          have HX' := Lib.hid (show Own kU8 5 ok w' w.heap.size v' (encTo a' m 8 ++ bCount m.certs.length) from ho.lower HB.out.size)
          have HB' := Lib.hid (below_self HB.out hb)
          have LC' := Lib.hid (LC.out.below hb)
          clear ho hb
          have m11 : w'.cell? ⟨w.heap.size, 11, none⟩ = some (.slice A4 m.certs.length c4) := cell_of LC'.out.1 11
          go_wp2_with fail
          clear m0 m1 m2 m3 m4 m5 m6 m7 m8 m9 m10 m11 s0 LC
          obtain ⟨wo, rfl⟩ : ∃ wo, wo = wr := ⟨_, rfl⟩
          go_loopw [5, 98] (fun v5 v98 wr => ∃ k : Nat, k ≤ m.certs.length ∧ v98 = .int .i64 k ∧ Own kU8 5 ok wr w.heap.size v5 (encTo a' m 8 ++ bCount m.certs.length ++ encCs (m.certs.take k)) ∧ Below w.heap.size w wr ∧ Loc2 w.heap.size w2.heap.size 30 49 #[.int .i64 m.kind, .int .i64 m.view, .int .i64 m.seq, .int .i64 m.client, .int .i64 m.stamp, .string ⟨m.digest.toArray⟩, .slice A1 m.data.length c1, .int .i64 m.code, .int .i64 m.stage, .slice A2 m.batch.length c2, .slice A3 m.pres.length c3, .slice A4 m.certs.length c4] #[.int .i64 a', .int .i64 b', .int .i64 c', .int .i64 d'] wr) (fun _ v98 _ => m.certs.length - (intOf v98).toNat)
          case atStart => exact ⟨0, Nat.zero_le _, rfl, by simpa [encCs] using HX'.out, HB'.out, LC'.out⟩
          case round =>
            obtain ⟨k, hk, rfl, ho, hb, hl⟩ := hrel
            clear HX' HB' LC'
            have HX' := Lib.hid ho
            have HB' := Lib.hid hb
            have LC' := Lib.hid hl
            by_cases hlt : k < m.certs.length
            · obtain ⟨ad, e, B, d, B', d2, rfl, he, k0, k1, k2, hB, hB'⟩ := crt_at (H4.out.below hb) hlt
              have HE := Lib.hid he
              have HBB := Lib.hid hB
              have HBB' := Lib.hid hB'
              have HEM := Lib.hid (List.mem_of_getElem? he)
              obtain ⟨A1', n1', d1', rfl, hn1⟩ := ho.form'
              have HN1 := Lib.hid hn1
              clear ho hb hl he hB hB' hn1
              have hca : (encTo a' m 8 ++ bCount m.certs.length ++ encCs (m.certs.take k)).length + (encE e.pre).length + (encL e.votes).length ≤ (encTo a' m 9).length := by
                have h1 := encCs_take_le m.certs (k + 1)
                rw [encCs_take m.certs k e HE.out, encC, List.length_append, List.length_append] at h1
                rw [List.length_append, List.length_append, bCount_len]
                have := HCL.out
                omega
              have HCA := Lib.hid hca
              have W0 := Lib.hid (show Below wr.heap.size wr (wr.alloc (.cells #[.int .i64 e.pre.signer, .slice B e.pre.body.length d, .slice B' e.votes.length d2] 47)) from (Below.refl _ _).alloc (Nat.le_refl _) _)
              have hz : wr.heap.size ≤ (wr.alloc (.cells #[.int .i64 e.pre.signer, .slice B e.pre.body.length d, .slice B' e.votes.length d2] 47)).heap.size := by simp
              have KK := Lib.hid (show ∀ W : World, Below (wr.alloc (.cells #[.int .i64 e.pre.signer, .slice B e.pre.body.length d, .slice B' e.votes.length d2] 47)).heap.size (wr.alloc (.cells #[.int .i64 e.pre.signer, .slice B e.pre.body.length d, .slice B' e.votes.length d2] 47)) W → W.cell? ⟨wr.heap.size, 0, none⟩ = some (.int .i64 e.pre.signer) ∧ W.cell? ⟨wr.heap.size, 1, none⟩ = some (.slice B e.pre.body.length d) ∧ W.cell? ⟨wr.heap.size, 2, none⟩ = some (.slice B' e.votes.length d2) from
                fun W hW => ⟨(hW.cell (p := ⟨wr.heap.size, 0, none⟩) (by simp)).trans (cell_of (heap_new _ _) 0), (hW.cell (p := ⟨wr.heap.size, 1, none⟩) (by simp)).trans (cell_of (heap_new _ _) 1), (hW.cell (p := ⟨wr.heap.size, 2, none⟩) (by simp)).trans (cell_of (heap_new _ _) 2)⟩)
              have hokr : ∀ q, wr.heap.size ≤ q → ok q := fun q hq => OK.out q (Nat.le_trans HB'.out.size hq)
              have P1 := Lib.hid (putEnvelope_c (ok := ok) (w := (wr.alloc (.cells #[.int .i64 e.pre.signer, .slice B e.pre.body.length d, .slice B' e.votes.length d2] 47)).drew) ((HX'.out.below W0.out.drew).sl fun q hq => OK.out q hq) (fun q hq => hokr q (Nat.le_trans hz hq)) (env_mk (HBB.out.below W0.out.drew)) (by have := HCA.out; have := HN1.out; have := HL.out a'; omega) (MO.out.certs.2 e HEM.out).1)
              have P2 := Lib.hid (show ∀ (w1 : World) (A1 : Option Addr) (n1 d1 : Nat), n1 = (encTo a' m 8 ++ bCount m.certs.length ++ encCs (m.certs.take k) ++ encE e.pre).length → Own kU8 5 ok w1 (wr.alloc (.cells #[.int .i64 e.pre.signer, .slice B e.pre.body.length d, .slice B' e.votes.length d2] 47)).heap.size (.slice A1 n1 d1) (encTo a' m 8 ++ bCount m.certs.length ++ encCs (m.certs.take k) ++ encE e.pre) → Below (wr.alloc (.cells #[.int .i64 e.pre.signer, .slice B e.pre.body.length d, .slice B' e.votes.length d2] 47)).heap.size (wr.alloc (.cells #[.int .i64 e.pre.signer, .slice B e.pre.body.length d, .slice B' e.votes.length d2] 47)) w1 → Calls Try.prog 22 #[.slice A1 n1 d1, .slice B' e.votes.length d2] w1 (RetOwn kU8 5 ok w1 (encTo a' m 8 ++ bCount m.certs.length ++ encCs (m.certs.take k) ++ encE e.pre ++ encL e.votes)) from
                fun w1 A1 n1 d1 hn1 ho hb => putList_c (ho.sl fun q hq => hokr q (Nat.le_trans hz hq)) (fun q hq => hokr q (Nat.le_trans hz (Nat.le_trans hb.size hq))) (HBB'.out.below (W0.out.trans (hb.mono hz))) (by rw [hn1, List.length_append]; have := HCA.out; have := HL.out a'; omega) (MO.out.certs.2 e HEM.out).2.2 (MO.out.certs.2 e HEM.out).2.1)
              clear hokr hca
              have hmm : m.certs.length ≤ 4294967295 := MO.out.certs.1
              go_wp2_with fail
              go_region_held3 (fun W => W.cell? ⟨wr.heap.size, 0, none⟩ = some (.int .i64 e.pre.signer) ∧ W.cell? ⟨wr.heap.size, 1, none⟩ = some (.slice B e.pre.body.length d) ∧ W.cell? ⟨wr.heap.size, 2, none⟩ = some (.slice B' e.votes.length d2))
                (first | exact KK.out _ HB2.out | exact KK.out _ HB1.out | exact KK.out _ (Below.refl _ _).drew)
                (first
                | (go_at_call 24; refine P1.out.mono ?_; clear P1; rintro e1 w1 ⟨v1, rfl, ho, hb⟩; obtain ⟨C1, n1, d1, rfl, hn1⟩ := ho.form'; have HN2 := Lib.hid hn1; clear hn1; have HB1 := Lib.hid (show Below (wr.alloc (.cells #[.int .i64 e.pre.signer, .slice B e.pre.body.length d, .slice B' e.votes.length d2] 47)).heap.size (wr.alloc (.cells #[.int .i64 e.pre.signer, .slice B e.pre.body.length d, .slice B' e.votes.length d2] 47)) w1 from (Below.refl _ _).drew.trans hb); have HO := Lib.hid (show Own kU8 5 ok w1 (wr.alloc (.cells #[.int .i64 e.pre.signer, .slice B e.pre.body.length d, .slice B' e.votes.length d2] 47)).heap.size (.slice C1 n1 d1) (encTo a' m 8 ++ bCount m.certs.length ++ encCs (m.certs.take k) ++ encE e.pre) from ho); clear ho hb)
                | (go_at_call 22; refine (P2.out _ _ _ _ HN2.out HO.out HB1.out).mono ?_; rintro e1 w2' ⟨v2, rfl, ho2, hb⟩; have HB2 := Lib.hid (HB1.out.trans (hb.mono HB1.out.size)); have HO2 := Lib.hid (ho2.lower (Nat.le_trans HB'.out.size (Nat.le_trans hz HB1.out.size))); clear ho2 hb))
              have HBZ := Lib.hid (W0.out.trans (HB2.out.mono hz))
              have HX2 := Lib.hid (show Own kU8 5 ok w2' w.heap.size v2 (encTo a' m 8 ++ bCount m.certs.length ++ encCs (m.certs.take (k + 1))) by rw [encCs_take m.certs k e HE.out, encC, ← List.append_assoc, ← List.append_assoc]; exact HO2.out)
              go_wp2_with fail
              go_roundw
              case rel => exact ⟨k + 1, by omega, by go_num, HX2.out, below_self HB'.out HBZ.out, LC'.out.below HBZ.out⟩
              case measure => simp [intOf]; omega
            · have hkn : k = m.certs.length := by omega
              have HE := Lib.hid (show encTo a' m 9 = encTo a' m 8 ++ bCount m.certs.length ++ encCs (m.certs.take k) by rw [hkn, List.take_of_length_le (Nat.le_refl _), HD.out, List.append_assoc]; rfl)
              clear hkn ho hb hl
              go_wp2_with fail
              go_roundw
              case rel => exact ⟨9, by decide, rfl, by rw [HE.out]; exact HX'.out, HB'.out, LC'.out⟩
              case measure => decide
        · rw [hh] at HD
          go_wp2_with fail
          go_roundw
          case rel => exact ⟨9, by decide, rfl, by rw [HD.out]; simpa using HX.out, HB.out, LC.out⟩
          case measure => decide
end
end Go.Proofs.Ytplpmhlakiikgaa
