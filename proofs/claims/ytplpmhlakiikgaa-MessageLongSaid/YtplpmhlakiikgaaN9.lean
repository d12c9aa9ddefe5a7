/- MessageLong, walked. -/
import Derived.Test.YtplpmhlakiikgaaN6
import Derived.Deep.OwnRows
namespace Go.Proofs.Ytplpmhlakiikgaa
open Go.RowKit
set_option linter.unusedVariables false
section
variable {P : Program} {ok : Nat → Prop} {w : World}
/-- 'make([]byte, n)' -/
theorem made_u8 {t e : TypeId} (ht : P.underlying t = some (.slice e)) (hi : (P.info? e).map (fun i => (i.zero, i.size, i.bytes)) = some (some (.int .u8 0), 1, 1)) (n : Nat) (hn : n ≤ 1099511627776) :
    ∃ v w', (Instr.makeSlice t (.int .i64 (n : Int)) (.int .i64 (n : Int))).run P w = .ok v w' ∧ Own kU8 e ok w' w.heap.size v (List.replicate n 0) ∧ Below w.heap.size w w' := by
  have hlr : (List.replicate n (0 : UInt8)).length = n := List.length_replicate
  refine ⟨.slice (some ⟨w.heap.size, 0, none⟩) n n, _, run_make_row' t e _ 1 ht hi rfl .i64 .i64 n (by omega) (by omega) w, ⟨List.replicate n (.int .u8 0), ?_, ?_⟩, (Below.refl _ _).alloc (Nat.le_refl _) _⟩
  · rw [hlr]
    refine ⟨by rw [List.length_replicate]; show n = n * 1; omega, .inr ⟨w.heap.size, n, _, rfl, Nat.le_refl _, heap_new _ _, Nat.le_refl _, by unfold maxLen; omega, by rw [size_madeCells]; show n = n * 1; omega, ?_⟩⟩
    apply List.ext_getElem?
    intro i
    show ((madeCells #[Value.int .u8 0] n).toList.take (n * 1))[i]? = _
    rw [Nat.mul_one, List.take_of_length_le (by rw [Array.length_toList, size_madeCells]; exact Nat.le_refl _)]
    unfold madeCells
    simp [Nat.mod_one, List.getElem?_replicate]
    by_cases hi : i < n <;> simp [hi]
  · have := Rps.scalar (f := fun x : UInt8 => Value.int .u8 (x.toNat : Int)) (h1 := fun _ => rfl) (ok := fun b => ok b ∧ some b ≠ (Value.slice (some ⟨w.heap.size, 0, none⟩) n n).ownBlock) (w := w.alloc (.cells (madeCells #[Value.int .u8 0] n) e)) (List.replicate n 0)
    rw [List.map_replicate] at this
    exact this
theorem made_u8' {t e : TypeId} (ht : P.underlying t = some (.slice e)) (hi : (P.info? e).map (fun i => (i.zero, i.size, i.bytes)) = some (some (.int .u8 0), 1, 1)) (n : Nat) (hn : n ≤ 1099511627776) (z : Int) (hz : (n : Int) = z) :
    ∃ v w', (Instr.makeSlice t (.int .i64 z) (.int .i64 z)).run P w = .ok v w' ∧ Own kU8 e ok w' w.heap.size v (List.replicate n 0) ∧ Below w.heap.size w w' := by
  subst hz
  exact made_u8 ht hi n hn
theorem at_makeS {C : Value → World → Prop} {ops : Array Oper} {rest : List Oper} {o : Oper} {a : Act} {Q : Exit → Act → World → Prop} (hgd : o.guard = none) (l c : Operand) (t : TypeId)
    (hop : o.op = .makeSlice t l c) {vl vc : Value} (hl : a.eval l = vl) (hc : a.eval c = vc) (hrun : ∃ v' w', (Instr.makeSlice t vl vc).run P w = .ok v' w' ∧ C v' w') (h : ∀ v' w', C v' w' → wpList P ops Q rest (a.put o.dst v') w') : wpList P ops Q (o :: rest) a w := by
  obtain ⟨v', w', hr, hC⟩ := hrun
  refine wpList_plain hgd fun K hK => ?_
  unfold Oper.wp
  simp [execOp, hop, hl, hc, hr, Result.andThen]
  exact hK _ _ (h v' w' hC)
end
theorem app_len {D : List UInt8} {n : Nat} (h : D.length = n) : (D ++ [0]).length = n + 1 := by
  rw [List.length_append, h]
  rfl
def mLong (l : List UInt8) : Msg := ⟨11, 0, 1, 0, 0, [], l, 0, 0, [], [], []⟩
def mReq (l : List UInt8) : Msg := ⟨1, 0, 0, 0, 1, [], l, 0, 0, [], [], []⟩
theorem chk_long (l : List UInt8) : chk (mLong l) = true := by
  have e : shp 11 = some (82, 0, 1, 7) := rfl
  have b1 : Go.bits .and .i64 82 1 = 0 := by decide
  have b2 : Go.bits .and .i64 82 2 = 2 := by decide
  have b3 : Go.bits .and .i64 82 4 = 0 := by decide
  have b4 : Go.bits .and .i64 82 8 = 0 := by decide
  have b5 : Go.bits .and .i64 82 16 = 16 := by decide
  have b6 : Go.bits .and .i64 82 32 = 0 := by decide
  have b7 : Go.bits .and .i64 82 64 = 64 := by decide
  have b8 : Go.bits .and .i64 82 128 = 0 := by decide
  have b9 : Go.bits .and .i64 82 256 = 0 := by decide
  unfold chk mLong
  simp only [e]
  simp [chkB, inB, ored, noRes, b1, b2, b3, b4, b5, b6, b7, b8, b9]
theorem len_long (l : List UInt8) : (enc (mLong l)).length = l.length + 24 := by
  have b1 : Go.bits .and .i64 82 1 = 0 := by decide
  have b2 : Go.bits .and .i64 82 2 = 2 := by decide
  have b3 : Go.bits .and .i64 82 4 = 0 := by decide
  have b4 : Go.bits .and .i64 82 8 = 0 := by decide
  have b5 : Go.bits .and .i64 82 16 = 16 := by decide
  have b6 : Go.bits .and .i64 82 32 = 0 := by decide
  have b7 : Go.bits .and .i64 82 64 = 64 := by decide
  have b8 : Go.bits .and .i64 82 128 = 0 := by decide
  have b9 : Go.bits .and .i64 82 256 = 0 := by decide
  rw [enc_eq (show shp (mLong l).kind = some (82, 0, 1, 7) from rfl) (chk_long l)]
  simp [flTo, had, fv, b1, b2, b3, b4, b5, b6, b7, b8, b9, fld, bInt_len, bBytes_len, bCount_len, encL, encEs, mLong]
  omega
theorem chk_req (l : List UInt8) : chk (mReq l) = decide ((l.length : Int) ≤ 4096) := by
  have e : shp 1 = some (20, 0, 1, 7) := rfl
  have b1 : Go.bits .and .i64 20 1 = 0 := by decide
  have b2 : Go.bits .and .i64 20 2 = 0 := by decide
  have b3 : Go.bits .and .i64 20 4 = 4 := by decide
  have b4 : Go.bits .and .i64 20 8 = 0 := by decide
  have b5 : Go.bits .and .i64 20 16 = 16 := by decide
  have b6 : Go.bits .and .i64 20 32 = 0 := by decide
  have b7 : Go.bits .and .i64 20 64 = 0 := by decide
  have b8 : Go.bits .and .i64 20 128 = 0 := by decide
  have b9 : Go.bits .and .i64 20 256 = 0 := by decide
  unfold chk mReq
  simp only [e]
  simp [chkB, inB, ored, noRes, b1, b2, b3, b4, b5, b6, b7, b8, b9]
theorem mLong_i (l : List UInt8) : MsgI (mLong l) := by
  have z : i64 0 := by unfold i64; omega
  exact ⟨by show i64 11; unfold i64; omega, z, by show i64 1; unfold i64; omega, z, z, z, z, by simp [mLong], by simp [mLong], by simp [mLong]⟩
theorem mLong_sm (l : List UInt8) (hl : l.length ≤ 100000000) : MsgSm (enc (mLong l)).length (mLong l) :=
  sm_of (chk_long l) (mLong_i l) ⟨by simp [mLong], by simp [mLong], by simp [mLong]⟩ (by rw [len_long]; omega)
theorem dec_long (l : List UInt8) (hl : l.length = 16777192) : dec (enc (mLong l)) = (mLong l, 0) :=
  dec_put' (chk_long l) (mLong_sm l (by omega)) (by rw [len_long]; omega)
theorem dec_long2 (l : List UInt8) (hl : l.length = 16777193) : dec (enc (mLong l)) = (msg0 0, 11) := by
  unfold dec
  rw [if_pos (by rw [len_long]; omega)]
section
variable {w : World}
theorem mLong_mk {ok : Nat → Prop} {v : Value} {l : List UInt8} (h : Sl kU8 ok w v l) : kMsg.R ok w [.int .i64 11, .int .i64 0, .int .i64 1, .int .i64 0, .int .i64 0, .string ⟨#[]⟩, v, .int .i64 0, .int .i64 0, .slice none 0 0, .slice none 0 0, .slice none 0 0] (mLong l) :=
  msg_mk (m := mLong l) h (Sl.nil _ _ _) (Sl.nil _ _ _) (Sl.nil _ _ _)
theorem mReq_mk {ok : Nat → Prop} {v : Value} {l : List UInt8} (h : Sl kU8 ok w v l) : kMsg.R ok w [.int .i64 1, .int .i64 0, .int .i64 0, .int .i64 0, .int .i64 1, .string ⟨#[]⟩, v, .int .i64 0, .int .i64 0, .slice none 0 0, .slice none 0 0, .slice none 0 0] (mReq l) :=
  msg_mk (m := mReq l) h (Sl.nil _ _ _) (Sl.nil _ _ _) (Sl.nil _ _ _)
/-- the same, with where the row is -/
theorem append_fresh_hat {P : Program} {α : Type} {d : Kd α} {e t tx ty : TypeId} {w : World} {base b0 : Nat} {v : Value} {xs : List α} {z : Value} {bytes : Nat} {p : Nat} (hp : w.heap.size = p) (ht : P.underlying t = some (.slice e)) (htx : P.underlying tx = some (.slice e)) (hi : (P.info? e).map (fun i => (i.zero, i.size, i.bytes)) = some (some z, d.sz, bytes)) (hzs : z.cells.size = d.sz)
    (h : Own d e (fun k => base ≤ k) w base v xs) (hbase : base ≤ w.heap.size) {c : List Value} {x : α} (hr : d.R (fun k => b0 ≤ k) w c x) (hb0 : base ≤ b0) (hv : ∀ k, v.ownBlock = some k → k < b0) (hb : (xs.length + 1) * bytes ≤ 140737488355328) (hm : xs.length + 1 ≤ 140737488355328) :
    ∃ v' w', (Builtin.append_ #[t, tx] ty #[v, .slice (some ⟨p, 0, none⟩) 1 1]).run P (w.alloc (.cells c.toArray e)) = .ok v' w' ∧ (Own d e (fun k => base ≤ k) w' base v' (xs ++ [x]) ∧ w.grownBy w' v.ownBlock ∧ (v'.ownBlock = v.ownBlock ∨ ∃ b, v'.ownBlock = some b ∧ w.heap.size ≤ b)) := by
  subst hp
  obtain ⟨i0, hi0, hz0, hz1, hz2⟩ := info_parts hi
  obtain ⟨v', w', a, b, c, hat⟩ := run_append_own1 (ty := ty) (P := P) ht htx hi0 hz0 hz1 hz2 hzs h hbase (d.weak hr fun k hk => ⟨Nat.le_trans hb0 hk, fun e => by have := hv k e.symm; omega⟩) hb hm
  exact ⟨v', w', a, b, c, hat⟩
set_option maxHeartbeats 4000000 in
theorem long_c : Calls Try.prog 6 #[] w (Ret w (.bool true)) := by
  have HAW := Lib.hid (fun W : World => awake_c (w := W))
  have MK1 := Lib.hid (made_u8' (P := Try.prog) (ok := fun k => w.heap.size ≤ k) (w := w) Try.underlying23 infoU8 16777192 (by omega) 16777192 rfl)
  have hD0 := List.length_replicate (n := 16777192) (a := (0 : UInt8))
  generalize List.replicate 16777192 (0 : UInt8) = D at *
  have HDL := Lib.hid hD0
  clear hD0
  go_enter Try.func6, Try.ntmps6
  go_wp2_with (first | (at_make; refine at_makeS rfl _ _ 23 rfl rfl rfl MK1.out ?_; rintro v1 w1 ⟨ho, hb⟩; obtain ⟨A1, n1, c1, rfl, hn1⟩ := ho.form'; have HO1 := Lib.hid ho; have B1 := Lib.hid hb; clear ho hb hn1))
  have BM := Lib.hid (show Below w1.heap.size w1 (w1.alloc (.cells #[.int .i64 11, .int .i64 0, .int .i64 1, .int .i64 0, .int .i64 0, .string ⟨#[]⟩, .slice A1 n1 c1, .int .i64 0, .int .i64 0, .slice none 0 0, .slice none 0 0, .slice none 0 0] 30)) from (Below.refl _ _).alloc (Nat.le_refl _) _)
  have L1 := Lib.hid (show Loc1 w1.heap.size 30 #[.int .i64 11, .int .i64 0, .int .i64 1, .int .i64 0, .int .i64 0, .string ⟨#[]⟩, .slice A1 n1 c1, .int .i64 0, .int .i64 0, .slice none 0 0, .slice none 0 0, .slice none 0 0] (w1.alloc (.cells #[.int .i64 11, .int .i64 0, .int .i64 1, .int .i64 0, .int .i64 0, .string ⟨#[]⟩, .slice A1 n1 c1, .int .i64 0, .int .i64 0, .slice none 0 0, .slice none 0 0, .slice none 0 0] 30)) from heap_new _ _)
  have hz1 := B1.out.size
  have SM := Lib.hid (mLong_sm D (by rw [HDL.out]; omega))
  have HE := Lib.hid (encode_c (ok := fun _ => True) (mLong_mk (((HO1.out.below BM.out).weak (ok' := fun _ => True) fun _ _ => trivial).sl (fun _ _ => trivial))) (fun _ _ => trivial) SM.out.ok SM.out.len)
  clear MK1
  go_wp2_with fail
  refine HE.out.mono ?_
  rintro e w2 ⟨v, rfl, ho, hb⟩
  obtain ⟨Ax, nx, cx, rfl, hnx⟩ := ho.form'
  rw [len_long, HDL.out] at hnx
  have HNX := Lib.hid (show (nx : Int) = 16777216 by omega)
  have HNX2 := Lib.hid (show nx ≤ 1099511627776 by omega)
  clear hnx
  have HX := Lib.hid (ho.sl (ok := fun _ => True) (fun _ _ => trivial))
  have L2 := Lib.hid (L1.out.below hb)
  have B2 := Lib.hid (below_self BM.out hb)
  have HD := Lib.hid (decode_c HX.out HNX2.out)
  rw [dec_long D HDL.out] at HD
  clear HE ho hb L1 BM
  go_wp2_with fail
  refine HD.out.mono ?_
  rintro e w3 ⟨ds, rfl, hd, hb⟩
  have L3 := Lib.hid (L2.out.below hb)
  have B3 := Lib.hid (below_self B2.out hb)
  generalize mLong D = dm at hd
  obtain ⟨D1, d1, D2, d2, D3, d3, D4, d4, rfl, -⟩ := msg_open hd
  have BN := Lib.hid (show Below w3.heap.size w3 (w3.alloc (.cells #[.int .i64 dm.kind, .int .i64 dm.view, .int .i64 dm.seq, .int .i64 dm.client, .int .i64 dm.stamp, .string ⟨dm.digest.toArray⟩, .slice D1 dm.data.length d1, .int .i64 dm.code, .int .i64 dm.stage, .slice D2 dm.batch.length d2, .slice D3 dm.pres.length d3, .slice D4 dm.certs.length d4] 30)) from (Below.refl _ _).alloc (Nat.le_refl _) _)
  have L4 := Lib.hid (L3.out.below BN.out)
  have B4 := Lib.hid (below_self B3.out BN.out)
  have HO4 := Lib.hid (HO1.out.below B4.out)
  have HV4 := Lib.hid HO1.out.lt
  have hz3 := lt_of_heap L3.out
  have q6 : w3.cell? ⟨w1.heap.size, 6, none⟩ = some (.slice A1 n1 c1) := cell_of L3.out 6
  have AP := Lib.hid (append_fresh_hat (P := Try.prog) (ty := 23) (d := kU8) (p := w3.heap.size + 1) (w := (w3.alloc (.cells #[.int .i64 dm.kind, .int .i64 dm.view, .int .i64 dm.seq, .int .i64 dm.client, .int .i64 dm.stamp, .string ⟨dm.digest.toArray⟩, .slice D1 dm.data.length d1, .int .i64 dm.code, .int .i64 dm.stage, .slice D2 dm.batch.length d2, .slice D3 dm.pres.length d3, .slice D4 dm.certs.length d4] 30))) (b0 := w3.heap.size) (c := [.int .u8 0]) (x := 0) (by simp) Try.underlying23 Try.underlying23 infoU8 rfl HO4.out (Nat.le_trans hz1 B4.out.size) rfl (by omega) (fun k hk => by have := HV4.out k hk; omega) (by rw [HDL.out]; omega) (by rw [HDL.out]; omega))
  clear HD hb hd L2 B2
  go_wp2_with (first | (at_builtin; refine at_append rfl (.tmp 19) (.tmp 20) 23 23 rfl rfl rfl AP.out ?_; rintro v5 w5 ⟨ho, hgr, hat⟩; obtain ⟨A5, n5, c5, rfl, -⟩ := ho.form'; have M5 := Lib.hid ((hgr.block w1.heap.size (by simp; omega) (fun e => by have := HV4.out _ e.symm; omega)).trans L4.out); have HO5 := Lib.hid ho; have B5 := Lib.hid (show Below w.heap.size w w5 from (B1.out.trans (B4.out.mono hz1)).trans ⟨hgr.os, hgr.tape, hgr.output, hgr.size, fun k hk => hgr.block k (by have := B4.out.size; omega) (fun e => by have := HV4.out _ e.symm; omega)⟩); have HAT := Lib.hid (show A5.isSome = true → ∀ k, (Value.slice A5 n5 c5).ownBlock = some k → k ≠ w1.heap.size from fun _ k hk e => by
    subst e
    rcases hat with hat | ⟨q, hq, hq2⟩
    · rw [hk] at hat; have := HV4.out _ hat.symm; omega
    · rw [hk] at hq; injection hq with hq; subst hq; simp at hq2; omega); obtain ⟨k0, k1, k2, k3, k4, k5, k6, k7, k8, k9, k10, k11⟩ := cells12 M5.out; have f6 := free_of M5.out 6; have hz5 := lt_of_heap M5.out; clear ho hgr hat q6))
  have X6 : Ext (fun k => k ≠ w1.heap.size) w5 (w5.setCell ⟨w1.heap.size, 6, none⟩ (.slice A5 n5 c5)) := ext_set_ne (Ext.refl _ _) 6 _
  have HS5 := Lib.hid (((own_any HO5.out : Own kU8 5 (fun _ => False) w5 w.heap.size (.slice A5 n5 c5) (D ++ [0])).ext (X6.weak fun k _ hk => by
    rcases hk with hk | hk
    · cases hk
    · exact HAT.out (by cases A5 with | none => cases hk | some a => rfl) k hk.symm)))
  have HS6 := Lib.hid ((own_any HS5.out : Own kU8 5 (fun _ => True) _ w.heap.size (.slice A5 n5 c5) (D ++ [0])).sl (fun _ _ => trivial))
  have B6 := Lib.hid (below_ext_ne B5.out X6 hz1 (Nat.le_refl _))
  have hl2 : (D ++ [0]).length = 16777193 := app_len HDL.out
  have HL2 := Lib.hid hl2
  have SM2 := Lib.hid (mLong_sm (D ++ [0]) (by rw [HL2.out]; omega))
  have HE := Lib.hid (encode_c (ok := fun _ => True) (mLong_mk HS6.out) (fun _ _ => trivial) SM2.out.ok SM2.out.len)
  clear X6 hl2
  go_wp2_with fail
  refine HE.out.mono ?_
  rintro e w7 ⟨v, rfl, ho, hb⟩
  have B7 := Lib.hid (below_self B6.out hb)
  obtain ⟨Ay, ny, cy, rfl, hny⟩ := ho.form'
  rw [len_long, HL2.out] at hny
  have HD := Lib.hid (decode_c (ho.sl (ok := fun _ => True) (fun _ _ => trivial)) (by omega))
  rw [dec_long2 _ HL2.out] at HD
  clear HE ho hb hny k0 k1 k2 k3 k4 k5 k6 k7 k8 k9 k10 k11 f6
  go_wp2_with fail
  refine HD.out.mono ?_
  rintro e w8 ⟨ds, rfl, hd, hb⟩
  have B8 := Lib.hid (below_self B7.out hb)
  generalize msg0 0 = dm2 at hd
  obtain ⟨E1, e1, E2, e2, E3, e3, E4, e4, rfl, -⟩ := msg_open hd
  have B9 := Lib.hid (show Below w.heap.size w (w8.alloc (.cells #[.int .i64 dm2.kind, .int .i64 dm2.view, .int .i64 dm2.seq, .int .i64 dm2.client, .int .i64 dm2.stamp, .string ⟨dm2.digest.toArray⟩, .slice E1 dm2.data.length e1, .int .i64 dm2.code, .int .i64 dm2.stage, .slice E2 dm2.batch.length e2, .slice E3 dm2.pres.length e3, .slice E4 dm2.certs.length e4] 30)) from below_self B8.out ((Below.refl _ _).alloc (Nat.le_refl _) _))
  have MK2 := Lib.hid (made_u8' (P := Try.prog) (ok := fun _ => True) (w := w8.alloc (.cells #[.int .i64 dm2.kind, .int .i64 dm2.view, .int .i64 dm2.seq, .int .i64 dm2.client, .int .i64 dm2.stamp, .string ⟨dm2.digest.toArray⟩, .slice E1 dm2.data.length e1, .int .i64 dm2.code, .int .i64 dm2.stage, .slice E2 dm2.batch.length e2, .slice E3 dm2.pres.length e3, .slice E4 dm2.certs.length e4] 30)) Try.underlying23 infoU8 4096 (by omega) 4096 rfl)
  have hR := List.length_replicate (n := 4096) (a := (0 : UInt8))
  generalize List.replicate 4096 (0 : UInt8) = R at *
  have HRL := Lib.hid hR
  clear HD hb hd hR
  have MK3 := Lib.hid (fun W : World => made_u8' (P := Try.prog) (ok := fun _ => True) (w := W) Try.underlying23 infoU8 4097 (by omega) 4097 rfl)
  have hR3 := List.length_replicate (n := 4097) (a := (0 : UInt8))
  generalize List.replicate 4097 (0 : UInt8) = R3 at *
  have HRL3 := Lib.hid hR3
  clear hR3
  go_wp2_with (first
    | (at_make; have hz9 := HO9.out; clear hz9; refine at_makeS rfl _ _ 23 rfl rfl rfl (MK3.out _) ?_; rintro v1 w10 ⟨ho, hb⟩; obtain ⟨A10, n10, c10, rfl, -⟩ := ho.form'; have HO10 := Lib.hid ((own_any ho : Own kU8 5 (fun k => w9.heap.size + 2 ≤ k) _ _ _ R3).sl (fun k hk => by simpa using hk)); have L10 := Lib.hid (L9.out.below hb); have B11 := Lib.hid (below_self B10.out (below_self BX9.out hb)); have HR10 := Lib.hid (HO9.out.bound.below (below_self BX9.out hb)); obtain ⟨k0, k1, k2, k3, k4, k5, k6, k7, k8, k9, k10, k11⟩ := cells12 L10.out.1; obtain ⟨j0, j1, j2, j3, j4, j5, j6, j7, j8, j9, j10, j11⟩ := cells12 L10.out.2; have g6 := free_of L10.out.2 6; have hz10 := lt_of_heap L10.out.2; have hnq : (nx : Int) = 16777216 := HNX.out; have hnr : nx = 16777216 := (by have := HNX.out; omega); clear ho hb)
    | (at_make; refine at_makeS rfl _ _ 23 rfl rfl rfl MK2.out ?_; rintro v1 w9 ⟨ho, hb⟩; obtain ⟨A9, n9, c9, rfl, -⟩ := ho.form'; have HO9 := Lib.hid (ho.sl (fun _ _ => trivial)); have B10 := Lib.hid (below_self B9.out hb); have BX9 := Lib.hid (show Below w9.heap.size w9 ((w9.alloc (.cells #[.int .i64 1, .int .i64 0, .int .i64 0, .int .i64 0, .int .i64 1, .string ⟨#[]⟩, .slice A9 n9 c9, .int .i64 0, .int .i64 0, .slice none 0 0, .slice none 0 0, .slice none 0 0] 30)).alloc (.cells #[.int .i64 1, .int .i64 0, .int .i64 0, .int .i64 0, .int .i64 1, .string ⟨#[]⟩, .slice A9 n9 c9, .int .i64 0, .int .i64 0, .slice none 0 0, .slice none 0 0, .slice none 0 0] 30)) from ((Below.refl _ _).alloc (Nat.le_refl _) _).alloc (by simp) _); have L9 := Lib.hid (show Loc2 w9.heap.size (w9.heap.size + 1) 30 30 #[.int .i64 1, .int .i64 0, .int .i64 0, .int .i64 0, .int .i64 1, .string ⟨#[]⟩, .slice A9 n9 c9, .int .i64 0, .int .i64 0, .slice none 0 0, .slice none 0 0, .slice none 0 0] #[.int .i64 1, .int .i64 0, .int .i64 0, .int .i64 0, .int .i64 1, .string ⟨#[]⟩, .slice A9 n9 c9, .int .i64 0, .int .i64 0, .slice none 0 0, .slice none 0 0, .slice none 0 0] ((w9.alloc (.cells #[.int .i64 1, .int .i64 0, .int .i64 0, .int .i64 0, .int .i64 1, .string ⟨#[]⟩, .slice A9 n9 c9, .int .i64 0, .int .i64 0, .slice none 0 0, .slice none 0 0, .slice none 0 0] 30)).alloc (.cells #[.int .i64 1, .int .i64 0, .int .i64 0, .int .i64 0, .int .i64 1, .string ⟨#[]⟩, .slice A9 n9 c9, .int .i64 0, .int .i64 0, .slice none 0 0, .slice none 0 0, .slice none 0 0] 30)) from ⟨(Below.heap_alloc _ _ _ (by simp)).trans (heap_new _ _), (by have := heap_new (w9.alloc (.cells #[.int .i64 1, .int .i64 0, .int .i64 0, .int .i64 0, .int .i64 1, .string ⟨#[]⟩, .slice A9 n9 c9, .int .i64 0, .int .i64 0, .slice none 0 0, .slice none 0 0, .slice none 0 0] 30)) (.cells #[.int .i64 1, .int .i64 0, .int .i64 0, .int .i64 0, .int .i64 1, .string ⟨#[]⟩, .slice A9 n9 c9, .int .i64 0, .int .i64 0, .slice none 0 0, .slice none 0 0, .slice none 0 0] 30); simpa using this)⟩); clear ho hb))
  have B12 := Lib.hid (show Below w.heap.size w (w10.setCell ⟨w9.heap.size + 1, 6, none⟩ (.slice A10 n10 c10)) from below_ext_ne B11.out (ext_set_ne (Ext.refl _ _) 6 _) (by have := B10.out.size; omega) (Nat.le_refl _))
  have L12 := Lib.hid (show Loc1 (w9.heap.size + 1) 30 #[.int .i64 1, .int .i64 0, .int .i64 0, .int .i64 0, .int .i64 1, .string ⟨#[]⟩, .slice A10 n10 c10, .int .i64 0, .int .i64 0, .slice none 0 0, .slice none 0 0, .slice none 0 0] (w10.setCell ⟨w9.heap.size + 1, 6, none⟩ (.slice A10 n10 c10)) from by
    have := heap_set L10.out.2 6 (.slice A10 n10 c10)
    simp only [List.setIfInBounds_toArray, List.set_cons_zero, List.set_cons_succ] at this
    exact this)
  have HR12 := Lib.hid ((HR10.out.ext (ext_set (p := ⟨w9.heap.size + 1, 6, none⟩) (fun e => by have := e.2; simp at this; omega) (.slice A10 n10 c10))).weak (ok' := fun _ => True) fun _ _ => trivial)
  have HS12 := Lib.hid ((HO10.out.ext (ext_set (p := ⟨w9.heap.size + 1, 6, none⟩) (fun e => by simp at e) (.slice A10 n10 c10))).weak (ok' := fun _ => True) fun _ _ => trivial)
  have HC1 := Lib.hid (check_c (mReq_mk HR12.out))
  rw [chk_req, HRL.out, decide_eq_true (by decide)] at HC1
  have e1' : errOf true = 0 := rfl
  have e2' : errOf false = 120 := rfl
  go_wp2_with fail
  refine HC1.out.mono ?_
  rintro e w13 ⟨rfl, hb⟩
  have L13 := Lib.hid (L12.out.below hb)
  have B13 := Lib.hid (below_self B12.out hb)
  have HS13 := Lib.hid (HS12.out.below hb)
  have HC2 := Lib.hid (check_c (mReq_mk HS13.out))
  rw [chk_req, HRL3.out, decide_eq_false (by decide)] at HC2
  obtain ⟨x0, x1, x2, x3, x4, x5, x6, x7, x8, x9, x10, x11⟩ := cells12 L13.out
  clear hb HC1
  go_wp2_with fail
  refine HC2.out.mono ?_
  rintro e w14 ⟨rfl, hb⟩
  have B14 := Lib.hid (below_self B13.out hb)
  clear hb
  go_wp2_with fail
  refine (HAW.out _).mono ?_
  rintro e w15 ⟨rfl, hb⟩
  have B15 := Lib.hid (below_self B14.out hb)
  clear hb
  go_wp2_with fail
  go_ret
  exact ⟨rfl, B15.out⟩
end
end Go.Proofs.Ytplpmhlakiikgaa
