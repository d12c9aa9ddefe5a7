/- Bytes put: texts, values. -/
import Derived.Test.YtjnhgfmjehaalaaC18
namespace Go.Proofs.Ytjnhgfmjehaalaa
open Go.RowKit
set_option linter.unusedVariables false
set_option linter.unusedSimpArgs false
def bVal (v : Val) : List UInt8 := bInt v.kind ++ (if v.kind = 1 then bInt v.int else if v.kind = 2 then [if v.bool then 1 else 0] else if v.kind = 3 then bBytes v.text else if v.kind = 4 then be 8 (codeB v.num) else [])
section
variable {w : World}
/-- a row of the call's own may be read -/
theorem Own.read {xs : List UInt8} {base : Nat} {v : Value} (h : Own kU8 5 (fun _ => True) w base v xs) : Sl kU8 (fun _ => True) w v xs := h.sl fun _ _ => trivial
theorem text6_c {xs : List UInt8} {A : Option Addr} {n c : Nat} (h : Sl kU8 (fun _ => True) w (.slice A n c) xs) (s : List UInt8) (hs : s.length ≤ 4294967295) (hn : n ≤ 549755813888) :
    Calls Try.prog 54 #[.slice A n c, .string ⟨s.toArray⟩] w (RetOwn kU8 5 (fun _ => True) w (xs ++ bBytes s)) := by
  obtain ⟨A5, c5, w5, hcv, hs5, hb5⟩ := conv_sb (P := Try.prog) (ok := fun _ => True) w 9 63 5 s Try.underlying9 Try.underlying63 Try.underlying5 (fun _ _ => trivial) (by omega)
  have H := Lib.hid (putBytes_c (h.below hb5) hs5 hn hs)
  have HB := Lib.hid hb5
  clear h hs5 hb5
  go_enter Try.func54, Try.ntmps54
  go_wp2_with fail
  refine H.out.mono ?_
  rintro x9 w1 ⟨v, rfl, ho, hb⟩
  have HO := Lib.hid (ho.lower HB.out.size)
  have HB2 := Lib.hid (below_self HB.out hb)
  clear ho hb
  go_wp2_with fail
  go_ret
  exact ⟨v, rfl, HO.out, HB2.out⟩
/-- a value whose numbers are of their kind -/
structure ValW (v : Val) : Prop where
  kind : i64 v.kind
  int : i64 v.int
  num : v.num < 18446744073709551616
  text : v.text.length ≤ 4294967295
set_option maxHeartbeats 2000000 in
theorem putV_c {xs : List UInt8} {A : Option Addr} {n c : Nat} (h : Sl kU8 (fun _ => True) w (.slice A n c) xs) (v : Val) (hv : ValW v) (hn : n ≤ 274877906944) :
    Calls Try.prog 58 #[.slice A n c, .agg #[.int .i64 v.kind, .int .i64 v.int, .bool v.bool, .string ⟨v.text.toArray⟩, .float .f64 v.num]] w (RetOwn kU8 5 (fun _ => True) w (xs ++ bVal v)) := by
  have SF := store_f64
  have hL : Loc1 w.heap.size 36 #[.int .i64 v.kind, .int .i64 v.int, .bool v.bool, .string ⟨v.text.toArray⟩, .float .f64 v.num] (w.alloc (.cells #[.int .i64 v.kind, .int .i64 v.int, .bool v.bool, .string ⟨v.text.toArray⟩, .float .f64 v.num] 36)) := Loc1.new _ _ _
  have B0 : Below w.heap.size w (w.alloc (.cells #[.int .i64 v.kind, .int .i64 v.int, .bool v.bool, .string ⟨v.text.toArray⟩, .float .f64 v.num] 36)) := (by (focus (repeat (first | with_reducible exact Below.refl _ _ | with_reducible assumption | with_reducible refine bel_al _ ?_ | with_reducible refine bel_dr ?_ | with_reducible refine bel_dn _ ?_ | with_reducible refine bel_tr (by assumption) ?_))))
  have H0 := Lib.hid (putInt_c (h.below B0) v.kind hv.kind.1 hv.kind.2 (by omega))
  have HL := Lib.hid hL
  have HV := Lib.hid hv
  have HN := Lib.hid h.len.1
  obtain ⟨c0, c1, c2, c3, c4⟩ := cells5 hL
  have hz0 := lt_of_heap hL
  clear h hL hv
  go_enter Try.func58, Try.ntmps58
  go_wp2_with fail
  refine H0.out.mono ?_
  rintro x9 w2 ⟨v2, rfl, ho, hb2⟩
  obtain ⟨A2, n2, cc2, rfl, hn2⟩ := ho.form'
  have hn3 : n2 ≤ 274877906952 := by rw [hn2, List.length_append, bInt_len, HN.out]; omega
  have HO := Lib.hid ho
  clear ho hn2 c0 c1 c2 c3 c4 H0
  have L2 := HL.out.bel hb2
  obtain ⟨c0, c1, c2, c3, c4⟩ := cells5 L2
  have hz := lt_of_heap L2
  have BW : Below w.heap.size w w2 := (by (focus (repeat (first | with_reducible exact Below.refl _ _ | with_reducible assumption | with_reducible refine bel_al _ ?_ | with_reducible refine bel_dr ?_ | with_reducible refine bel_dn _ ?_ | with_reducible refine bel_tr (by assumption) ?_))))
  have HS := Lib.hid (show Sl kU8 (fun _ => True) w2 (.slice A2 n2 cc2) (xs ++ bInt v.kind) from HO.out.read)
  have HB := Lib.hid (show ∀ (W : World) (ys : List UInt8) (u : Value), bVal v = bInt v.kind ++ ys → Own kU8 5 (fun _ => True) W w2.heap.size u (xs ++ bInt v.kind ++ ys) → Below w2.heap.size w2 W → RetOwn kU8 5 (fun _ => True) w (xs ++ bVal v) (.returned u) W from fun W ys u e ho hb => ⟨u, rfl, by rw [e, ← List.append_assoc]; exact ho.lower BW.size, below_self BW hb⟩)
  have EV := Lib.hid (show bVal v = bInt v.kind ++ (if v.kind = 1 then bInt v.int else if v.kind = 2 then [if v.bool then 1 else 0] else if v.kind = 3 then bBytes v.text else if v.kind = 4 then be 8 (codeB v.num) else []) from rfl)
  by_cases g1 : v.kind = 1
  · have f1 : (v.kind == 1) = true := by rw [g1]; rfl
    have E1 := Lib.hid (show bVal v = bInt v.kind ++ bInt v.int by rw [EV.out, if_pos g1])
    clear g1
    go_wp2_with fail
    refine (putInt_c HS.out v.int HV.out.int.1 HV.out.int.2 (by omega)).mono ?_
    rintro x9 w3 ⟨u, rfl, ho, hb3⟩
    have HR := Lib.hid (HB.out w3 _ u E1.out ho hb3)
    clear ho
    go_wp2_with fail
    go_ret
    exact HR.out
  have f1 : (v.kind == 1) = false := by simpa using g1
  by_cases g2 : v.kind = 2
  · have f2 : (v.kind == 2) = true := by rw [g2]; rfl
    have E1 := Lib.hid (show bVal v = bInt v.kind ++ [if v.bool then 1 else 0] by rw [EV.out, if_neg g1, if_pos g2])
    clear g1 g2
    go_wp2_with fail
    refine (putBool_c HS.out v.bool (by omega)).mono ?_
    rintro x9 w3 ⟨u, rfl, ho, hb3⟩
    have HR := Lib.hid (HB.out w3 _ u E1.out ho hb3)
    clear ho
    go_wp2_with fail
    go_ret
    exact HR.out
  have f2 : (v.kind == 2) = false := by simpa using g2
  by_cases g3 : v.kind = 3
  · have f3 : (v.kind == 3) = true := by rw [g3]; rfl
    have E1 := Lib.hid (show bVal v = bInt v.kind ++ bBytes v.text by rw [EV.out, if_neg g1, if_neg g2, if_pos g3])
    clear g1 g2 g3
    obtain ⟨A5, c5, w5, hcv, hs5, hb5⟩ := conv_sb (P := Try.prog) (ok := fun _ => True) w2 9 63 5 v.text Try.underlying9 Try.underlying63 Try.underlying5 (fun _ _ => trivial) (by have := HV.out.text; omega)
    have HP := Lib.hid (putBytes_c (HS.out.below hb5) hs5 (by omega) HV.out.text)
    have HB5 := Lib.hid hb5
    clear hs5 hb5
    go_wp2_with fail
    refine HP.out.mono ?_
    rintro x9 w3 ⟨u, rfl, ho, hb3⟩
    have HR := Lib.hid (HB.out w3 _ u E1.out (ho.lower HB5.out.size) (below_self HB5.out hb3))
    clear ho hcv
    go_wp2_with fail
    go_ret
    exact HR.out
  have f3 : (v.kind == 3) = false := by simpa using g3
  by_cases g4 : v.kind = 4
  · have f4 : (v.kind == 4) = true := by rw [g4]; rfl
    have E1 := Lib.hid (show bVal v = bInt v.kind ++ be 8 (codeB v.num) by rw [EV.out, if_neg g1, if_neg g2, if_neg g3, if_pos g4])
    clear g1 g2 g3 g4
    go_wp2_with fail
    refine (putNum_c HS.out v.num HV.out.num (by omega)).mono ?_
    rintro x9 w3 ⟨u, rfl, ho, hb3⟩
    have HR := Lib.hid (HB.out w3 _ u E1.out ho hb3)
    clear ho
    go_wp2_with fail
    go_ret
    exact HR.out
  have f4 : (v.kind == 4) = false := by simpa using g4
  have E1 := Lib.hid (show bVal v = bInt v.kind ++ [] by rw [EV.out, if_neg g1, if_neg g2, if_neg g3, if_neg g4])
  have HR := Lib.hid (show RetOwn kU8 5 (fun _ => True) w (xs ++ bVal v) (.returned (.slice A2 n2 cc2)) w2 from ⟨_, rfl, by rw [E1.out, List.append_nil]; exact HO.out.lower B0.size, BW⟩)
  clear g1 g2 g3 g4
  go_wp2_with fail
  go_ret
  exact HR.out
end
end Go.Proofs.Ytjnhgfmjehaalaa
