/- Texts that go together. -/
import Derived.Test.YtijlamajcdekkaaMC
import Derived.Deep.CutRange
import Derived.Deep.DeepMust
/- Bytes put: truths, floats, texts, values. -/

namespace Go.Proofs.Ytijlamajcdekkaa
open Go.RowKit
set_option linter.unusedVariables false
set_option linter.unusedSimpArgs false
/-- '[]byte(s)' -/
theorem conv_sb {P : Program} {ok : Nat → Prop} (w : World) (src dst e : TypeId) (l : List UInt8) (hs : P.underlying src = some .string) (hd : P.underlying dst = some (.slice e)) (he : P.underlying e = some (.int .u8)) (hok : ∀ k, w.heap.size ≤ k → ok k) (hl : l.length ≤ 274877906944) :
    ∃ A c w', (convert src dst (.string ⟨l.toArray⟩)).run P w = .ok (.slice A l.length c) w' ∧ Sl kU8 ok w' (.slice A l.length c) l ∧ Below w.heap.size w w' := by
  have hz : (⟨l.toArray⟩ : ByteArray).size = l.length := by show l.toArray.size = _; simp
  have hr := run_bytes_of_string (P := P) w src dst e ⟨l.toArray⟩ hs hd he
  rw [hz] at hr
  have hcap := grownCap_le w l.length 0 e (by omega)
  generalize grownCap w l.length 0 e = cap at *
  refine ⟨_, _, _, hr, ⟨_, _, _, rfl, rfl, hcap.1, hcap.2, fun h => (nomatch h), fun i x hi => ⟨⟨w.heap.size, 0, none⟩, [.int .u8 (x.toNat : Int)], rfl, hok _ (Nat.le_refl _), rfl, fun j u hj => ?_⟩⟩, ?_⟩
  · have hi' := List.getElem?_eq_some_iff.1 hi
    obtain ⟨hi', hx⟩ := hi'
    match j, hj with
    | 0, hj =>
      have hj : Value.int .u8 (x.toNat : Int) = u := by simpa using hj
      subst hj
      have h0 : (w.drew.alloc (.cells (bytesRow ⟨l.toArray⟩ cap) e ((bytesRow ⟨l.toArray⟩ cap).size, (bytesRow ⟨l.toArray⟩ cap).size + 1))).heap[w.heap.size]? = some (.cells (bytesRow ⟨l.toArray⟩ cap) e ((bytesRow ⟨l.toArray⟩ cap).size, (bytesRow ⟨l.toArray⟩ cap).size + 1)) := heap_new w.drew _
      have h1 : ((⟨w.heap.size, 0, none⟩ : Addr).add (i * kU8.sz + 0)) = ⟨w.heap.size, i, none⟩ := by
        show Addr.add _ (i * 1 + 0) = _
        unfold Addr.add
        by_cases h : i = 0 <;> simp [h]
      rw [h1, cell_of h0]
      unfold bytesRow
      rw [Array.getElem?_append_left (by simpa using hi')]
      simp [hi', hx]
    | j + 1, hj => simp at hj
  · exact ((Below.refl _ w).drew).alloc (Nat.le_refl _) _
section
variable {w : World}
theorem putBool_c {ok : Nat → Prop} {xs : List UInt8} {A : Option Addr} {n c : Nat} (h : Sl kU8 ok w (.slice A n c) xs) (b : Bool) (hn : n ≤ 1099511627776) :
    Calls Try.prog 94 #[.slice A n c, .bool b] w (RetOwn kU8 5 ok w (xs ++ [if b then 1 else 0])) := by
  have HC := Lib.hid (clip_u8 h)
  have hl := h.len.1
  have H := Lib.hid (show Clp kU8 5 ok w w.heap.size (.slice A n n) xs from .inl ⟨A, n, rfl, h.clip⟩)
  have HL := Lib.hid hl
  clear h hl
  cases b
  all_goals
    go_enter Try.func94, Try.ntmps94
    go_wp2_with fail
    refine HC.out.mono ?_
    rintro x9 w1 ⟨rfl, rfl⟩
  · go_wp2_with (at_builtin; refine at_append rfl (.tmp 8) (.tmp 10) 52 52 rfl rfl rfl (run_append_clp1 Try.underlying52 Try.underlying52 infoU8 rfl H.out (Nat.le_refl _) (0 : UInt8) (by have := HL.out; omega) (by have := HL.out; omega)) ?_; rintro v' w' ⟨ho, hb⟩; have HO := Lib.hid ho; have HB := Lib.hid hb; clear ho hb)
    go_ret
    exact ⟨_, rfl, HO.out, HB.out⟩
  · go_wp2_with (at_builtin; refine at_append rfl (.tmp 8) (.tmp 10) 52 52 rfl rfl rfl (run_append_clp1 Try.underlying52 Try.underlying52 infoU8 rfl H.out (Nat.le_refl _) (1 : UInt8) (by have := HL.out; omega) (by have := HL.out; omega)) ?_; rintro v' w' ⟨ho, hb⟩; have HO := Lib.hid ho; have HB := Lib.hid hb; clear ho hb)
    go_ret
    exact ⟨_, rfl, HO.out, HB.out⟩
theorem putNum_c {ok : Nat → Prop} {xs : List UInt8} {A : Option Addr} {n c : Nat} (h : Sl kU8 ok w (.slice A n c) xs) (x : Nat) (hx : x < 18446744073709551616) (hn : n ≤ 1099511627776) :
    Calls Try.prog 95 #[.slice A n c, .float .f64 x] w (RetOwn kU8 5 ok w (xs ++ be 8 (codeB x))) := by
  have FB := f64bits_run
  have E := Lib.hid (show codeB x = if nanB x then 9221120237041090561 else x from rfl)
  have H := Lib.hid h
  clear h
  cases hnb : nanB x
  · have H1 := Lib.hid (show Calls Try.prog 93 #[.slice A n c, .int .u64 (x : Int), .int .i64 8] w (RetOwn kU8 5 ok w (xs ++ be 8 (codeB x))) by
      have h1 := spell8_u8 H.out (x : Int) (by omega) (by omega) hn
      rw [E.out, hnb]
      exact h1)
    go_enter Try.func95, Try.ntmps95
    go_wp2_with (go_at_call 99; refine (isNaN_c x).mono ?_; rintro e w' ⟨rfl, rfl⟩; rw [hnb])
    refine H1.out.mono ?_
    rintro x9 w1 ⟨v, rfl, ho⟩
    have HO := Lib.hid ho
    clear ho
    go_wp2_with fail
    go_ret
    exact ⟨v, rfl, HO.out⟩
  · have H1 := Lib.hid (show Calls Try.prog 93 #[.slice A n c, .int .u64 9221120237041090561, .int .i64 8] w (RetOwn kU8 5 ok w (xs ++ be 8 (codeB x))) by
      have h1 := spell8_u8 H.out 9221120237041090561 (by omega) (by omega) hn
      rw [E.out, hnb]
      exact h1)
    go_enter Try.func95, Try.ntmps95
    go_wp2_with (go_at_call 99; refine (isNaN_c x).mono ?_; rintro e w' ⟨rfl, rfl⟩; rw [hnb])
    refine H1.out.mono ?_
    rintro x9 w1 ⟨v, rfl, ho⟩
    have HO := Lib.hid ho
    clear ho
    go_wp2_with fail
    go_ret
    exact ⟨v, rfl, HO.out⟩
end
end Go.Proofs.Ytijlamajcdekkaa

/- Bytes put: texts, values. -/
namespace Go.Proofs.Ytijlamajcdekkaa
open Go.RowKit
set_option linter.unusedVariables false
set_option linter.unusedSimpArgs false
def bVal (v : Val) : List UInt8 := bInt v.kind ++ (if v.kind = 1 then bInt v.int else if v.kind = 2 then [if v.bool then 1 else 0] else if v.kind = 3 then bBytes v.text else if v.kind = 4 then be 8 (codeB v.num) else [])
section
variable {w : World}
/-- a row of the call's own may be read -/
theorem Own.read {xs : List UInt8} {base : Nat} {v : Value} (h : Own kU8 5 (fun _ => True) w base v xs) : Sl kU8 (fun _ => True) w v xs := h.sl fun _ _ => trivial
/-- a value whose numbers are of their kind -/
structure ValW (v : Val) : Prop where
  kind : i64 v.kind
  int : i64 v.int
  num : v.num < 18446744073709551616
  text : v.text.length ≤ 4294967295
set_option maxHeartbeats 2000000 in
theorem putV_c {xs : List UInt8} {A : Option Addr} {n c : Nat} (h : Sl kU8 (fun _ => True) w (.slice A n c) xs) (v : Val) (hv : ValW v) (hn : n ≤ 274877906944) :
    Calls Try.prog 72 #[.slice A n c, .agg #[.int .i64 v.kind, .int .i64 v.int, .bool v.bool, .string ⟨v.text.toArray⟩, .float .f64 v.num]] w (RetOwn kU8 5 (fun _ => True) w (xs ++ bVal v)) := by
  have SF := store_f64
  have hL : Loc1 w.heap.size 25 #[.int .i64 v.kind, .int .i64 v.int, .bool v.bool, .string ⟨v.text.toArray⟩, .float .f64 v.num] (w.alloc (.cells #[.int .i64 v.kind, .int .i64 v.int, .bool v.bool, .string ⟨v.text.toArray⟩, .float .f64 v.num] 25)) := Loc1.new _ _ _
  have B0 : Below w.heap.size w (w.alloc (.cells #[.int .i64 v.kind, .int .i64 v.int, .bool v.bool, .string ⟨v.text.toArray⟩, .float .f64 v.num] 25)) := bW
  have H0 := Lib.hid (putInt_c (h.below B0) v.kind hv.kind.1 hv.kind.2 (by omega))
  have HL := Lib.hid hL
  have HV := Lib.hid hv
  have HN := Lib.hid h.len.1
  obtain ⟨c0, c1, c2, c3, c4⟩ := cells5 hL
  have hz0 := lt_of_heap hL
  clear h hL hv
  go_enter Try.func72, Try.ntmps72
  go_wp2_with fail
  refine H0.out.mono ?_
  rintro x9 w2 ⟨v2, rfl, ho, hb2⟩
  obtain ⟨A2, n2, cc2, rfl, hn2⟩ := ho.form'
  have hn3 : n2 ≤ 274877906952 := by rw [hn2, List.length_append, bInt_len, HN.out]; omega
  have HO := Lib.hid ho
  clear ho hn2 c0 c1 c2 c3 c4 H0
  have L2 := HL.out.bel hb2
  obtain ⟨c0, c1, c2, c3, c4⟩ := cells5 L2
  have hz := lt_of_heap L2
  have BW : Below w.heap.size w w2 := bW
  have HS := Lib.hid (show Sl kU8 (fun _ => True) w2 (.slice A2 n2 cc2) (xs ++ bInt v.kind) from HO.out.read)
  have HB := Lib.hid (show ∀ (W : World) (ys : List UInt8) (u : Value), bVal v = bInt v.kind ++ ys → Own kU8 5 (fun _ => True) W w2.heap.size u (xs ++ bInt v.kind ++ ys) → Below w2.heap.size w2 W → RetOwn kU8 5 (fun _ => True) w (xs ++ bVal v) (.returned u) W from fun W ys u e ho hb => ⟨u, rfl, by rw [e, ← List.append_assoc]; exact ho.lower BW.size, below_self BW hb⟩)
  have EV := Lib.hid (show bVal v = bInt v.kind ++ (if v.kind = 1 then bInt v.int else if v.kind = 2 then [if v.bool then 1 else 0] else if v.kind = 3 then bBytes v.text else if v.kind = 4 then be 8 (codeB v.num) else []) from rfl)
  by_cases g1 : v.kind = 1
  · have f1 : (v.kind == 1) = true := by rw [g1]; rfl
    have E1 := Lib.hid (show bVal v = bInt v.kind ++ bInt v.int by rw [EV.out, if_pos g1])
    clear g1
    go_wp2_with fail
    refine (putInt_c HS.out v.int HV.out.int.1 HV.out.int.2 (by omega)).mono ?_
    rintro x9 w3 ⟨u, rfl, ho, hb3⟩
    have HR := Lib.hid (HB.out w3 _ u E1.out ho hb3)
    clear ho
    go_wp2_with fail
    go_ret
    exact HR.out
  have f1 : (v.kind == 1) = false := by simpa using g1
  by_cases g2 : v.kind = 2
  · have f2 : (v.kind == 2) = true := by rw [g2]; rfl
    have E1 := Lib.hid (show bVal v = bInt v.kind ++ [if v.bool then 1 else 0] by rw [EV.out, if_neg g1, if_pos g2])
    clear g1 g2
    go_wp2_with fail
    refine (putBool_c HS.out v.bool (by omega)).mono ?_
    rintro x9 w3 ⟨u, rfl, ho, hb3⟩
    have HR := Lib.hid (HB.out w3 _ u E1.out ho hb3)
    clear ho
    go_wp2_with fail
    go_ret
    exact HR.out
  have f2 : (v.kind == 2) = false := by simpa using g2
  by_cases g3 : v.kind = 3
  · have f3 : (v.kind == 3) = true := by rw [g3]; rfl
    have E1 := Lib.hid (show bVal v = bInt v.kind ++ bBytes v.text by rw [EV.out, if_neg g1, if_neg g2, if_pos g3])
    clear g1 g2 g3
    obtain ⟨A5, c5, w5, hcv, hs5, hb5⟩ := conv_sb (P := Try.prog) (ok := fun _ => True) w2 9 52 5 v.text Try.underlying9 Try.underlying52 Try.underlying5 (fun _ _ => trivial) (by have := HV.out.text; omega)
    have HP := Lib.hid (putBytes_c (HS.out.below hb5) hs5 (by omega) HV.out.text)
    have HB5 := Lib.hid hb5
    clear hs5 hb5
    go_wp2_with fail
    refine HP.out.mono ?_
    rintro x9 w3 ⟨u, rfl, ho, hb3⟩
    have HR := Lib.hid (HB.out w3 _ u E1.out (ho.lower HB5.out.size) (below_self HB5.out hb3))
    clear ho hcv
    go_wp2_with fail
    go_ret
    exact HR.out
  have f3 : (v.kind == 3) = false := by simpa using g3
  by_cases g4 : v.kind = 4
  · have f4 : (v.kind == 4) = true := by rw [g4]; rfl
    have E1 := Lib.hid (show bVal v = bInt v.kind ++ be 8 (codeB v.num) by rw [EV.out, if_neg g1, if_neg g2, if_neg g3, if_pos g4])
    clear g1 g2 g3 g4
    go_wp2_with fail
    refine (putNum_c HS.out v.num HV.out.num (by omega)).mono ?_
    rintro x9 w3 ⟨u, rfl, ho, hb3⟩
    have HR := Lib.hid (HB.out w3 _ u E1.out ho hb3)
    clear ho
    go_wp2_with fail
    go_ret
    exact HR.out
  have f4 : (v.kind == 4) = false := by simpa using g4
  have E1 := Lib.hid (show bVal v = bInt v.kind ++ [] by rw [EV.out, if_neg g1, if_neg g2, if_neg g3, if_neg g4])
  have HR := Lib.hid (show RetOwn kU8 5 (fun _ => True) w (xs ++ bVal v) (.returned (.slice A2 n2 cc2)) w2 from ⟨_, rfl, by rw [E1.out, List.append_nil]; exact HO.out.lower B0.size, BW⟩)
  clear g1 g2 g3 g4
  go_wp2_with fail
  go_ret
  exact HR.out
end
end Go.Proofs.Ytijlamajcdekkaa
