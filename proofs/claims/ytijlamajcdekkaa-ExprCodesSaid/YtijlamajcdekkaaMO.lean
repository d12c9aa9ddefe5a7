/- Texts that go together. -/
import Derived.Test.YtijlamajcdekkaaMJ
import Derived.Test.YtijlamajcdekkaaMC
import Derived.Test.YtijlamajcdekkaaMK
/- The references' bytes: texts, values. -/
namespace Go.Proofs.Ytijlamajcdekkaa
open Go.RowKit
set_option linter.unusedVariables false
set_option linter.unusedSimpArgs false
section
variable {w : World}
theorem boolRef_c {xs : List UInt8} {A : Option Addr} {n c : Nat} (h : Sl kU8 (fun _ => True) w (.slice A n c) xs) (x : Bool) (hn : n ≤ 1099511627776) :
    Calls Try.prog 97 #[.slice A n c, .bool x] w (RetOwn kU8 5 (fun _ => True) w (xs ++ [if x then 1 else 0])) := by
  cases x
  · have H := Lib.hid (bits_u8 h 0 (by omega) 1 (by omega) hn)
    clear h
    go_enter Try.func97, Try.ntmps97
    go_wp2_with fail
    refine H.out.mono ?_
    rintro x9 w1 ⟨v, rfl, ho⟩
    have HO := Lib.hid ho
    clear ho
    go_wp2_with fail
    go_ret
    exact ⟨v, rfl, HO.out⟩
  · have H := Lib.hid (bits_u8 h 1 (by omega) 1 (by omega) hn)
    clear h
    go_enter Try.func97, Try.ntmps97
    go_wp2_with fail
    refine H.out.mono ?_
    rintro x9 w1 ⟨v, rfl, ho⟩
    have HO := Lib.hid ho
    clear ho
    go_wp2_with fail
    go_ret
    exact ⟨v, rfl, HO.out⟩
theorem codeB_lt (b : Nat) (hb : b < 18446744073709551616) : codeB b < 18446744073709551616 := by
  unfold codeB
  split <;> omega
theorem numRef_c {xs : List UInt8} {A : Option Addr} {n c : Nat} (h : Sl kU8 (fun _ => True) w (.slice A n c) xs) (x : Nat) (hx : x < 18446744073709551616) (hn : n ≤ 1099511627776) :
    Calls Try.prog 98 #[.slice A n c, .float .f64 x] w (RetOwn kU8 5 (fun _ => True) w (xs ++ be 8 (codeB x))) := by
  have H := Lib.hid (bits_u8 h (codeB x) (codeB_lt x hx) 8 (by omega) hn)
  clear h
  go_enter Try.func98, Try.ntmps98
  go_wp2_with fail
  refine (bits_c x).mono ?_
  rintro x9 w1 ⟨rfl, rfl⟩
  go_wp2_with fail
  refine H.out.mono ?_
  rintro x9 w1 ⟨v, rfl, ho⟩
  have HO := Lib.hid ho
  clear ho
  go_wp2_with fail
  go_ret
  exact ⟨v, rfl, HO.out⟩
set_option maxHeartbeats 2000000 in
theorem rputV_c {xs : List UInt8} {A : Option Addr} {n c : Nat} (h : Sl kU8 (fun _ => True) w (.slice A n c) xs) (v : Val) (hv : ValW v) (hn : n ≤ 274877906944) :
    Calls Try.prog 76 #[.slice A n c, .agg #[.int .i64 v.kind, .int .i64 v.int, .bool v.bool, .string ⟨v.text.toArray⟩, .float .f64 v.num]] w (RetOwn kU8 5 (fun _ => True) w (xs ++ bVal v)) := by
  have SF := store_f64
  have hL : Loc1 w.heap.size 25 #[.int .i64 v.kind, .int .i64 v.int, .bool v.bool, .string ⟨v.text.toArray⟩, .float .f64 v.num] (w.alloc (.cells #[.int .i64 v.kind, .int .i64 v.int, .bool v.bool, .string ⟨v.text.toArray⟩, .float .f64 v.num] 25)) := Loc1.new _ _ _
  have B0 : Below w.heap.size w (w.alloc (.cells #[.int .i64 v.kind, .int .i64 v.int, .bool v.bool, .string ⟨v.text.toArray⟩, .float .f64 v.num] 25)) := bW
  have H0 := Lib.hid (intRef_c (h.below B0) v.kind hv.kind.1 hv.kind.2 (by omega))
  have HL := Lib.hid hL
  have HV := Lib.hid hv
  have HN := Lib.hid h.len.1
  obtain ⟨c0, c1, c2, c3, c4⟩ := cells5 hL
  have hz0 := lt_of_heap hL
  clear h hL hv
  go_enter Try.func76, Try.ntmps76
  go_wp2_with fail
  refine H0.out.mono ?_
  rintro x9 w2 ⟨v2, rfl, ho, hb2⟩
  obtain ⟨A2, n2, cc2, rfl, hn2⟩ := ho.form'
  have hn3 : n2 ≤ 274877906952 := by rw [hn2, List.length_append, bInt_len, HN.out]; omega
  have HO := Lib.hid ho
  clear ho hn2 c0 c1 c2 c3 c4 H0
  have L2 := HL.out.bel hb2
  obtain ⟨c0, c1, c2, c3, c4⟩ := cells5 L2
  have hz := lt_of_heap L2
  have BW : Below w.heap.size w w2 := bW
  have HS := Lib.hid (show Sl kU8 (fun _ => True) w2 (.slice A2 n2 cc2) (xs ++ bInt v.kind) from HO.out.read)
  have HB := Lib.hid (show ∀ (W : World) (ys : List UInt8) (u : Value), bVal v = bInt v.kind ++ ys → Own kU8 5 (fun _ => True) W w2.heap.size u (xs ++ bInt v.kind ++ ys) → Below w2.heap.size w2 W → RetOwn kU8 5 (fun _ => True) w (xs ++ bVal v) (.returned u) W from fun W ys u e ho hb => ⟨u, rfl, by rw [e, ← List.append_assoc]; exact ho.lower BW.size, below_self BW hb⟩)
  have EV := Lib.hid (show bVal v = bInt v.kind ++ (if v.kind = 1 then bInt v.int else if v.kind = 2 then [if v.bool then 1 else 0] else if v.kind = 3 then bBytes v.text else if v.kind = 4 then be 8 (codeB v.num) else []) from rfl)
  by_cases g1 : v.kind = 1
  · have f1 : (v.kind == 1) = true := by rw [g1]; rfl
    have E1 := Lib.hid (show bVal v = bInt v.kind ++ bInt v.int by rw [EV.out, if_pos g1])
    clear g1
    go_wp2_with fail
    refine (intRef_c HS.out v.int HV.out.int.1 HV.out.int.2 (by omega)).mono ?_
    rintro x9 w3 ⟨u, rfl, ho, hb3⟩
    have HR := Lib.hid (HB.out w3 _ u E1.out ho hb3)
    clear ho
    go_wp2_with fail
    go_ret
    exact HR.out
  have f1 : (v.kind == 1) = false := by simpa using g1
  by_cases g2 : v.kind = 2
  · have f2 : (v.kind == 2) = true := by rw [g2]; rfl
    have E1 := Lib.hid (show bVal v = bInt v.kind ++ [if v.bool then 1 else 0] by rw [EV.out, if_neg g1, if_pos g2])
    clear g1 g2
    go_wp2_with fail
    refine (boolRef_c HS.out v.bool (by omega)).mono ?_
    rintro x9 w3 ⟨u, rfl, ho, hb3⟩
    have HR := Lib.hid (HB.out w3 _ u E1.out ho hb3)
    clear ho
    go_wp2_with fail
    go_ret
    exact HR.out
  have f2 : (v.kind == 2) = false := by simpa using g2
  by_cases g3 : v.kind = 3
  · have f3 : (v.kind == 3) = true := by rw [g3]; rfl
    have E1 := Lib.hid (show bVal v = bInt v.kind ++ bBytes v.text by rw [EV.out, if_neg g1, if_neg g2, if_pos g3])
    clear g1 g2 g3
    obtain ⟨A5, c5, w5, hcv, hs5, hb5⟩ := conv_sb (P := Try.prog) (ok := fun _ => True) w2 9 52 5 v.text Try.underlying9 Try.underlying52 Try.underlying5 (fun _ _ => trivial) (by have := HV.out.text; omega)
    have HP := Lib.hid (bytesRef_c (HS.out.below hb5) hs5 (by omega) HV.out.text)
    have HB5 := Lib.hid hb5
    clear hs5 hb5
    go_wp2_with fail
    refine HP.out.mono ?_
    rintro x9 w3 ⟨u, rfl, ho, hb3⟩
    have HR := Lib.hid (HB.out w3 _ u E1.out (ho.lower HB5.out.size) (below_self HB5.out hb3))
    clear ho hcv
    go_wp2_with fail
    go_ret
    exact HR.out
  have f3 : (v.kind == 3) = false := by simpa using g3
  by_cases g4 : v.kind = 4
  · have f4 : (v.kind == 4) = true := by rw [g4]; rfl
    have E1 := Lib.hid (show bVal v = bInt v.kind ++ be 8 (codeB v.num) by rw [EV.out, if_neg g1, if_neg g2, if_neg g3, if_pos g4])
    clear g1 g2 g3 g4
    go_wp2_with fail
    refine (numRef_c HS.out v.num HV.out.num (by omega)).mono ?_
    rintro x9 w3 ⟨u, rfl, ho, hb3⟩
    have HR := Lib.hid (HB.out w3 _ u E1.out ho hb3)
    clear ho
    go_wp2_with fail
    go_ret
    exact HR.out
  have f4 : (v.kind == 4) = false := by simpa using g4
  have E1 := Lib.hid (show bVal v = bInt v.kind ++ [] by rw [EV.out, if_neg g1, if_neg g2, if_neg g3, if_neg g4])
  have HR := Lib.hid (show RetOwn kU8 5 (fun _ => True) w (xs ++ bVal v) (.returned (.slice A2 n2 cc2)) w2 from ⟨_, rfl, by rw [E1.out, List.append_nil]; exact HO.out.lower B0.size, BW⟩)
  clear g1 g2 g3 g4
  go_wp2_with fail
  go_ret
  exact HR.out
end
end Go.Proofs.Ytijlamajcdekkaa

/- The references' bytes: expressions. -/
namespace Go.Proofs.Ytijlamajcdekkaa
open Go.RowKit
set_option linter.unusedVariables false
set_option linter.unusedSimpArgs false
abbrev PutRX (k : Nat) : Prop := ∀ (w : World) (A : Option Addr) (n c : Nat) (xs : List UInt8) (B : Option Addr) (d : Nat) (e : Exp), Sl kU8 (fun _ => True) w (.slice A n c) xs → Sl (kExp k) (fun _ => True) w (.slice B e.kids.length d) e.kids → ExpW (k + 1) e →
  xs.length + (bX (k + 1) e).length ≤ 137438953472 → Calls Try.prog 45 #[.slice A n c, .agg #[.int .i64 e.op, .slice B e.kids.length d, .string ⟨e.name.toArray⟩, .int .i64 e.val.kind, .int .i64 e.val.int, .bool e.val.bool, .string ⟨e.val.text.toArray⟩, .float .f64 e.val.num]] w (RetOwn kU8 5 (fun _ => True) w (xs ++ bX (k + 1) e))
set_option maxRecDepth 20000 in
set_option maxHeartbeats 4000000 in
theorem rputX_s {k : Nat} (ih : ∀ k', k = k' + 1 → PutRX k') : PutRX k := by
  intro w A n c xs B d e h hk he hsz
  have SF := store_f64
  have IH := Lib.hid ih
  have HE := Lib.hid he
  have HSZ := Lib.hid hsz
  have HKS := Lib.hid hk
  have HN := Lib.hid h.len.1
  have hmax := hk.len.2.2.1
  have hnc := hk.len.2.1
  have EX := Lib.hid (show bX (k + 1) e = bInt e.op ++ (bCount e.kids.length ++ (bBytes e.name ++ (bVal e.val ++ (e.kids.map (bX k)).flatten))) from rfl)
  have HLN := Lib.hid (show n + (bInt e.op).length + (bCount e.kids.length).length + (bBytes e.name).length + (bVal e.val).length ≤ 137438953472 by
    have h1 := hsz
    rw [EX.out] at h1
    have h2 := h.len.1
    simp only [List.length_append] at h1
    omega)
  have hL : Loc1 w.heap.size 27 #[.int .i64 e.op, .slice B e.kids.length d, .string ⟨e.name.toArray⟩, .int .i64 e.val.kind, .int .i64 e.val.int, .bool e.val.bool, .string ⟨e.val.text.toArray⟩, .float .f64 e.val.num] (w.alloc (.cells #[.int .i64 e.op, .slice B e.kids.length d, .string ⟨e.name.toArray⟩, .int .i64 e.val.kind, .int .i64 e.val.int, .bool e.val.bool, .string ⟨e.val.text.toArray⟩, .float .f64 e.val.num] 27)) := Loc1.new _ _ _
  have hb0 : Below w.heap.size w (w.alloc (.cells #[.int .i64 e.op, .slice B e.kids.length d, .string ⟨e.name.toArray⟩, .int .i64 e.val.kind, .int .i64 e.val.int, .bool e.val.bool, .string ⟨e.val.text.toArray⟩, .float .f64 e.val.num] 27)) := bW
  have HI := Lib.hid (intRef_c (h.below hb0) e.op he.1.1 he.1.2 (by have := HLN.out; omega))
  have HL := Lib.hid hL
  clear h hk he hsz ih
  go_enter Try.func45, Try.ntmps45
  go_upto_region 1 with (fail)
  generalize (w.alloc (.cells #[.int .i64 e.op, .slice B e.kids.length d, .string ⟨e.name.toArray⟩, .int .i64 e.val.kind, .int .i64 e.val.int, .bool e.val.bool, .string ⟨e.val.text.toArray⟩, .float .f64 e.val.num] 27)) = w0 at *
  obtain ⟨c0, c1, c2, c3, c4, c5, c6, c7⟩ := cells8 hL
  have hz := lt_of_heap hL
  clear hL
  go_wp2_with fail
  refine HI.out.mono ?_
  rintro x9 w1 ⟨v1, rfl, ho1, hb1⟩
  obtain ⟨A1, n1, cc1, rfl, hn1⟩ := ho1.form'
  have HN1 := Lib.hid (show n1 = n + (bInt e.op).length by rw [hn1, List.length_append, HN.out])
  have HO1 := Lib.hid (ho1.lower (show w.heap.size ≤ w0.heap.size from hb0.size))
  clear ho1 hn1 HI c0 c1 c2 c3 c4 c5 c6 c7 hz
  have LX := HL.out.bel hb1
  obtain ⟨c0, c1, c2, c3, c4, c5, c6, c7⟩ := cells8 LX
  have hz := lt_of_heap LX
  have HI := Lib.hid (countRef_c HO1.out.read e.kids.length HE.out.2.2.2.1 (by have := HLN.out; have := HN1.out; omega))
  go_wp2_with fail
  refine HI.out.mono ?_
  rintro x9 w2 ⟨v2, rfl, ho2, hb2⟩
  obtain ⟨A2, n2, cc2, rfl, hn2⟩ := ho2.form'
  have HN2 := Lib.hid (show n2 = n + (bInt e.op).length + (bCount e.kids.length).length by rw [hn2, List.length_append, List.length_append, HN.out])
  have HO2 := Lib.hid (ho2.lower (show w.heap.size ≤ w1.heap.size from (show Below w.heap.size w w1 from bW).size))
  clear ho2 hn2 HI HO1 c0 c1 c2 c3 c4 c5 c6 c7 hz LX
  have LX := HL.out.bel (show Below w0.heap.size w0 w2 from bW)
  obtain ⟨c0, c1, c2, c3, c4, c5, c6, c7⟩ := cells8 LX
  have hz := lt_of_heap LX
  obtain ⟨Av, cv, w5, hcv, hs5, hb5⟩ := conv_sb (P := Try.prog) (ok := fun _ => True) w2 9 52 5 e.name Try.underlying9 Try.underlying52 Try.underlying5 (fun _ _ => trivial) (by have := HE.out.2.2.1; omega)
  have HI := Lib.hid (bytesRef_c (HO2.out.read.below hb5) hs5 (by have := HLN.out; have := HN2.out; omega) HE.out.2.2.1)
  clear hs5
  go_wp2_with fail
  refine HI.out.mono ?_
  rintro x9 w3 ⟨v3, rfl, ho3, hb3⟩
  obtain ⟨A3, n3, cc3, rfl, hn3⟩ := ho3.form'
  have HN3 := Lib.hid (show n3 = n + (bInt e.op).length + (bCount e.kids.length).length + (bBytes e.name).length by rw [hn3, List.length_append, List.length_append, List.length_append, HN.out])
  have HO3 := Lib.hid (ho3.lower (show w.heap.size ≤ w5.heap.size from (show Below w.heap.size w w5 from bW).size))
  clear ho3 hn3 HI HO2 c0 c1 c2 c3 c4 c5 c6 c7 hz LX hcv
  have LX := HL.out.bel (show Below w0.heap.size w0 w3 from bW)
  obtain ⟨c0, c1, c2, c3, c4, c5, c6, c7⟩ := cells8 LX
  have hz := lt_of_heap LX
  have HI := Lib.hid (rputV_c HO3.out.read e.val HE.out.2.1 (by have := HLN.out; have := HN3.out; omega))
  go_wp2_with fail
  refine HI.out.mono ?_
  rintro x9 w4 ⟨v4, rfl, ho4, hb4⟩
  have HO4 := Lib.hid (show Own kU8 5 (fun _ => True) w4 w.heap.size v4 (xs ++ (bInt e.op ++ (bCount e.kids.length ++ (bBytes e.name ++ bVal e.val)))) by
    have h1 := ho4.lower (show w.heap.size ≤ w3.heap.size from (show Below w.heap.size w w3 from bW).size)
    simpa only [List.append_assoc] using h1)
  clear ho4 HI HO3 c0 c1 c2 c3 c4 c5 c6 c7 hz LX
  have LX := HL.out.bel (show Below w0.heap.size w0 w4 from bW)
  go_wp2_with fail
  go_loopw [5, 0] (fun v26 v0 wr => ∃ i : Nat, i ≤ e.kids.length ∧ v26 = .int .i64 i ∧ Own kU8 5 (fun _ => True) wr w.heap.size v0 (xs ++ (bInt e.op ++ (bCount e.kids.length ++ (bBytes e.name ++ (bVal e.val ++ ((e.kids.take i).map (bX k)).flatten))))) ∧ Below w0.heap.size w0 wr) (fun v26 _ _ => e.kids.length - (intOf v26).toNat)
  case atStart => exact ⟨0, Nat.zero_le _, rfl, by rw [show ((e.kids.take 0).map (bX k)).flatten = [] from rfl, List.append_nil]; exact HO4.out, bW⟩
  case round =>
    clear LX
    obtain ⟨i, hi, rfl, ho, hb⟩ := hrel
    obtain ⟨A6, n6, cc, rfl, hn6⟩ := ho.form'
    have HO := Lib.hid ho
    have LX := HL.out.bel hb
    obtain ⟨k0, k1, k2, k3, k4, k5, k6, k7⟩ := cells8 LX
    have hz := lt_of_heap LX
    clear ho hn6
    by_cases hlt : i < e.kids.length
    · obtain ⟨ad, x, k', D, u, rfl, hx, hk', hs, c0, c1, c2, c3, c4, c5, c6, c7⟩ := exp_at (HKS.out.below (show Below w.heap.size w wr from bW)) hlt
      have HXE := Lib.hid hx
      have HTK := Lib.hid (show e.kids.take (i + 1) = e.kids.take i ++ [x] by rw [List.take_add_one, hx]; rfl)
      have HLE := Lib.hid (show (xs ++ (bInt e.op ++ (bCount e.kids.length ++ (bBytes e.name ++ (bVal e.val ++ ((e.kids.take i).map (bX k)).flatten))))).length + (bX k x).length ≤ 137438953472 by
        have h1 : ((e.kids.take (i + 1)).map (bX k)).flatten.length ≤ ((e.kids.map (bX k)).flatten).length := by
          conv => rhs; rw [← List.take_append_drop (i + 1) e.kids]
          rw [List.map_append, List.flatten_append, List.length_append]; omega
        rw [HTK.out, List.map_append, List.flatten_append, List.length_append] at h1
        have h2 : ([x].map (bX k)).flatten = bX k x := by simp
        rw [h2] at h1
        have h3 := HSZ.out
        rw [EX.out] at h3
        simp only [List.length_append] at h3 ⊢
        omega)
      subst hk'
      have HS5 := Lib.hid hs
      clear hx hs
      go_wp2_with fail
      refine (IH.out k' rfl wr A6 n6 cc _ D u x HO.out.read HS5.out (HE.out.2.2.2.2 x (List.mem_of_getElem? HXE.out)) HLE.out).mono ?_
      rintro x9 w6 ⟨v6, rfl, ho6, hb6⟩
      have HO6 := Lib.hid (show Own kU8 5 (fun _ => True) w6 w.heap.size v6 (xs ++ (bInt e.op ++ (bCount e.kids.length ++ (bBytes e.name ++ (bVal e.val ++ ((e.kids.take (i + 1)).map (bX (k' + 1))).flatten))))) by
        rw [HTK.out, List.map_append, List.flatten_append]
        have h2 : ([x].map (bX (k' + 1))).flatten = bX (k' + 1) x := by simp
        rw [h2]
        have h3 := ho6.lower (show w.heap.size ≤ wr.heap.size from (show Below w.heap.size w wr from bW).size)
        simpa only [List.append_assoc] using h3)
      clear ho6 c0 c1 c2 c3 c4 c5 c6 c7 k0 k1 k2 k3 k4 k5 k6 k7 hz
      go_wp2_with fail
      go_roundw
      case rel => exact ⟨i + 1, by omega, by go_num, HO6.out, bW⟩
      case measure => simp [intOf]; omega
    · have HO3 := Lib.hid (show Own kU8 5 (fun _ => True) wr w.heap.size (.slice A6 n6 cc) (xs ++ bX (k + 1) e) by
        have h1 := HO.out
        rw [List.take_of_length_le (by omega)] at h1
        exact h1)
      go_wp2_with fail
      go_ret
      exact ⟨_, rfl, HO3.out, bW⟩
theorem rputX_c : ∀ k, PutRX k
  | 0 => rputX_s fun k' h => by omega
  | k + 1 => rputX_s fun k' h => by
    have : k' = k := by omega
    subst this
    exact rputX_c k'
section
variable {w : World}
theorem rputE_c {k : Nat} {A : Option Addr} {n c : Nat} {xs : List UInt8} {B : Option Addr} {d : Nat} (e : Exp) (h : Sl kU8 (fun _ => True) w (.slice A n c) xs) (hk : Sl (kExp k) (fun _ => True) w (.slice B e.kids.length d) e.kids)
    (he : small e = true → ExpW (k + 1) e) (hsz : xs.length + (bE k e).length ≤ 137438953472) : Calls Try.prog 26 #[.slice A n c, .agg #[.int .i64 e.op, .slice B e.kids.length d, .string ⟨e.name.toArray⟩, .int .i64 e.val.kind, .int .i64 e.val.int, .bool e.val.bool, .string ⟨e.val.text.toArray⟩, .float .f64 e.val.num]] w (RetOwn kU8 5 (fun _ => True) w (xs ++ bE k e)) := by
  have SF := store_f64
  have HE := Lib.hid he
  have HSZ := Lib.hid hsz
  have HKS := Lib.hid hk
  have HX := Lib.hid h
  have HN := Lib.hid h.len.1
  have hmax := hk.len.2.2.1
  have hnc := hk.len.2.1
  have hL : Loc1 w.heap.size 27 #[.int .i64 e.op, .slice B e.kids.length d, .string ⟨e.name.toArray⟩, .int .i64 e.val.kind, .int .i64 e.val.int, .bool e.val.bool, .string ⟨e.val.text.toArray⟩, .float .f64 e.val.num] (w.alloc (.cells #[.int .i64 e.op, .slice B e.kids.length d, .string ⟨e.name.toArray⟩, .int .i64 e.val.kind, .int .i64 e.val.int, .bool e.val.bool, .string ⟨e.val.text.toArray⟩, .float .f64 e.val.num] 27)) := Loc1.new _ _ _
  have hb0 : Below w.heap.size w (w.alloc (.cells #[.int .i64 e.op, .slice B e.kids.length d, .string ⟨e.name.toArray⟩, .int .i64 e.val.kind, .int .i64 e.val.int, .bool e.val.bool, .string ⟨e.val.text.toArray⟩, .float .f64 e.val.num] 27)) := bW
  have HL := Lib.hid hL
  have EB := Lib.hid (show bE k e = if small e then bX (k + 1) e else [] from rfl)
  clear h hk he hsz
  go_enter Try.func26, Try.ntmps26
  go_upto_region 1 with (fail)
  generalize (w.alloc (.cells #[.int .i64 e.op, .slice B e.kids.length d, .string ⟨e.name.toArray⟩, .int .i64 e.val.kind, .int .i64 e.val.int, .bool e.val.bool, .string ⟨e.val.text.toArray⟩, .float .f64 e.val.num] 27)) = w0 at *
  obtain ⟨c0, c1, c2, c3, c4, c5, c6, c7⟩ := cells8 hL
  have hz := lt_of_heap hL
  clear hL
  go_wp2_with fail
  refine (small4_c (exp_mk (HKS.out.below (show Below w.heap.size w w0 from bW)))).mono ?_
  rintro x9 w2 ⟨rfl, hb2⟩
  clear c0 c1 c2 c3 c4 c5 c6 c7 hz
  have LX := HL.out.bel (show Below w0.heap.size w0 w2 from bW)
  obtain ⟨c0, c1, c2, c3, c4, c5, c6, c7⟩ := cells8 LX
  have hz := lt_of_heap LX
  have HX2 := Lib.hid (HX.out.below (show Below w.heap.size w w2 from bW))
  cases hs : small e
  · have E1 := Lib.hid (show bE k e = [] by rw [EB.out, hs]; rfl)
    have B5 := Lib.hid (show Below w2.heap.size w2 (w2.alloc (.cells #[] 5)) from bW)
    have HLX := Lib.hid (show xs.length ≤ 137438953472 by have := HSZ.out; omega)
    clear hs
    go_wp2_with (first | (at_builtin; refine at_append rfl (.tmp 8) (.tmp 9) 52 52 rfl rfl rfl (run_append_own_sl Try.underlying52 Try.underlying52 infoU8 rfl (own_empty w2 (fun _ => True) 5) B5.out.size (HX2.out.below B5.out) (by have := HLX.out; simp; omega) (by have := HLX.out; simp; omega)) ?_; rintro v' w'' ⟨ho3, hb3⟩; have HO3 := Lib.hid (show Own kU8 5 (fun _ => True) w'' w2.heap.size v' xs from ho3); have HB3 := Lib.hid (B5.out.trans hb3); clear ho3 hb3))
    have HO4 := Lib.hid (HO3.out.lower (show Below w.heap.size w w2 from bW).size)
    have hb3 := HB3.out
    go_ret
    rw [E1.out, List.append_nil]
    exact ⟨_, rfl, HO4.out, bW⟩
  · have E1 := Lib.hid (show bE k e = bX (k + 1) e by rw [EB.out, hs]; rfl)
    have HW := Lib.hid (HE.out hs)
    clear hs
    go_wp2_with fail
    refine (rputX_c k w2 A n c xs B d e HX2.out (HKS.out.below (show Below w.heap.size w w2 from bW)) HW.out (by have := HSZ.out; rwa [E1.out] at this)).mono ?_
    rintro x9 w3 ⟨v3, rfl, ho3, hb3⟩
    have HO3 := Lib.hid (ho3.lower (show Below w.heap.size w w2 from bW).size)
    clear ho3
    go_wp2_with fail
    go_ret
    rw [E1.out]
    exact ⟨_, rfl, HO3.out, bW⟩
end
end Go.Proofs.Ytijlamajcdekkaa
