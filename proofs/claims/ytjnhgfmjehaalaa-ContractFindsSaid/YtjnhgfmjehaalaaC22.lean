/- Bytes put: expr.Put. -/
import Derived.Test.YtjnhgfmjehaalaaC21
namespace Go.Proofs.Ytjnhgfmjehaalaa
open Go.RowKit
set_option linter.unusedVariables false
set_option linter.unusedSimpArgs false
section
variable {w : World}
def bE (k : Nat) (e : Exp) : List UInt8 := if small e then bX (k + 1) e else []
theorem putE_c {k : Nat} {A : Option Addr} {n c : Nat} {xs : List UInt8} {B : Option Addr} {d : Nat} (e : Exp) (h : Sl kU8 (fun _ => True) w (.slice A n c) xs) (hk : Sl (kExp k) (fun _ => True) w (.slice B e.kids.length d) e.kids)
    (he : small e = true → ExpW (k + 1) e) (hsz : xs.length + (bE k e).length ≤ 137438953472) : Calls Try.prog 65 #[.slice A n c, .agg #[.int .i64 e.op, .slice B e.kids.length d, .string ⟨e.name.toArray⟩, .int .i64 e.val.kind, .int .i64 e.val.int, .bool e.val.bool, .string ⟨e.val.text.toArray⟩, .float .f64 e.val.num]] w (RetOwn kU8 5 (fun _ => True) w (xs ++ bE k e)) := by
  have SF := store_f64
  have HE := Lib.hid he
  have HSZ := Lib.hid hsz
  have HKS := Lib.hid hk
  have HN := Lib.hid h.len.1
  have hmax := hk.len.2.2.1
  have hnc := hk.len.2.1
  have hL : Loc1 w.heap.size 44 #[.int .i64 e.op, .slice B e.kids.length d, .string ⟨e.name.toArray⟩, .int .i64 e.val.kind, .int .i64 e.val.int, .bool e.val.bool, .string ⟨e.val.text.toArray⟩, .float .f64 e.val.num] (w.alloc (.cells #[.int .i64 e.op, .slice B e.kids.length d, .string ⟨e.name.toArray⟩, .int .i64 e.val.kind, .int .i64 e.val.int, .bool e.val.bool, .string ⟨e.val.text.toArray⟩, .float .f64 e.val.num] 44)) := Loc1.new _ _ _
  have hb0 : Below w.heap.size w (w.alloc (.cells #[.int .i64 e.op, .slice B e.kids.length d, .string ⟨e.name.toArray⟩, .int .i64 e.val.kind, .int .i64 e.val.int, .bool e.val.bool, .string ⟨e.val.text.toArray⟩, .float .f64 e.val.num] 44)) := (by (focus (repeat (first | with_reducible exact Below.refl _ _ | with_reducible assumption | with_reducible refine bel_al _ ?_ | with_reducible refine bel_dr ?_ | with_reducible refine bel_dn _ ?_ | with_reducible refine bel_tr (by assumption) ?_))))
  have hnn : n ≤ 137438953472 := by have := h.len.1; omega
  have HC := Lib.hid (clone_u8 (h.below hb0) (by omega))
  have HL := Lib.hid hL
  have EB := Lib.hid (show bE k e = if small e then bX (k + 1) e else [] from rfl)
  clear h hk he hsz
  go_enter Try.func65, Try.ntmps65
  go_upto_region 1 with (fail)
  generalize (w.alloc (.cells #[.int .i64 e.op, .slice B e.kids.length d, .string ⟨e.name.toArray⟩, .int .i64 e.val.kind, .int .i64 e.val.int, .bool e.val.bool, .string ⟨e.val.text.toArray⟩, .float .f64 e.val.num] 44)) = w0 at *
  clear hL
  go_wp2_with fail
  refine HC.out.mono ?_
  rintro x9 w1 ⟨v1, rfl, ho1, hb1⟩
  have HO1 := Lib.hid ho1
  clear ho1 HC
  have LX := HL.out.bel hb1
  obtain ⟨c0, c1, c2, c3, c4, c5, c6, c7⟩ := cells8 LX
  have hz := lt_of_heap LX
  go_wp2_with fail
  refine (small_c (exp_mk (HKS.out.below (show Below w.heap.size w w1 from (by (focus (repeat (first | with_reducible exact Below.refl _ _ | with_reducible assumption | with_reducible refine bel_al _ ?_ | with_reducible refine bel_dr ?_ | with_reducible refine bel_dn _ ?_ | with_reducible refine bel_tr (by assumption) ?_)))))))).mono ?_
  rintro x9 w2 ⟨rfl, hb2⟩
  have HO2 := Lib.hid ((show Own kU8 5 (fun _ => True) w1 w.heap.size v1 xs from HO1.out.lower (show Below w.heap.size w w0 from (by (focus (repeat (first | with_reducible exact Below.refl _ _ | with_reducible assumption | with_reducible refine bel_al _ ?_ | with_reducible refine bel_dr ?_ | with_reducible refine bel_dn _ ?_ | with_reducible refine bel_tr (by assumption) ?_))))).size).below hb2)
  clear c0 c1 c2 c3 c4 c5 c6 c7 hz LX HO1
  have LX := HL.out.bel (show Below w0.heap.size w0 w2 from (by (focus (repeat (first | with_reducible exact Below.refl _ _ | with_reducible assumption | with_reducible refine bel_al _ ?_ | with_reducible refine bel_dr ?_ | with_reducible refine bel_dn _ ?_ | with_reducible refine bel_tr (by assumption) ?_)))))
  obtain ⟨c0, c1, c2, c3, c4, c5, c6, c7⟩ := cells8 LX
  have hz := lt_of_heap LX
  cases hs : small e
  · have E1 := Lib.hid (show bE k e = [] by rw [EB.out, hs]; rfl)
    clear hs
    go_wp2_with fail
    go_ret
    rw [E1.out, List.append_nil]
    exact ⟨_, rfl, HO2.out, (by (focus (repeat (first | with_reducible exact Below.refl _ _ | with_reducible assumption | with_reducible refine bel_al _ ?_ | with_reducible refine bel_dr ?_ | with_reducible refine bel_dn _ ?_ | with_reducible refine bel_tr (by assumption) ?_))))⟩
  · have E1 := Lib.hid (show bE k e = bX (k + 1) e by rw [EB.out, hs]; rfl)
    have HW := Lib.hid (HE.out hs)
    obtain ⟨A2, n2, c2, rfl, -⟩ := HO2.out.form'
    clear hs
    go_wp2_with fail
    refine (putX_c k w2 A2 n2 c2 xs B d e HO2.out.read (HKS.out.below (show Below w.heap.size w w2 from (by (focus (repeat (first | with_reducible exact Below.refl _ _ | with_reducible assumption | with_reducible refine bel_al _ ?_ | with_reducible refine bel_dr ?_ | with_reducible refine bel_dn _ ?_ | with_reducible refine bel_tr (by assumption) ?_)))))) HW.out (by have := HSZ.out; rwa [E1.out] at this)).mono ?_
    rintro x9 w3 ⟨v3, rfl, ho3, hb3⟩
    have HO3 := Lib.hid (ho3.lower (show Below w.heap.size w w2 from (by (focus (repeat (first | with_reducible exact Below.refl _ _ | with_reducible assumption | with_reducible refine bel_al _ ?_ | with_reducible refine bel_dr ?_ | with_reducible refine bel_dn _ ?_ | with_reducible refine bel_tr (by assumption) ?_))))).size)
    clear ho3
    go_wp2_with fail
    go_ret
    rw [E1.out]
    exact ⟨_, rfl, HO3.out, (by (focus (repeat (first | with_reducible exact Below.refl _ _ | with_reducible assumption | with_reducible refine bel_al _ ?_ | with_reducible refine bel_dr ?_ | with_reducible refine bel_dn _ ?_ | with_reducible refine bel_tr (by assumption) ?_))))⟩
end
end Go.Proofs.Ytjnhgfmjehaalaa
