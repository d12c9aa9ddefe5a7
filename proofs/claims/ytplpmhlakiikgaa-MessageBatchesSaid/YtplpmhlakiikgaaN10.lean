/- The references' bytes, walked. -/
import Derived.Test.YtplpmhlakiikgaaM8
namespace Go.Proofs.Ytplpmhlakiikgaa
open Go.RowKit
set_option linter.unusedVariables false
section
variable {xs ys : List UInt8} {ok : Nat → Prop} {w : World} {A B : Option Addr} {n c n' c' : Nat}
theorem bits_u8 (h : Sl kU8 ok w (.slice A n c) xs) (x : Nat) (hx : x < 18446744073709551616) (m : Nat) (hm : m ≤ 8) (hn : n ≤ 1099511627776) :
    Calls Try.prog 54 #[.slice A n c, .int .u64 (x : Int), .int .i64 (m : Int)] w (RetOwn kU8 5 ok w (xs ++ be m x)) := by
  have H := Lib.hid h
  have hl := h.len.1
  have HL := Lib.hid hl
  have B0 := Lib.hid (show Below w.heap.size w (w.alloc (.cells #[] 5)) from (Below.refl _ _).alloc (Nat.le_refl _) _)
  clear h hl
  go_enter Try.func54, Try.ntmps54
  go_wp2_with (first | (at_builtin; refine at_append rfl (.tmp 9) (.tmp 10) 23 23 rfl rfl rfl (run_append_own_sl Try.underlying23 Try.underlying23 infoU8 rfl (own_empty w ok 5) B0.out.size (H.out.below B0.out) (by rw [HL.out]; simp; omega) (by rw [HL.out]; simp; omega)) ?_; rintro v' w'' ⟨ho2, hb2⟩; have HO2 := Lib.hid (show Own kU8 5 ok w'' w.heap.size v' xs from ho2); have HB2 := Lib.hid (B0.out.trans hb2); clear ho2 hb2))
  go_loopw [7, 8] (fun v7 v8 wr => ∃ k : Nat, k ≤ m ∧ v8 = .int .i64 ((k : Int) - 1) ∧ Own kU8 5 ok wr w.heap.size v7 (xs ++ (be m x).take (m - k)) ∧ Below w.heap.size w wr) (fun _ v8 _ => (intOf v8 + 1).toNat)
  case atStart => exact ⟨m, Nat.le_refl _, rfl, by rw [Nat.sub_self, List.take_zero, List.append_nil]; exact HO2.out, HB2.out⟩
  case round =>
    obtain ⟨k, hk, rfl, ho, hb⟩ := hrel
    have HO := Lib.hid ho
    have HB := Lib.hid hb
    clear ho hb
    rcases Nat.eq_zero_or_pos k with rfl | hpos
    · have E := Lib.hid (show (be m x).take (m - 0) = be m x from List.take_of_length_le (by rw [be_len]; omega))
      go_wp2_with fail
      go_ret
      rw [E.out] at HO
      exact ⟨_, rfl, HO.out, HB.out⟩
    · obtain ⟨j, rfl⟩ : ∃ j, k = j + 1 := ⟨k - 1, by omega⟩
      have hjm : (j : Int) + 1 ≤ 8 := by omega
      have hj1 : ((j + 1 : Nat) : Int) - 1 = j := by omega
      rw [hj1]
      go_wp2_with (at_builtin; refine at_append rfl (.tmp 18) (.tmp 24) 23 23 rfl rfl rfl (run_append_clp1 Try.underlying23 Try.underlying23 infoU8 rfl (.inr HO.out) HB.out.size (UInt8.ofNat (x / 2 ^ (8 * j))) (by rw [List.length_append, List.length_take, be_len, HL.out]; omega) (by rw [List.length_append, List.length_take, be_len, HL.out]; omega)) ?_; rintro v' w' ⟨ho, hb⟩; have HO1 := Lib.hid ho; have HB1 := Lib.hid hb; clear ho hb)
      go_roundw
      case rel =>
        have e : xs ++ (be m x).take (m - (j + 1)) ++ [UInt8.ofNat (x / 2 ^ (8 * j))] = xs ++ (be m x).take (m - j) := by rw [List.append_assoc, be_take x m j (by omega)]
        exact ⟨j, by omega, rfl, e ▸ HO1.out, HB.out.trans HB1.out⟩
      case measure => simp [intOf]
theorem bits8_u8 (h : Sl kU8 ok w (.slice A n c) xs) (x : Int) (hx0 : 0 ≤ x) (hx : x < 18446744073709551616) (hn : n ≤ 1099511627776) :
    Calls Try.prog 54 #[.slice A n c, .int .u64 x, .int .i64 8] w (RetOwn kU8 5 ok w (xs ++ be 8 x.toNat)) := by
  obtain ⟨x, rfl⟩ := Int.eq_ofNat_of_zero_le hx0
  exact bits_u8 h x (by omega) 8 (by omega) hn
theorem bits4_u8 (h : Sl kU8 ok w (.slice A n c) xs) (x : Int) (hx0 : 0 ≤ x) (hx : x < 18446744073709551616) (hn : n ≤ 1099511627776) :
    Calls Try.prog 54 #[.slice A n c, .int .u64 x, .int .i64 4] w (RetOwn kU8 5 ok w (xs ++ be 4 x.toNat)) := by
  obtain ⟨x, rfl⟩ := Int.eq_ofNat_of_zero_le hx0
  exact bits_u8 h x (by omega) 4 (by omega) hn
theorem intRef_c (h : Sl kU8 ok w (.slice A n c) xs) (x : Int) (hx0 : -9223372036854775808 ≤ x) (hx : x ≤ 9223372036854775807) (hn : n ≤ 1099511627776) :
    Calls Try.prog 49 #[.slice A n c, .int .i64 x] w (RetOwn kU8 5 ok w (xs ++ bInt x)) := by
  have H := Lib.hid h
  clear h
  go_enter Try.func49, Try.ntmps49
  go_wp2_with (go_at_call 54; refine (bits8_u8 H.out _ (by rw [IntKind.wrap_u64]; omega) (by rw [IntKind.wrap_u64]; omega) hn).mono ?_; rintro e w' ⟨v, rfl, ho⟩; rw [IntKind.wrap_u64] at ho; have HO := Lib.hid ho; clear ho)
  go_ret
  exact ⟨v, rfl, HO.out⟩
theorem countRef_c (h : Sl kU8 ok w (.slice A n c) xs) (x : Nat) (hx : x ≤ 4294967295) (hn : n ≤ 1099511627776) :
    Calls Try.prog 50 #[.slice A n c, .int .i64 (x : Int)] w (RetOwn kU8 5 ok w (xs ++ bCount x)) := by
  have H := Lib.hid h
  clear h
  have hx' : (x : Int) ≤ 4294967295 := by omega
  rcases Nat.eq_zero_or_pos x with rfl | hp
  · go_enter Try.func50, Try.ntmps50
    go_wp2_with (go_at_call 54; refine (bits4_u8 H.out _ (by omega) (by omega) hn).mono ?_; rintro e w' ⟨v, rfl, ho⟩; have HO := Lib.hid ho; clear ho)
    go_ret
    exact ⟨v, rfl, HO.out⟩
  · have hp' : (0 : Int) < x := by omega
    go_enter Try.func50, Try.ntmps50
    go_wp2_with (go_at_call 54; refine (bits4_u8 H.out _ (by omega) (by omega) hn).mono ?_; rintro e w' ⟨v, rfl, ho⟩; have HO := Lib.hid ho; clear ho)
    go_ret
    exact ⟨v, rfl, HO.out⟩
theorem bytesRef_c (h : Sl kU8 ok w (.slice A n c) xs) {ok2 : Nat → Prop} (h2 : Sl kU8 ok2 w (.slice B n' c') ys) (hn : n ≤ 549755813888) (hn' : n' ≤ 4294967295) :
    Calls Try.prog 48 #[.slice A n c, .slice B n' c'] w (RetOwn kU8 5 ok w (xs ++ bBytes ys)) := by
  have H := Lib.hid h
  have H2 := Lib.hid h2
  have hl := h.len.1
  have hl2 := h2.len.1
  have hc' := h2.len.2.1
  have HL := Lib.hid (show (xs ++ bCount n').length + ys.length ≤ 140737488355328 by rw [List.length_append, bCount_len]; omega)
  have HL2 := Lib.hid hl2
  have HCt := Lib.hid (countRef_c h n' (by omega) (by omega))
  clear h h2 hl hl2
  go_enter Try.func48, Try.ntmps48
  go_wp2_with fail
  refine HCt.out.mono ?_
  rintro e w' ⟨v, rfl, ho, hb⟩
  have HO := Lib.hid ho
  have HB := Lib.hid hb
  clear ho hb HCt
  go_wp2_with (at_builtin; refine at_append rfl (.tmp 10) (.tmp 11) 23 23 rfl rfl rfl (run_append_own_sl Try.underlying23 Try.underlying23 infoU8 rfl HO.out HB.out.size (H2.out.below HB.out) (by have := HL.out; omega) HL.out) ?_; rintro v' w'' ⟨ho2, hb2⟩; have HO2 := Lib.hid ho2; have HB2 := Lib.hid (HB.out.trans hb2); clear ho2 hb2)
  go_ret
  refine ⟨v', rfl, ?_, HB2.out⟩
  have e : xs ++ bBytes ys = xs ++ bCount n' ++ ys := by rw [bBytes, HL2.out, List.append_assoc]
  rw [e]
  exact HO2.out
end
end Go.Proofs.Ytplpmhlakiikgaa
