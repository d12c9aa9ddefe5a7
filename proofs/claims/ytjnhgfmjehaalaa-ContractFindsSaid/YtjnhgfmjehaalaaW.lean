/- Package wire, walked: numbers and rows of bytes as bytes. -/
import Derived.Test.YtjnhgfmjehaalaaProg
import Derived.Test.YtjnhgfmjehaalaaK
import Derived.Handy
import Derived.BigRegion
import Derived.Deep.RegionHeld3
import Derived.Deep.QuietTactic
import Derived.BigQuiet
namespace Go.Proofs.Ytjnhgfmjehaalaa
open Go.RowKit
set_option linter.unusedVariables false

theorem infoU8 : (Try.prog.info? 5).map (fun i => (i.zero, i.size, i.bytes)) = some (some (.int .u8 0), 1, 1) := by kernel_rfl

theorem clip_u8 {xs : List UInt8} {ok : Nat → Prop} {w : World} {A : Option Addr} {n c : Nat} (h : Sl kU8 ok w (.slice A n c) xs) :
    Calls Try.prog 94 #[.slice A n c] w fun e w' => e = .returned (.slice A n n) ∧ w = w' := by
  obtain ⟨hl, hn, hc, hA⟩ := h.len
  clear h hl
  go_enter Try.func94, Try.ntmps94
  go_wp2
  go_ret
  exact ⟨rfl, rfl⟩

/-- the last so many bytes of a number, the highest first -/
def be : Nat → Nat → List UInt8
  | 0, _ => []
  | k + 1, n => UInt8.ofNat (n / 2 ^ (8 * k)) :: be k n
theorem be_len : ∀ k n, (be k n).length = k
  | 0, _ => rfl
  | k + 1, n => by rw [be, List.length_cons, be_len]
theorem be_take (x : Nat) : ∀ m j, j < m → (be m x).take (m - j) = (be m x).take (m - (j + 1)) ++ [UInt8.ofNat (x / 2 ^ (8 * j))]
  | 0, j, h => by omega
  | m + 1, j, h => by
    by_cases e : j = m
    · subst e
      simp [be, show j + 1 - j = 1 by omega]
    · have := be_take x m j (by omega)
      rw [show m + 1 - j = (m - j) + 1 by omega, show m + 1 - (j + 1) = (m - (j + 1)) + 1 by omega, be, List.take_succ_cons, List.take_succ_cons, this]
      simp
theorem kU8_def : kU8 = scalar (fun x => .int .u8 (x.toNat : Int)) fun _ => rfl := rfl

theorem spell_u8 {xs : List UInt8} {ok : Nat → Prop} {w : World} {A : Option Addr} {n c : Nat} (h : Sl kU8 ok w (.slice A n c) xs) (x : Nat) (hx : x < 18446744073709551616) (m : Nat) (hm0 : 0 < m) (hm : m ≤ 8) (hn : n ≤ 1099511627776) :
    Calls Try.prog 93 #[.slice A n c, .int .u64 (x : Int), .int .i64 (m : Int)] w (RetOwn kU8 5 ok w (xs ++ be m x)) := by
  have H := Lib.hid h
  have hl := h.len.1
  clear h
  go_enter Try.func93, Try.ntmps93
  go_wp2_with (go_at_call 94; refine (clip_u8 H.out).mono ?_; rintro e w' ⟨rfl, rfl⟩)
  have HL := Lib.hid hl
  clear hl
  go_loopw [0, 2] (fun vb vm wr => ∃ k : Nat, k ≤ m ∧ vm = .int .i64 k ∧ (0 < k ∨ Own kU8 5 ok wr w.heap.size vb (xs ++ be m x)) ∧ Clp kU8 5 ok wr w.heap.size vb (xs ++ (be m x).take (m - k)) ∧ Below w.heap.size w wr) (fun _ vm _ => (intOf vm).toNat)
  case atStart => exact ⟨m, Nat.le_refl _, rfl, .inl hm0, .inl ⟨A, n, rfl, by rw [Nat.sub_self, List.take_zero, List.append_nil]; exact H.out.clip⟩, Below.refl _ _⟩
  case round =>
    obtain ⟨k, hk, rfl, h00, hc, hb⟩ := hrel
    have HO := Lib.hid h00
    have HC := Lib.hid hc
    have HB := Lib.hid hb
    clear h00 hc hb
    rcases Nat.eq_zero_or_pos k with rfl | hpos
    · go_wp2_with fail
      go_ret
      exact ⟨_, rfl, HO.out.resolve_left (Nat.lt_irrefl 0), HB.out⟩
    · obtain ⟨j, rfl⟩ : ∃ j, k = j + 1 := ⟨k - 1, by omega⟩
      have hjm : (j : Int) + 1 ≤ 8 := by omega
      go_wp2_with (at_builtin; refine at_append rfl (.tmp 13) (.tmp 19) 63 63 rfl rfl rfl (run_append_clp1 Try.underlying63 Try.underlying63 infoU8 rfl HC.out HB.out.size (UInt8.ofNat (x / 2 ^ (8 * j))) (by rw [List.length_append, List.length_take, be_len, HL.out]; omega) (by rw [List.length_append, List.length_take, be_len, HL.out]; omega)) ?_; rintro v' w' ⟨ho, hb⟩; have HO1 := Lib.hid ho; have HB1 := Lib.hid hb; clear ho hb)
      go_roundw
      case rel =>
        have e : xs ++ (be m x).take (m - (j + 1)) ++ [UInt8.ofNat (x / 2 ^ (8 * j))] = xs ++ (be m x).take (m - j) := by rw [List.append_assoc, be_take x m j (by omega)]
        refine ⟨j, by omega, rfl, ?_, .inr (e ▸ HO1.out), HB.out.trans HB1.out⟩
        rcases Nat.eq_zero_or_pos j with rfl | hj
        · right
          have := HO1.out
          rw [e, Nat.sub_zero, List.take_of_length_le (by rw [be_len]; exact Nat.le_refl _)] at this
          exact this
        · exact .inl hj
      case measure => simp [intOf]
theorem spell8_u8 {xs : List UInt8} {ok : Nat → Prop} {w : World} {A : Option Addr} {n c : Nat} (h : Sl kU8 ok w (.slice A n c) xs) (x : Int) (hx0 : 0 ≤ x) (hx : x < 18446744073709551616) (hn : n ≤ 1099511627776) :
    Calls Try.prog 93 #[.slice A n c, .int .u64 x, .int .i64 8] w (RetOwn kU8 5 ok w (xs ++ be 8 x.toNat)) := by
  obtain ⟨x, rfl⟩ := Int.eq_ofNat_of_zero_le hx0
  exact spell_u8 h x (by omega) 8 (by omega) (by omega) hn
theorem spell4_u8 {xs : List UInt8} {ok : Nat → Prop} {w : World} {A : Option Addr} {n c : Nat} (h : Sl kU8 ok w (.slice A n c) xs) (x : Int) (hx0 : 0 ≤ x) (hx : x < 18446744073709551616) (hn : n ≤ 1099511627776) :
    Calls Try.prog 93 #[.slice A n c, .int .u64 x, .int .i64 4] w (RetOwn kU8 5 ok w (xs ++ be 4 x.toNat)) := by
  obtain ⟨x, rfl⟩ := Int.eq_ofNat_of_zero_le hx0
  exact spell_u8 h x (by omega) 4 (by omega) (by omega) hn
/-- an int as bytes; a count as bytes; a row of bytes as bytes -/
def bInt (n : Int) : List UInt8 := be 8 (n % 18446744073709551616).toNat
def bCount (n : Nat) : List UInt8 := be 4 n
def bBytes (x : List UInt8) : List UInt8 := bCount x.length ++ x
theorem bInt_len (n : Int) : (bInt n).length = 8 := be_len _ _
theorem bCount_len (n : Nat) : (bCount n).length = 4 := be_len _ _
theorem bBytes_len (x : List UInt8) : (bBytes x).length = x.length + 4 := by unfold bBytes; rw [List.length_append, bCount_len]; omega
section
variable {xs ys : List UInt8} {ok : Nat → Prop} {w : World} {A B : Option Addr} {n c n' c' : Nat}
theorem putInt_c (h : Sl kU8 ok w (.slice A n c) xs) (x : Int) (hx0 : -9223372036854775808 ≤ x) (hx : x ≤ 9223372036854775807) (hn : n ≤ 1099511627776) :
    Calls Try.prog 80 #[.slice A n c, .int .i64 x] w (RetOwn kU8 5 ok w (xs ++ bInt x)) := by
  have H := Lib.hid h
  clear h
  go_enter Try.func80, Try.ntmps80
  go_wp2_with (go_at_call 93; refine (spell8_u8 H.out _ (by rw [IntKind.wrap_u64]; omega) (by rw [IntKind.wrap_u64]; omega) hn).mono ?_; rintro e w' ⟨v, rfl, ho⟩; rw [IntKind.wrap_u64] at ho; have HO := Lib.hid ho; clear ho)
  go_ret
  exact ⟨v, rfl, HO.out⟩
theorem putCount_c (h : Sl kU8 ok w (.slice A n c) xs) (x : Nat) (hx : x ≤ 4294967295) (hn : n ≤ 1099511627776) :
    Calls Try.prog 78 #[.slice A n c, .int .i64 (x : Int)] w (RetOwn kU8 5 ok w (xs ++ bCount x)) := by
  have H := Lib.hid h
  clear h
  have hx' : (x : Int) ≤ 4294967295 := by omega
  have hx0 : (0 : Int) ≤ x := by omega
  go_enter Try.func78, Try.ntmps78
  go_wp2_with (go_at_call 93; refine (spell4_u8 H.out _ (by omega) (by omega) hn).mono ?_; rintro e w' ⟨v, rfl, ho⟩; have HO := Lib.hid ho; clear ho)
  go_ret
  exact ⟨v, rfl, HO.out⟩
theorem putBytes_c (h : Sl kU8 ok w (.slice A n c) xs) {ok2 : Nat → Prop} (h2 : Sl kU8 ok2 w (.slice B n' c') ys) (hn : n ≤ 549755813888) (hn' : n' ≤ 4294967295) :
    Calls Try.prog 79 #[.slice A n c, .slice B n' c'] w (RetOwn kU8 5 ok w (xs ++ bBytes ys)) := by
  have H := Lib.hid h
  have H2 := Lib.hid h2
  have hl := h.len.1
  have hl2 := h2.len.1
  have hc' := h2.len.2.1
  have HL := Lib.hid (show (xs ++ bCount n').length + ys.length ≤ 140737488355328 by rw [List.length_append, bCount_len]; omega)
  have HL2 := Lib.hid hl2
  clear h h2 hl hl2
  go_enter Try.func79, Try.ntmps79
  go_wp2_with (first
    | (go_at_call 78; refine (putCount_c H.out n' (by omega) (by omega)).mono ?_; rintro e w' ⟨v, rfl, ho, hb⟩; have HO := Lib.hid ho; have HB := Lib.hid hb; clear ho hb)
    | (at_builtin; refine at_append rfl (.tmp 8) (.tmp 9) 63 63 rfl rfl rfl (run_append_own_sl Try.underlying63 Try.underlying63 infoU8 rfl HO.out HB.out.size (H2.out.below HB.out) (by have := HL.out; omega) HL.out) ?_; rintro v' w'' ⟨ho2, hb2⟩; have HO2 := Lib.hid ho2; have HB2 := Lib.hid (HB.out.trans hb2); clear ho2 hb2))
  go_ret
  refine ⟨v', rfl, ?_, HB2.out⟩
  have e : xs ++ bBytes ys = xs ++ bCount n' ++ ys := by rw [bBytes, HL2.out, List.append_assoc]
  rw [e]
  exact HO2.out
theorem own_empty (w : World) (ok : Nat → Prop) (t : TypeId) : Own kU8 t ok (w.alloc (.cells #[] t)) w.heap.size (.slice (some ⟨w.heap.size, 0, none⟩) 0 0) [] :=
  ⟨[], ⟨rfl, .inr ⟨w.heap.size, 0, #[], rfl, Nat.le_refl _, heap_new _ _, Nat.le_refl _, Nat.zero_le _, rfl, rfl⟩⟩, rfl⟩
theorem clone_u8 (h : Sl kU8 ok w (.slice A n c) xs) (hn : n ≤ 1099511627776) :
    Calls Try.prog 52 #[.slice A n c] w (RetOwn kU8 5 ok w xs) := by
  have H := Lib.hid h
  obtain ⟨hl, hnc, hc, hA⟩ := h.len
  have HL := Lib.hid hl
  clear h hl
  cases A with
  | none =>
    have hn0 : n = 0 := by have := hA rfl; omega
    subst hn0
    have hx : xs = [] := List.eq_nil_of_length_eq_zero HL.out
    subst hx
    have hq := fun W : World => Lib.run_eql_slice_nil (P := Try.prog) W 63 5 none 0 c 0 0 Try.underlying63
    clear hA
    go_enter Try.func52, Try.ntmps52
    go_wp2
    go_ret
    exact ⟨_, rfl, Own.nil _ _ _ _ _, Below.refl _ _⟩
  | some a =>
    have hq := fun W : World => Lib.run_eql_slice_nil (P := Try.prog) W 63 5 (some a) n c 0 0 Try.underlying63
    have B0 := Lib.hid (show Below w.heap.size w (w.alloc (.cells #[] 5)) from (Below.refl _ _).alloc (Nat.le_refl _) _)
    clear hA
    go_enter Try.func52, Try.ntmps52
    go_wp2_with (at_builtin; refine at_append rfl (.tmp 5) (.tmp 6) 63 63 rfl rfl rfl (run_append_own_sl Try.underlying63 Try.underlying63 infoU8 rfl (own_empty w ok 5) B0.out.size (H.out.below B0.out) (by rw [HL.out]; simp; omega) (by rw [HL.out]; simp; omega)) ?_; rintro v' w'' ⟨ho2, hb2⟩; have HO2 := Lib.hid ho2; have HB2 := Lib.hid (B0.out.trans hb2); clear ho2 hb2)
    go_ret
    exact ⟨v', rfl, HO2.out, HB2.out⟩
end

/-- bytes as a number, the highest first -/
def num (l : List UInt8) : Nat := l.foldl (fun n x => n * 256 + x.toNat) 0
theorem num_snoc (l : List UInt8) (x : UInt8) : num (l ++ [x]) = num l * 256 + x.toNat := by simp [num]
theorem num_lt (l : List UInt8) : num l < 256 ^ l.length := by
  have gen : ∀ (l : List UInt8) (a : Nat), l.foldl (fun n x => n * 256 + x.toNat) a < (a + 1) * 256 ^ l.length := by
    intro l
    induction l with
    | nil => intro a; simp
    | cons x l ih =>
      intro a
      have h := ih (a * 256 + x.toNat)
      have hx := x.toNat_lt
      rw [List.foldl_cons, List.length_cons, Nat.pow_succ]
      refine Nat.lt_of_lt_of_le h ?_
      rw [Nat.mul_comm (256 ^ l.length) 256, ← Nat.mul_assoc]
      exact Nat.mul_le_mul_right _ (by omega)
  have := gen l 0
  simpa [num] using this
theorem or_byte (a x : Nat) (ha : a < 72057594037927936) (hx : x < 256) : Go.bits .or .u64 ((a : Int) * 256) (x : Int) = (a : Int) * 256 + x := by
  rw [Go.u64_or _ _ (by omega) (by omega) (by omega) (by omega)]
  have h := Nat.two_pow_add_eq_or_of_lt (i := 8) (by omega : x < 2 ^ 8) a
  have e1 : ((a : Int) * 256).toNat = 2 ^ 8 * a := by omega
  have e2 : (x : Int).toNat = x := by omega
  rw [e1, e2, ← h]
  omega
end Go.Proofs.Ytjnhgfmjehaalaa
