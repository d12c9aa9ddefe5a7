/- Bytes put: truths, floats, texts, values. -/
import Derived.Test.YtjnhgfmjehaalaaC17

namespace Go.Proofs.Ytjnhgfmjehaalaa
open Go.RowKit
set_option linter.unusedVariables false
set_option linter.unusedSimpArgs false
/-- '[]byte(s)' -/
theorem conv_sb {P : Program} {ok : Nat → Prop} (w : World) (src dst e : TypeId) (l : List UInt8) (hs : P.underlying src = some .string) (hd : P.underlying dst = some (.slice e)) (he : P.underlying e = some (.int .u8)) (hok : ∀ k, w.heap.size ≤ k → ok k) (hl : l.length ≤ 274877906944) :
    ∃ A c w', (convert src dst (.string ⟨l.toArray⟩)).run P w = .ok (.slice A l.length c) w' ∧ Sl kU8 ok w' (.slice A l.length c) l ∧ Below w.heap.size w w' := by
  have hz : (⟨l.toArray⟩ : ByteArray).size = l.length := by show l.toArray.size = _; simp
  have hr := run_bytes_of_string (P := P) w src dst e ⟨l.toArray⟩ hs hd he
  rw [hz] at hr
  have hcap := grownCap_le w l.length 0 e (by omega)
  generalize grownCap w l.length 0 e = cap at *
  refine ⟨_, _, _, hr, ⟨_, _, _, rfl, rfl, hcap.1, hcap.2, fun h => (nomatch h), fun i x hi => ⟨⟨w.heap.size, 0, none⟩, [.int .u8 (x.toNat : Int)], rfl, hok _ (Nat.le_refl _), rfl, fun j u hj => ?_⟩⟩, ?_⟩
  · have hi' := List.getElem?_eq_some_iff.1 hi
    obtain ⟨hi', hx⟩ := hi'
    match j, hj with
    | 0, hj =>
      have hj : Value.int .u8 (x.toNat : Int) = u := by simpa using hj
      subst hj
      have h0 : (w.drew.alloc (.cells (bytesRow ⟨l.toArray⟩ cap) e ((bytesRow ⟨l.toArray⟩ cap).size, (bytesRow ⟨l.toArray⟩ cap).size + 1))).heap[w.heap.size]? = some (.cells (bytesRow ⟨l.toArray⟩ cap) e ((bytesRow ⟨l.toArray⟩ cap).size, (bytesRow ⟨l.toArray⟩ cap).size + 1)) := heap_new w.drew _
      have h1 : ((⟨w.heap.size, 0, none⟩ : Addr).add (i * kU8.sz + 0)) = ⟨w.heap.size, i, none⟩ := by
        show Addr.add _ (i * 1 + 0) = _
        unfold Addr.add
        by_cases h : i = 0 <;> simp [h]
      rw [h1, cell_of h0]
      unfold bytesRow
      rw [Array.getElem?_append_left (by simpa using hi')]
      simp [hi', hx]
    | j + 1, hj => simp at hj
  · exact ((Below.refl _ w).drew).alloc (Nat.le_refl _) _
section
variable {w : World}
theorem number6_c {ok : Nat → Prop} {xs : List UInt8} {A : Option Addr} {n c : Nat} (h : Sl kU8 ok w (.slice A n c) xs) (x : Int) (hx : i64 x) (hn : n ≤ 1099511627776) :
    Calls Try.prog 57 #[.slice A n c, .int .i64 x] w (RetOwn kU8 5 ok w (xs ++ bInt x)) := by
  have H := Lib.hid (putInt_c h x hx.1 hx.2 hn)
  clear h
  go_enter Try.func57, Try.ntmps57
  go_wp2_with fail
  refine H.out.mono ?_
  rintro x9 w1 ⟨v, rfl, ho⟩
  have HO := Lib.hid ho
  clear ho
  go_wp2_with fail
  go_ret
  exact ⟨v, rfl, HO.out⟩
theorem putBool_c {ok : Nat → Prop} {xs : List UInt8} {A : Option Addr} {n c : Nat} (h : Sl kU8 ok w (.slice A n c) xs) (b : Bool) (hn : n ≤ 1099511627776) :
    Calls Try.prog 81 #[.slice A n c, .bool b] w (RetOwn kU8 5 ok w (xs ++ [if b then 1 else 0])) := by
  have HC := Lib.hid (clip_u8 h)
  have hl := h.len.1
  have H := Lib.hid (show Clp kU8 5 ok w w.heap.size (.slice A n n) xs from .inl ⟨A, n, rfl, h.clip⟩)
  have HL := Lib.hid hl
  clear h hl
  cases b
  all_goals
    go_enter Try.func81, Try.ntmps81
    go_wp2_with fail
    refine HC.out.mono ?_
    rintro x9 w1 ⟨rfl, rfl⟩
  · go_wp2_with (at_builtin; refine at_append rfl (.tmp 8) (.tmp 10) 63 63 rfl rfl rfl (run_append_clp1 Try.underlying63 Try.underlying63 infoU8 rfl H.out (Nat.le_refl _) (0 : UInt8) (by have := HL.out; omega) (by have := HL.out; omega)) ?_; rintro v' w' ⟨ho, hb⟩; have HO := Lib.hid ho; have HB := Lib.hid hb; clear ho hb)
    go_ret
    exact ⟨_, rfl, HO.out, HB.out⟩
  · go_wp2_with (at_builtin; refine at_append rfl (.tmp 8) (.tmp 10) 63 63 rfl rfl rfl (run_append_clp1 Try.underlying63 Try.underlying63 infoU8 rfl H.out (Nat.le_refl _) (1 : UInt8) (by have := HL.out; omega) (by have := HL.out; omega)) ?_; rintro v' w' ⟨ho, hb⟩; have HO := Lib.hid ho; have HB := Lib.hid hb; clear ho hb)
    go_ret
    exact ⟨_, rfl, HO.out, HB.out⟩
theorem putNum_c {ok : Nat → Prop} {xs : List UInt8} {A : Option Addr} {n c : Nat} (h : Sl kU8 ok w (.slice A n c) xs) (x : Nat) (hx : x < 18446744073709551616) (hn : n ≤ 1099511627776) :
    Calls Try.prog 82 #[.slice A n c, .float .f64 x] w (RetOwn kU8 5 ok w (xs ++ be 8 (codeB x))) := by
  have FB := f64bits_run
  have E := Lib.hid (show codeB x = if nanB x then 9221120237041090561 else x from rfl)
  have H := Lib.hid h
  clear h
  cases hnb : nanB x
  · have H1 := Lib.hid (show Calls Try.prog 93 #[.slice A n c, .int .u64 (x : Int), .int .i64 8] w (RetOwn kU8 5 ok w (xs ++ be 8 (codeB x))) by
      have h1 := spell8_u8 H.out (x : Int) (by omega) (by omega) hn
      rw [E.out, hnb]
      exact h1)
    go_enter Try.func82, Try.ntmps82
    go_wp2_with (go_at_call 96; refine (isNaN_c x).mono ?_; rintro e w' ⟨rfl, rfl⟩; rw [hnb])
    refine H1.out.mono ?_
    rintro x9 w1 ⟨v, rfl, ho⟩
    have HO := Lib.hid ho
    clear ho
    go_wp2_with fail
    go_ret
    exact ⟨v, rfl, HO.out⟩
  · have H1 := Lib.hid (show Calls Try.prog 93 #[.slice A n c, .int .u64 9221120237041090561, .int .i64 8] w (RetOwn kU8 5 ok w (xs ++ be 8 (codeB x))) by
      have h1 := spell8_u8 H.out 9221120237041090561 (by omega) (by omega) hn
      rw [E.out, hnb]
      exact h1)
    go_enter Try.func82, Try.ntmps82
    go_wp2_with (go_at_call 96; refine (isNaN_c x).mono ?_; rintro e w' ⟨rfl, rfl⟩; rw [hnb])
    refine H1.out.mono ?_
    rintro x9 w1 ⟨v, rfl, ho⟩
    have HO := Lib.hid ho
    clear ho
    go_wp2_with fail
    go_ret
    exact ⟨v, rfl, HO.out⟩
end
end Go.Proofs.Ytjnhgfmjehaalaa
