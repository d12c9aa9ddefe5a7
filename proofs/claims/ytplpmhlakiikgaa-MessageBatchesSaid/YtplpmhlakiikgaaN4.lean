/- The laws' examples, walked: awake. -/
import Derived.Test.YtplpmhlakiikgaaM9
import Derived.Test.YtplpmhlakiikgaaN2
import Derived.Test.YtplpmhlakiikgaaN3
namespace Go.Proofs.Ytplpmhlakiikgaa
open Go.RowKit
set_option linter.unusedVariables false
def ms (k v s : Int) : Msg := ⟨k, v, s, 0, 0, [], [], 0, 0, [], [], []⟩
theorem ms_mk (ok : Nat → Prop) (w : World) (k v s : Int) : kMsg.R ok w [.int .i64 k, .int .i64 v, .int .i64 s, .int .i64 0, .int .i64 0, .string ⟨#[]⟩, .slice none 0 0, .int .i64 0, .int .i64 0, .slice none 0 0, .slice none 0 0, .slice none 0 0] (ms k v s) :=
  msg_mk (m := ms k v s) (Sl.nil _ _ _) (Sl.nil _ _ _) (Sl.nil _ _ _) (Sl.nil _ _ _)
theorem ms_ok (k v s : Int) (hk : i64 k) (hv : i64 v) (hs : i64 s) : MsgOk (ms k v s) := by
  have z : i64 0 := by unfold i64; omega
  exact ⟨hk, hv, hs, z, z, z, z, by simp [ms], by simp [ms], by simp [ms], by simp [ms], by simp [ms]⟩
theorem chk_ms1 : errOf (chk (ms 3 0 0)) = 120 := by decide
theorem chk_ms2 : errOf (chk (ms 9 1 0)) = 120 := by decide
theorem enc_ms : (enc (ms 9 0 3)).length = 16 := by decide
theorem dec_nil : dec [] = (msg0 0, 12) := by decide
theorem flTo_ms_le (a k v s : Int) : (encTo a (ms k v s) 9).length ≤ 137438953472 := by
  have h : ∀ (b : Bool) (l : List UInt8), (if b then l else []).length ≤ l.length := fun b l => by cases b <;> simp
  simp only [encTo, List.length_append]
  have h0 := h (had a (fv 0)) (fld (ms k v s) 0)
  have h1 := h (had a (fv 1)) (fld (ms k v s) 1)
  have h2 := h (had a (fv 2)) (fld (ms k v s) 2)
  have h3 := h (had a (fv 3)) (fld (ms k v s) 3)
  have h4 := h (had a (fv 4)) (fld (ms k v s) 4)
  have h5 := h (had a (fv 5)) (fld (ms k v s) 5)
  have h6 := h (had a (fv 6)) (fld (ms k v s) 6)
  have h7 := h (had a (fv 7)) (fld (ms k v s) 7)
  have h8 := h (had a (fv 8)) (fld (ms k v s) 8)
  simp only [fld, List.length_append, bInt_len, bBytes_len, bCount_len, encL, encEs, encCs, ms, List.flatMap_nil, List.length_nil] at *
  omega
section
variable {w : World}
set_option maxHeartbeats 4000000 in
theorem awake_c : Calls Try.prog 14 #[] w (Ret w (.bool true)) := by
  have HD := Lib.hid (decode_c (ok := fun _ => True) (w := w) (Sl.nil kU8 _ w) (by decide))
  have HE := Lib.hid (show ∀ W, Calls Try.prog 9 #[.agg #[.int .i64 9, .int .i64 0, .int .i64 3, .int .i64 0, .int .i64 0, .string ⟨#[]⟩, .slice none 0 0, .int .i64 0, .int .i64 0, .slice none 0 0, .slice none 0 0, .slice none 0 0]] W (RetOwn kU8 5 (fun _ => True) W (enc (ms 9 0 3))) from
    fun W => encode_c (ms_mk (fun _ => True) W 9 0 3) (fun _ _ => trivial) (ms_ok _ _ _ (by unfold i64; omega) (by unfold i64; omega) (by unfold i64; omega)) (fun a => flTo_ms_le a 9 0 3))
  have HC1 := Lib.hid (show ∀ W, Calls Try.prog 10 #[.agg #[.int .i64 3, .int .i64 0, .int .i64 0, .int .i64 0, .int .i64 0, .string ⟨#[]⟩, .slice none 0 0, .int .i64 0, .int .i64 0, .slice none 0 0, .slice none 0 0, .slice none 0 0]] W (Ret W (.int .i64 120)) from
    fun W => chk_ms1 ▸ check_c (ms_mk (fun _ => True) W 3 0 0))
  have HC2 := Lib.hid (show ∀ W, Calls Try.prog 10 #[.agg #[.int .i64 9, .int .i64 1, .int .i64 0, .int .i64 0, .int .i64 0, .string ⟨#[]⟩, .slice none 0 0, .int .i64 0, .int .i64 0, .slice none 0 0, .slice none 0 0, .slice none 0 0]] W (Ret W (.int .i64 120)) from
    fun W => chk_ms2 ▸ check_c (ms_mk (fun _ => True) W 9 1 0))
  go_enter Try.func14, Try.ntmps14
  go_wp2_with fail
  refine HD.out.mono ?_
  rintro e w1 ⟨cs, rfl, hm, hb⟩
  rw [dec_nil]
  have B1 := Lib.hid hb
  generalize (dec []).1 = m at hm
  obtain ⟨A1, c1, A2, c2, A3, c3, A4, c4, rfl, -⟩ := msg_open hm
  clear hb hm HD
  go_wp2_with fail
  refine (HE.out _).mono ?_
  rintro e w2 ⟨v, rfl, ho, hb⟩
  obtain ⟨A, n, c, rfl, hn⟩ := ho.form'
  rw [enc_ms] at hn
  subst hn
  have B2 := Lib.hid (show Below w.heap.size w w2 from below_self B1.out (below_self (by go_grown) hb))
  clear hb ho HE B1
  go_wp2_with fail
  refine (HC1.out _).mono ?_
  rintro e w3 ⟨rfl, hb⟩
  have B3 := Lib.hid (below_self B2.out hb)
  clear hb B2
  go_wp2_with fail
  refine (HC2.out _).mono ?_
  rintro e w4 ⟨rfl, hb⟩
  have B4 := Lib.hid (below_self B3.out hb)
  clear hb B3
  go_wp2_with fail
  go_ret
  exact ⟨rfl, B4.out⟩
end
end Go.Proofs.Ytplpmhlakiikgaa
