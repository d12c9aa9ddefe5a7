/- Package message, walked: envelopes and lists of them as bytes. -/
import Derived.Test.YtplpmhlakiikgaaM3
namespace Go.Proofs.Ytplpmhlakiikgaa
open Go.RowKit
set_option linter.unusedVariables false
/-- an envelope, envelopes, certificates as bytes -/
def encE (e : Env) : List UInt8 := bInt e.signer ++ bBytes e.body
def encEs (l : List Env) : List UInt8 := l.flatMap encE
def encL (l : List Env) : List UInt8 := bCount l.length ++ encEs l
theorem encE_len (e : Env) : (encE e).length = e.body.length + 12 := by rw [encE, List.length_append, bInt_len, bBytes_len]; omega
def i64 (x : Int) : Prop := -9223372036854775808 ≤ x ∧ x ≤ 9223372036854775807
/-- an envelope that can be put -/
def EnvOk (e : Env) : Prop := i64 e.signer ∧ e.body.length ≤ 4294967295
section
variable {ok : Nat → Prop} {w : World} {A : Option Addr} {n c : Nat} {xs : List UInt8}
theorem putEnvelope_c (h : Sl kU8 ok w (.slice A n c) xs) (hok : ∀ k, w.heap.size ≤ k → ok k) {cs : List Value} {e : Env} (he : kEnv.R ok w cs e) (hn : n ≤ 274877906944) (ho : EnvOk e) :
    Calls Try.prog 24 #[.slice A n c, .agg cs.toArray] w (RetOwn kU8 5 ok w (xs ++ encE e)) := by
  obtain ⟨B, d, rfl, hB⟩ := env_open he
  have H := Lib.hid h
  have HB := Lib.hid hB
  have hl := h.len.1
  have HL := Lib.hid hl
  obtain ⟨⟨o1, o2⟩, o3⟩ := ho
  have W0 := Lib.hid (show Below w.heap.size w (w.alloc (.cells #[.int .i64 e.signer, .slice B e.body.length d] 45)) from (Below.refl _ _).alloc (Nat.le_refl _) _)
  clear h he hB hl
  go_enter Try.func24, Try.ntmps24
  go_wp2
  have hz : w.heap.size ≤ (w.alloc (.cells #[.int .i64 e.signer, .slice B e.body.length d] 45)).heap.size := by simp
  have hz : w.heap.size ≤ (w.alloc (.cells #[.int .i64 e.signer, .slice B e.body.length d] 45)).heap.size := by simp
  have KK := Lib.hid (show ∀ W : World, Below (w.alloc (.cells #[.int .i64 e.signer, .slice B e.body.length d] 45)).heap.size (w.alloc (.cells #[.int .i64 e.signer, .slice B e.body.length d] 45)) W → W.cell? ⟨w.heap.size, 0, none⟩ = some (.int .i64 e.signer) ∧ W.cell? ⟨w.heap.size, 1, none⟩ = some (.slice B e.body.length d) from
    fun W hW => ⟨(hW.cell (p := ⟨w.heap.size, 0, none⟩) (by simp)).trans (cell_of (heap_new _ _) 0), (hW.cell (p := ⟨w.heap.size, 1, none⟩) (by simp)).trans (cell_of (heap_new _ _) 1)⟩)
  have P1 := Lib.hid (putInt_c (w := (w.alloc (.cells #[.int .i64 e.signer, .slice B e.body.length d] 45)).drew) (H.out.below W0.out.drew) e.signer o1 o2 (by omega))
  have P2 := Lib.hid (show ∀ (w1 : World) (A1 : Option Addr) (n1 d1 : Nat), n1 = (xs ++ bInt e.signer).length → Own kU8 5 ok w1 (w.alloc (.cells #[.int .i64 e.signer, .slice B e.body.length d] 45)).heap.size (.slice A1 n1 d1) (xs ++ bInt e.signer) → Below (w.alloc (.cells #[.int .i64 e.signer, .slice B e.body.length d] 45)).heap.size (w.alloc (.cells #[.int .i64 e.signer, .slice B e.body.length d] 45)) w1 → Calls Try.prog 21 #[.slice A1 n1 d1, .slice B e.body.length d] w1 (RetOwn kU8 5 ok w1 (xs ++ bInt e.signer ++ bBytes e.body)) from
    fun w1 A1 n1 d1 hn1 ho hb => putBytes_c (ho.sl fun k hk => hok k (Nat.le_trans hz hk)) (HB.out.below (W0.out.trans (hb.mono hz))) (by rw [hn1, List.length_append, bInt_len, HL.out]; omega) o3)
  clear hok
  go_region_held3 (fun W => W.cell? ⟨w.heap.size, 0, none⟩ = some (.int .i64 e.signer) ∧ W.cell? ⟨w.heap.size, 1, none⟩ = some (.slice B e.body.length d))
    (first | exact KK.out _ HB2.out | exact KK.out _ HB1.out | exact KK.out _ (Below.refl _ _).drew)
    (first
    | (go_at_call 20; refine P1.out.mono ?_; rintro e1 w1 ⟨v1, rfl, ho, hb⟩; obtain ⟨A1, n1, d1, rfl, hn1⟩ := ho.form'; have HN := Lib.hid hn1; clear hn1; have HB1 := Lib.hid (show Below (w.alloc (.cells #[.int .i64 e.signer, .slice B e.body.length d] 45)).heap.size (w.alloc (.cells #[.int .i64 e.signer, .slice B e.body.length d] 45)) w1 from (Below.refl _ _).drew.trans hb); have HO := Lib.hid (show Own kU8 5 ok w1 (w.alloc (.cells #[.int .i64 e.signer, .slice B e.body.length d] 45)).heap.size (.slice A1 n1 d1) (xs ++ bInt e.signer) from ho); clear ho hb)
    | (go_at_call 21; refine (P2.out _ _ _ _ HN.out HO.out HB1.out).mono ?_; rintro e1 w2 ⟨v2, rfl, ho2, hb⟩; have HB2 := Lib.hid (HB1.out.trans (hb.mono HB1.out.size)); have HO2 := Lib.hid ho2; clear ho2 hb))
  go_wp2
  go_ret
  refine ⟨v2, rfl, ?_, W0.out.trans (HB2.out.mono hz)⟩
  rw [encE, ← List.append_assoc]
  exact HO2.out.lower (W0.out.trans (HB1.out.mono hz)).size
theorem encEs_take (l : List Env) (k : Nat) (e : Env) (h : l[k]? = some e) : encEs (l.take (k + 1)) = encEs (l.take k) ++ encE e := by
  rw [List.take_add_one, h]
  simp [encEs]
theorem encEs_take_le (l : List Env) (k : Nat) : (encEs (l.take k)).length ≤ (encEs l).length := by
  have h := List.take_append_drop k l
  have : encEs l = encEs (l.take k) ++ encEs (l.drop k) := by
    unfold encEs
    rw [← List.flatMap_append, h]
  rw [this, List.length_append]
  omega
theorem putList_c (h : Sl kU8 ok w (.slice A n c) xs) (hok : ∀ k, w.heap.size ≤ k → ok k) {A' : Option Addr} {n' c' : Nat} {l : List Env} (hl : Sl kEnv ok w (.slice A' n' c') l) (hn : n + (encL l).length ≤ 274877906944) (ho : ∀ e ∈ l, EnvOk e) (hn' : n' ≤ 4294967295) :
    Calls Try.prog 22 #[.slice A n c, .slice A' n' c'] w (RetOwn kU8 5 ok w (xs ++ encL l)) := by
  have hx := h.len.1
  have hl1 := hl.len.1
  have hcl : (encL l).length = 4 + (encEs l).length := by rw [encL, List.length_append, bCount_len]
  have hmax := hl.len.2.2.1
  have hnc := hl.len.2.1
  have HC := Lib.hid (putCount_c h n' hn' (by omega))
  have HLs := Lib.hid hl
  have HO := Lib.hid ho
  have HX := Lib.hid hx
  have HL1 := Lib.hid hl1
  have HCL := Lib.hid hcl
  have HN := Lib.hid hn
  have HK := Lib.hid hok
  clear h hl ho hx hl1 hcl hn hok
  go_enter Try.func22, Try.ntmps22
  go_wp2_with fail
  refine HC.out.mono ?_
  rintro e w1 ⟨v, rfl, ho1, hb1⟩
  have HO1 := Lib.hid ho1
  have HB1 := Lib.hid hb1
  clear ho1 hb1
  go_wp2_with fail
  go_loopw [0, 13] (fun v0 vk wr => ∃ k : Nat, k ≤ n' ∧ vk = .int .i64 k ∧ Own kU8 5 ok wr w.heap.size v0 (xs ++ bCount n' ++ encEs (l.take k)) ∧ Below w.heap.size w wr) (fun _ vk _ => n' - (intOf vk).toNat)
  case atStart => exact ⟨0, Nat.zero_le _, rfl, by simpa [encEs] using HO1.out, HB1.out⟩
  case round =>
    obtain ⟨k, hk, rfl, ho1, hb1⟩ := hrel
    clear HO1 HB1
    have HO1 := Lib.hid ho1
    have HB1 := Lib.hid hb1
    by_cases hlt : k < n'
    · obtain ⟨ad, e, B, d, rfl, he, k0, k1, hB⟩ := env_at (HLs.out.below hb1) hlt
      obtain ⟨A1, n1, d1, rfl, hn1⟩ := ho1.form'
      have hW : Below wr.heap.size wr (wr.alloc (.cells #[.int .i64 e.signer, .slice B e.body.length d] 45)) := (Below.refl _ _).alloc (Nat.le_refl _) _
      have P := Lib.hid (putEnvelope_c (ok := ok) (w := wr.alloc (.cells #[.int .i64 e.signer, .slice B e.body.length d] 45)) ((ho1.below hW).sl HK.out) (fun q hq => HK.out q (Nat.le_trans (Nat.le_trans hb1.size hW.size) hq)) (env_mk (hB.below hW))
        (by rw [hn1, List.length_append, List.length_append, bCount_len, HX.out]; have := encEs_take_le l k; have := HN.out; have := HCL.out; omega) (HO.out e (List.mem_of_getElem? he)))
      have HE := Lib.hid he
      have HW := Lib.hid hW
      clear ho1 hb1 he hB hn1 hW
      go_wp2_with (go_at_call 24; refine P.out.mono ?_; rintro e1 w2 ⟨v2, rfl, ho2, hb2⟩; have HO2 := Lib.hid ho2; have HB2 := Lib.hid hb2; clear ho2 hb2)
      go_roundw
      case rel =>
        refine ⟨k + 1, by omega, by go_num, ?_, HB1.out.trans ((HW.out.trans (HB2.out.mono HW.out.size)).mono HB1.out.size)⟩
        rw [encEs_take l k e HE.out, ← List.append_assoc]
        exact HO2.out.lower (Nat.le_trans HB1.out.size HW.out.size)
      case measure => simp [intOf]; omega
    · have hkn : k = n' := by omega
      have HE := Lib.hid (show xs ++ encL l = xs ++ bCount n' ++ encEs (l.take k) by rw [hkn, List.take_of_length_le (by rw [HL1.out]; exact Nat.le_refl _), encL, HL1.out, List.append_assoc])
      clear hkn ho1 hb1
      go_wp2_with fail
      go_ret
      exact ⟨_, rfl, by rw [HE.out]; exact HO1.out, HB1.out⟩
end
end Go.Proofs.Ytplpmhlakiikgaa
