/- Package expr, walked: a field is found. -/
import Derived.Test.YtjnhgfmjehaalaaE10
namespace Go.Proofs.Ytjnhgfmjehaalaa
open Go.RowKit
set_option linter.unusedVariables false
def isF (name : List UInt8) (f : Fld) : Bool := f.name == name
def idx {α : Type} (p : α → Bool) (l : List α) : Int := match l.findIdx? p with | some i => i | none => -1
def findF (name : List UInt8) (l : List Fld) : Int := idx (isF name) l
section
variable {ok : Nat → Prop} {w : World} {A : Option Addr} {n c : Nat}
theorem fld_at {l : List Fld} (h : Sl kFld ok w (.slice A n c) l) {i : Nat} (hi : i < n) :
    ∃ ad f B d, A = some ad ∧ l[i]? = some f ∧ Sl kStr ok w (.slice B f.enum.length d) f.enum ∧ w.cell? (ad.add (i * 8)) = some (.string ⟨f.name.toArray⟩) ∧
      w.cell? ⟨(ad.add (i * 8)).block, (ad.add (i * 8)).off + 1, none⟩ = some (.int .i64 f.kind) ∧ w.cell? ⟨(ad.add (i * 8)).block, (ad.add (i * 8)).off + 2, none⟩ = some (.slice B f.enum.length d) ∧
      w.cell? ⟨(ad.add (i * 8)).block, (ad.add (i * 8)).off + 3, none⟩ = some (.int .i64 f.init.kind) ∧ w.cell? ⟨(ad.add (i * 8)).block, (ad.add (i * 8)).off + 4, none⟩ = some (.int .i64 f.init.int) ∧
      w.cell? ⟨(ad.add (i * 8)).block, (ad.add (i * 8)).off + 5, none⟩ = some (.bool f.init.bool) ∧ w.cell? ⟨(ad.add (i * 8)).block, (ad.add (i * 8)).off + 6, none⟩ = some (.string ⟨f.init.text.toArray⟩) ∧
      w.cell? ⟨(ad.add (i * 8)).block, (ad.add (i * 8)).off + 7, none⟩ = some (.float .f64 f.init.num) := by
  obtain ⟨ad, f, cs, ea, he, hr, h0, hj⟩ := cells_at h hi
  obtain ⟨B, d, rfl, hs⟩ := fld_open hr
  exact ⟨ad, f, B, d, ea, he, hs, h0 _ rfl, hj 0 _ rfl, hj 1 _ rfl, hj 2 _ rfl, hj 3 _ rfl, hj 4 _ rfl, hj 5 _ rfl, hj 6 _ rfl⟩
theorem find1_c (name : List UInt8) (f : Fld) (B : Option Addr) (d N : Nat) (hN : Loc1 N 9 #[.string ⟨name.toArray⟩] w) : Calls Try.prog 105 #[.agg #[.string ⟨f.name.toArray⟩, .int .i64 f.kind, .slice B f.enum.length d, .int .i64 f.init.kind, .int .i64 f.init.int, .bool f.init.bool, .string ⟨f.init.text.toArray⟩, .float .f64 f.init.num], .pointer (some ⟨N, 0, none⟩)] w (Ret w (.bool (isF name f))) := by
  have E := Lib.hid (show isF name f = (f.name == name) from rfl)
  have SF := store_f64
  have hc : w.cell? ⟨N, 0, none⟩ = some (.string ⟨name.toArray⟩) := cell_of hN 0
  have hz := lt_of_heap hN
  clear hN
  go_enter Try.func105, Try.ntmps105
  go_wp2_with fail
  go_ret
  rw [E.out]
  exact ⟨rfl, (Below.refl _ _).alloc (Nat.le_refl _) _⟩
theorem index_f (name : List UInt8) (N : Nat) {l : List Fld} (h : Sl kFld ok w (.slice A n c) l) (hN : Loc1 N 9 #[.string ⟨name.toArray⟩] w) : Calls Try.prog 43 #[.slice A n c, .func (.func 105) #[] #[.pointer (some ⟨N, 0, none⟩)]] w (Ret w (.int .i64 (findF name l))) := by
  rw [show findF name l = idx (isF name) l from rfl]
  have H := Lib.hid h
  have hmax := h.len.2.2.1
  have hnc := h.len.2.1
  have HN := Lib.hid hN
  clear h hN
  go_enter Try.func43, Try.ntmps43
  go_wp2_with fail
  have SF := store_f64
  go_loopw [8] (fun v wr => ∃ k : Nat, k ≤ n ∧ v = .int .i64 k ∧ (∀ j x, j < k → l[j]? = some x → (isF name) x = false) ∧ Below w.heap.size w wr) (fun v _ => n - (intOf v).toNat)
  case atStart => exact ⟨0, Nat.zero_le _, rfl, fun j x hj => absurd hj (Nat.not_lt_zero _), Below.refl _ _⟩
  case round =>
    obtain ⟨k, hk, rfl, hp, hb⟩ := hrel
    have HP := Lib.hid hp
    have HB := Lib.hid hb
    have HN2 := Lib.hid (show Loc1 N 9 #[.string ⟨name.toArray⟩] wr from (hb.block _ (lt_of_heap HN.out)).trans HN.out)
    clear hp hb
    by_cases hlt : k < n
    · obtain ⟨ad, e, B, d, rfl, he, -, c0, c1, c2, c3, c4, c5, c6, c7⟩ := fld_at (H.out.below HB.out) hlt
      have HE := Lib.hid he
      have HC := Lib.hid (find1_c name e B d N (HN2.out))
      clear he
      cases hm : isF name e
      · have HM := Lib.hid hm
        go_wp2_with (go_at_call 105; refine HC.out.mono ?_; rintro e1 w1 ⟨rfl, hb1⟩; have HB1 := Lib.hid (HB.out.trans (hb1.mono HB.out.size)); clear hb1)
        go_roundw
        case rel =>
          refine ⟨k + 1, by omega, by go_num, fun j x hj hx => ?_, HB1.out⟩
          rcases Nat.lt_or_ge j k with h | h
          · exact HP.out j x h hx
          · have : j = k := by omega
            subst this
            rw [HE.out] at hx
            injection hx with hx
            rw [← hx]
            exact HM.out
        case measure => simp [intOf]; omega
      · have e1 : idx (isF name) l = k := by
          unfold idx
          have : l.findIdx? (isF name) = some k := by
            rw [List.findIdx?_eq_some_iff_getElem]
            obtain ⟨hkl, hke⟩ := List.getElem?_eq_some_iff.1 HE.out
            refine ⟨hkl, by rw [hke]; exact hm, fun j hj => ?_⟩
            have := HP.out j l[j] hj (List.getElem?_eq_getElem (by omega))
            simp [this]
          rw [this]
        rw [e1]
        clear e1
        go_wp2_with (go_at_call 105; refine HC.out.mono ?_; rintro e1 w1 ⟨rfl, hb1⟩; have HB1 := Lib.hid (HB.out.trans (hb1.mono HB.out.size)); clear hb1)
        go_ret
        exact ⟨rfl, HB1.out⟩
    · have e1 : idx (isF name) l = -1 := by
        unfold idx
        have : l.findIdx? (isF name) = none := by
          rw [List.findIdx?_eq_none_iff]
          intro x hx
          obtain ⟨j, hj, rfl⟩ := List.getElem_of_mem hx
          exact HP.out j _ (by have := H.out.len.1; omega) (List.getElem?_eq_getElem hj)
        rw [this]
      have E1 := Lib.hid e1
      clear e1
      go_wp2_with fail
      go_ret
      refine ⟨?_, HB.out⟩
      rw [E1.out]
      rfl
theorem find_c (name : List UInt8) {l : List Fld} (h : Sl kFld ok w (.slice A n c) l) : Calls Try.prog 99 #[.string ⟨name.toArray⟩, .slice A n c] w (Ret w (.int .i64 (findF name l))) := by
  have hmf : ∀ (fn : Fn) (first cap : Array Value) (w : World), (Instr.makeFunc fn first cap).run Try.prog w = .ok (.func fn first cap) w := fun _ _ _ _ => rfl
  have B0 := Lib.hid (show Below w.heap.size w (w.alloc (.cells #[.string ⟨name.toArray⟩] 9)) from (Below.refl _ _).alloc (Nat.le_refl _) _)
  have HI := Lib.hid (index_f name w.heap.size (h.below B0.out) (heap_new w (.cells #[.string ⟨name.toArray⟩] 9)))
  clear h
  go_enter Try.func99, Try.ntmps99
  go_wp2_with fail
  refine HI.out.mono ?_
  rintro e w1 ⟨rfl, hb⟩
  have B1 := Lib.hid (below_self B0.out hb)
  clear hb
  go_wp2_with fail
  go_ret
  exact ⟨rfl, B1.out⟩
theorem findF_some {name : List UInt8} {l : List Fld} (h : 0 ≤ findF name l) : ∃ i f, findF name l = (i : Nat) ∧ l[i]? = some f ∧ f.name = name := by
  unfold findF idx at *
  cases hf : l.findIdx? (isF name) with
  | none => rw [hf] at h; exact absurd h (by decide)
  | some i =>
    rw [List.findIdx?_eq_some_iff_getElem] at hf
    obtain ⟨hi, hp, _⟩ := hf
    exact ⟨i, l[i], rfl, List.getElem?_eq_getElem hi, by simpa [isF] using hp⟩
theorem findF_none {name : List UInt8} {l : List Fld} (h : ¬ 0 ≤ findF name l) : findF name l = -1 := by
  unfold findF idx at *
  cases hf : l.findIdx? (isF name) with
  | none => rfl
  | some i => rw [hf] at h; exact absurd (Int.natCast_nonneg i) h
end
end Go.Proofs.Ytjnhgfmjehaalaa
