/- Chapter 6: the reference's fields and stages. -/
import Derived.Test.YtjnhgfmjehaalaaC7
namespace Go.Proofs.Ytjnhgfmjehaalaa
open Go.RowKit
set_option linter.unusedVariables false
set_option linter.unusedSimpArgs false
theorem idx_le {α : Type} {p : α → Bool} {l : List α} {k : Nat} {y : α} (he : l[k]? = some y) (hy : p y = true) : idx p l ≤ (k : Int) := by
  have hk := (List.getElem?_eq_some_iff.1 he)
  unfold idx
  cases hf : l.findIdx? p with
  | none => show (-1 : Int) ≤ k; omega
  | some i =>
    rw [List.findIdx?_eq_some_iff_getElem] at hf
    obtain ⟨hi, _, hj⟩ := hf
    show (i : Int) ≤ k
    rcases Nat.lt_or_ge k i with h | h
    · exfalso
      have := hj k h
      obtain ⟨hk1, hk2⟩ := hk
      rw [hk2] at this
      exact this hy
    · omega
def pEnum (l : List (List UInt8)) (i : Nat) (s : List UInt8) : Bool := decide (s.length ≤ 32) && (idx (fun x => x == s) l == (i : Int))
def enumR (f : Fld) : Bool := (decide ((f.enum.length : Int) ≤ 4) && !(decide (0 < (f.enum.length : Int)) && f.kind != 3)) && allI (pEnum f.enum) f.enum
section
variable {w : World}
set_option maxHeartbeats 2000000 in
theorem renum_c {ok : Nat → Prop} (f : Fld) {B : Option Addr} {d : Nat} (h : Sl kStr ok w (.slice B f.enum.length d) f.enum) : Calls Try.prog 49 #[.agg #[.string ⟨f.name.toArray⟩, .int .i64 f.kind, .slice B f.enum.length d, .int .i64 f.init.kind, .int .i64 f.init.int, .bool f.init.bool, .string ⟨f.init.text.toArray⟩, .float .f64 f.init.num]] w (Ret w (.bool (enumR f))) := by
  have SF := store_f64
  have HS := Lib.hid (show ∀ W : World, Below w.heap.size w W → Sl kStr ok W (.slice B f.enum.length d) f.enum from fun W hW => h.below hW)
  have E := Lib.hid (show enumR f = ((decide ((f.enum.length : Int) ≤ 4) && !(decide (0 < (f.enum.length : Int)) && f.kind != 3)) && allI (pEnum f.enum) f.enum) from rfl)
  have hL : Loc1 w.heap.size 38 #[.string ⟨f.name.toArray⟩, .int .i64 f.kind, .slice B f.enum.length d, .int .i64 f.init.kind, .int .i64 f.init.int, .bool f.init.bool, .string ⟨f.init.text.toArray⟩, .float .f64 f.init.num] (w.alloc (.cells #[.string ⟨f.name.toArray⟩, .int .i64 f.kind, .slice B f.enum.length d, .int .i64 f.init.kind, .int .i64 f.init.int, .bool f.init.bool, .string ⟨f.init.text.toArray⟩, .float .f64 f.init.num] 38)) := Loc1.new _ _ _
  have B0 : Below w.heap.size w (w.alloc (.cells #[.string ⟨f.name.toArray⟩, .int .i64 f.kind, .slice B f.enum.length d, .int .i64 f.init.kind, .int .i64 f.init.int, .bool f.init.bool, .string ⟨f.init.text.toArray⟩, .float .f64 f.init.num] 38)) := (by (focus (repeat (first | with_reducible exact Below.refl _ _ | with_reducible assumption | with_reducible refine bel_al _ ?_ | with_reducible refine bel_dr ?_ | with_reducible refine bel_dn _ ?_ | with_reducible refine bel_tr (by assumption) ?_))))
  have KK := Lib.hid (show ∀ W : World, Below (w.alloc (.cells #[.string ⟨f.name.toArray⟩, .int .i64 f.kind, .slice B f.enum.length d, .int .i64 f.init.kind, .int .i64 f.init.int, .bool f.init.bool, .string ⟨f.init.text.toArray⟩, .float .f64 f.init.num] 38)).heap.size (w.alloc (.cells #[.string ⟨f.name.toArray⟩, .int .i64 f.kind, .slice B f.enum.length d, .int .i64 f.init.kind, .int .i64 f.init.int, .bool f.init.bool, .string ⟨f.init.text.toArray⟩, .float .f64 f.init.num] 38)) W → (W.cell? ⟨w.heap.size, 0, none⟩ = some (.string ⟨f.name.toArray⟩) ∧ W.cell? ⟨w.heap.size, 1, none⟩ = some (.int .i64 f.kind) ∧ W.cell? ⟨w.heap.size, 2, none⟩ = some (.slice B f.enum.length d) ∧ W.cell? ⟨w.heap.size, 3, none⟩ = some (.int .i64 f.init.kind) ∧ W.cell? ⟨w.heap.size, 4, none⟩ = some (.int .i64 f.init.int) ∧ W.cell? ⟨w.heap.size, 5, none⟩ = some (.bool f.init.bool) ∧ W.cell? ⟨w.heap.size, 6, none⟩ = some (.string ⟨f.init.text.toArray⟩) ∧ W.cell? ⟨w.heap.size, 7, none⟩ = some (.float .f64 f.init.num)) ∧ w.heap.size < W.heap.size from fun W hW => ⟨⟨cell_of (hL.bel hW) 0, cell_of (hL.bel hW) 1, cell_of (hL.bel hW) 2, cell_of (hL.bel hW) 3, cell_of (hL.bel hW) 4, cell_of (hL.bel hW) 5, cell_of (hL.bel hW) 6, cell_of (hL.bel hW) 7⟩, lt_of_heap (hL.bel hW)⟩)
  have hmax := h.len.2.2.1
  have hnc := h.len.2.1
  generalize enumR f = r at *
  clear h hL
  cases hk3 : (f.kind != 3)
  all_goals cases hH : (decide ((f.enum.length : Int) ≤ 4) && !(decide (0 < (f.enum.length : Int)) && f.kind != 3))
  case false.false | true.false =>
    have E1 := Lib.hid (show r = false by rw [E.out, hH]; rfl)
    go_enter Try.func49, Try.ntmps49
    go_wp2_with fail
    all_goals first
      | (go_ret; rw [E1.out]; exact ⟨rfl, (by (focus (repeat (first | with_reducible exact Below.refl _ _ | with_reducible assumption | with_reducible refine bel_al _ ?_ | with_reducible refine bel_dr ?_ | with_reducible refine bel_dn _ ?_ | with_reducible refine bel_tr (by assumption) ?_))))⟩)
      | (exfalso; simp [*] at hH; done)
      | (exfalso; simp [*] at hH; omega)
  all_goals
    replace E := Lib.hid (show r = allI (pEnum f.enum) f.enum by rw [E.out, hH]; rfl)
    have h4 : (f.enum.length : Int) ≤ 4 := by simp only [Bool.and_eq_true, decide_eq_true_eq] at hH; exact hH.1
    have h0 : (f.kind != 3) = true → (f.enum.length : Int) ≤ 0 := fun h => by
      rw [h] at hH
      simp only [Bool.and_eq_true, decide_eq_true_eq, Bool.not_eq_true', Bool.and_true, decide_eq_false_iff_not] at hH
      omega
    clear hH
    by_cases hpp : 0 < (f.enum.length : Int)
  all_goals try (exfalso; have h9 := h0 hk3; omega)
  all_goals
    clear h0
    go_enter Try.func49, Try.ntmps49
    go_wp2_with fail
    clear h4
    go_loopw [3] (fun x3 wr => ∃ k : Nat, k ≤ f.enum.length ∧ x3 = .int .i64 k ∧ (∀ j e, j < k → f.enum[j]? = some e → pEnum f.enum j e = true) ∧ Below (w.alloc (.cells #[.string ⟨f.name.toArray⟩, .int .i64 f.kind, .slice B f.enum.length d, .int .i64 f.init.kind, .int .i64 f.init.int, .bool f.init.bool, .string ⟨f.init.text.toArray⟩, .float .f64 f.init.num] 38)).heap.size (w.alloc (.cells #[.string ⟨f.name.toArray⟩, .int .i64 f.kind, .slice B f.enum.length d, .int .i64 f.init.kind, .int .i64 f.init.int, .bool f.init.bool, .string ⟨f.init.text.toArray⟩, .float .f64 f.init.num] 38)) wr) (fun x3 _ => f.enum.length - (intOf x3).toNat)
    case atStart => exact ⟨0, Nat.zero_le _, rfl, allI_nil, Below.refl _ _⟩
    case round =>
      obtain ⟨k, hk, rfl, hp, hb⟩ := hrel
      have HP := Lib.hid hp
      clear hp
      obtain ⟨⟨c0, c1, c2, c3, c4, c5, c6, c7⟩, hz⟩ := KK.out wr (by (focus (repeat (first | with_reducible exact Below.refl _ _ | with_reducible assumption | with_reducible refine bel_al _ ?_ | with_reducible refine bel_dr ?_ | with_reducible refine bel_dn _ ?_ | with_reducible refine bel_tr (by assumption) ?_))))
      by_cases hlt : k < f.enum.length
      rotate_left
      · have E1 := Lib.hid (E.out.trans (allI_yes (n := k) (by omega) HP.out))
        go_wp2_with fail
        go_ret
        rw [E1.out]
        exact ⟨rfl, (by (focus (repeat (first | with_reducible exact Below.refl _ _ | with_reducible assumption | with_reducible refine bel_al _ ?_ | with_reducible refine bel_dr ?_ | with_reducible refine bel_dn _ ?_ | with_reducible refine bel_tr (by assumption) ?_))))⟩
      all_goals try (exfalso; omega)
      all_goals
        obtain ⟨ad, e, rfl, he, c0'⟩ := str_at (HS.out wr (by (focus (repeat (first | with_reducible exact Below.refl _ _ | with_reducible assumption | with_reducible refine bel_al _ ?_ | with_reducible refine bel_dr ?_ | with_reducible refine bel_dn _ ?_ | with_reducible refine bel_tr (by assumption) ?_))))) hlt
        have HE := Lib.hid he
        clear he
        have HPE := Lib.hid (show pEnum f.enum k e = (decide (e.length ≤ 32) && (idx (fun x => x == e) f.enum == (k : Int))) from rfl)
        have hk1 : (0 : Int) ≤ (k : Int) := by omega
        have hk2 : (k : Int) < (f.enum.length : Int) := by omega
        by_cases hl : 32 < (e.length : Int)
        · have E1 := Lib.hid (E.out.trans (allI_no HE.out (by rw [HPE.out, decide_eq_false (by omega)]; rfl)))
          go_wp2_with fail
          go_ret
          rw [E1.out]
          exact ⟨rfl, (by (focus (repeat (first | with_reducible exact Below.refl _ _ | with_reducible assumption | with_reducible refine bel_al _ ?_ | with_reducible refine bel_dr ?_ | with_reducible refine bel_dn _ ?_ | with_reducible refine bel_tr (by assumption) ?_))))⟩
        · go_wp2_with fail
          clear c0 c1 c2 c3 c4 c5 c6 c7 hz
          go_loopw [4] (fun x4 wx => ∃ i : Nat, i ≤ k ∧ x4 = .int .i64 i ∧ (∀ j x, j < i → f.enum[j]? = some x → (fun (_ : Nat) x => x == e) j x = false) ∧ Below wr.heap.size wr wx) (fun x4 _ => k - (intOf x4).toNat)
          case atStart => exact ⟨0, Nat.zero_le _, rfl, allI_nil, Below.refl _ _⟩
          case round =>
            obtain ⟨i, hi, rfl, hq, hbx⟩ := hrel
            have HQ := Lib.hid hq
            clear hq
            obtain ⟨⟨c0, c1, c2, c3, c4, c5, c6, c7⟩, hz⟩ := KK.out wr (by (focus (repeat (first | with_reducible exact Below.refl _ _ | with_reducible assumption | with_reducible refine bel_al _ ?_ | with_reducible refine bel_dr ?_ | with_reducible refine bel_dn _ ?_ | with_reducible refine bel_tr (by assumption) ?_))))
            by_cases hlti : i < k
            · obtain ⟨ad', x, ea, hx, cx⟩ := str_at (HS.out wr (by (focus (repeat (first | with_reducible exact Below.refl _ _ | with_reducible assumption | with_reducible refine bel_al _ ?_ | with_reducible refine bel_dr ?_ | with_reducible refine bel_dn _ ?_ | with_reducible refine bel_tr (by assumption) ?_))))) (show i < f.enum.length by omega)
              obtain ⟨ad2, e2, ea2, he2, ce⟩ := str_at (HS.out wr (by (focus (repeat (first | with_reducible exact Below.refl _ _ | with_reducible assumption | with_reducible refine bel_al _ ?_ | with_reducible refine bel_dr ?_ | with_reducible refine bel_dn _ ?_ | with_reducible refine bel_tr (by assumption) ?_))))) hlt
              injection ea with ea
              subst ea
              injection ea2 with ea2
              subst ea2
              have hee : e2 = e := by rw [HE.out] at he2; injection he2 with h; exact h.symm
              subst hee
              have HX := Lib.hid hx
              clear he2 hx
              have hi1 : (0 : Int) ≤ (i : Int) := by omega
              have hi2 : (i : Int) < (f.enum.length : Int) := by omega
              cases hm : (e2 == x)
              · have HM := Lib.hid (show (x == e2) = false by rw [beq_eq_false_iff_ne] at hm ⊢; exact fun h => hm h.symm)
                go_wp2_with fail
                go_quiet ((fail))
                go_wp2_with fail
                go_roundw
                case rel => exact ⟨i + 1, by omega, by go_num, allI_step (q := fun _ x => x == e2) HQ.out HX.out HM.out, (by (focus (repeat (first | with_reducible exact Below.refl _ _ | with_reducible assumption | with_reducible refine bel_al _ ?_ | with_reducible refine bel_dr ?_ | with_reducible refine bel_dn _ ?_ | with_reducible refine bel_tr (by assumption) ?_))))⟩
                case measure => simp [intOf]; omega
              · have hid : idx (fun x => x == e2) f.enum ≤ (i : Int) := idx_le HX.out (by rw [beq_iff_eq] at hm ⊢; exact hm.symm)
                have E1 := Lib.hid (E.out.trans (allI_no HE.out (by
                  rw [HPE.out, show (idx (fun x => x == e2) f.enum == (k : Int)) = false by rw [beq_eq_false_iff_ne]; omega, Bool.and_false])))
                clear hid
                go_wp2_with fail
                go_quiet ((fail))
                go_wp2_with fail
                go_ret
                rw [E1.out]
                exact ⟨rfl, (by (focus (repeat (first | with_reducible exact Below.refl _ _ | with_reducible assumption | with_reducible refine bel_al _ ?_ | with_reducible refine bel_dr ?_ | with_reducible refine bel_dn _ ?_ | with_reducible refine bel_tr (by assumption) ?_))))⟩
            · have hik : i = k := by omega
              have HM := Lib.hid (show pEnum f.enum k e = true by
                rw [HPE.out, decide_eq_true (by omega), idx_at (i := k) (p := fun x => x == e) (fun j x hj hx => HQ.out j x (by omega) hx) HE.out (by simp)]; simp)
              clear hik
              go_wp2_with fail
              go_roundw
              case rel => exact ⟨k + 1, by omega, by go_num, allI_step HP.out HE.out HM.out, (by (focus (repeat (first | with_reducible exact Below.refl _ _ | with_reducible assumption | with_reducible refine bel_al _ ?_ | with_reducible refine bel_dr ?_ | with_reducible refine bel_dn _ ?_ | with_reducible refine bel_tr (by assumption) ?_))))⟩
              case measure => simp [intOf]; omega
end
end Go.Proofs.Ytjnhgfmjehaalaa
