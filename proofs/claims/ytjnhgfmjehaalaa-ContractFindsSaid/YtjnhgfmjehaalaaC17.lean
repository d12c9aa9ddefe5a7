/- Chapter 6: few enough parts. -/
import Derived.Test.YtjnhgfmjehaalaaC16
namespace Go.Proofs.Ytjnhgfmjehaalaa
open Go.RowKit
set_option linter.unusedVariables false
set_option linter.unusedSimpArgs false
def fewF (e : Fld) : Bool := decide ((e.name.length : Int) ≤ 200) && decide ((e.enum.length : Int) ≤ 30) && decide ((e.init.text.length : Int) ≤ 200)
def fewSt (e : Stg) : Bool := decide ((e.orgs.length : Int) ≤ 30)
def fewM (e : Mov) : Bool := decide ((e.effects.length : Int) ≤ 30)
def fewH (c : Con) : Bool := decide ((c.name.length : Int) ≤ 200) && decide ((c.fields.length : Int) ≤ 30) && decide ((c.stages.length : Int) ≤ 30) && decide ((c.moves.length : Int) ≤ 30)
def fewC (c : Con) : Bool := fewH c && (allI (fun _ e => fewF e) c.fields && (allI (fun _ e => fewSt e) c.stages && allI (fun _ e => fewM e) c.moves))
section
variable {w : World}
set_option maxRecDepth 100000 in
set_option maxHeartbeats 4000000 in
theorem few6_c {A B D : Option Addr} {a b d : Nat} {c : Con} {n : Nat} (h1 : Sl kFld (fun _ => True) w (.slice A c.fields.length a) c.fields) (h2 : Sl kStg (fun _ => True) w (.slice B c.stages.length b) c.stages) (h3 : Sl (kMov n) (fun _ => True) w (.slice D c.moves.length d) c.moves) :
    Calls Try.prog 5 #[.agg #[.string ⟨c.name.toArray⟩, .slice A c.fields.length a, .slice B c.stages.length b, .slice D c.moves.length d]] w (Ret w (.bool (fewC c))) := by
  have SF := store_f64
  have E := Lib.hid (show fewC c = (fewH c && (allI (fun _ e => fewF e) c.fields && (allI (fun _ e => fewSt e) c.stages && allI (fun _ e => fewM e) c.moves))) from rfl)
  have EH := Lib.hid (show fewH c = (decide ((c.name.length : Int) ≤ 200) && decide ((c.fields.length : Int) ≤ 30) && decide ((c.stages.length : Int) ≤ 30) && decide ((c.moves.length : Int) ≤ 30)) from rfl)
  have m1 := h1.len.2.2.1
  have n1 := h1.len.2.1
  have m2 := h2.len.2.2.1
  have n2 := h2.len.2.1
  have m3 := h3.len.2.2.1
  have n3 := h3.len.2.1
  have hL : Loc1 w.heap.size 26 #[.string ⟨c.name.toArray⟩, .slice A c.fields.length a, .slice B c.stages.length b, .slice D c.moves.length d] (w.alloc (.cells #[.string ⟨c.name.toArray⟩, .slice A c.fields.length a, .slice B c.stages.length b, .slice D c.moves.length d] 26)) := Loc1.new _ _ _
  have B0 : Below w.heap.size w (w.alloc (.cells #[.string ⟨c.name.toArray⟩, .slice A c.fields.length a, .slice B c.stages.length b, .slice D c.moves.length d] 26)) := (by (focus (repeat (first | with_reducible exact Below.refl _ _ | with_reducible assumption | with_reducible refine bel_al _ ?_ | with_reducible refine bel_dr ?_ | with_reducible refine bel_dn _ ?_ | with_reducible refine bel_tr (by assumption) ?_))))
  replace h1 := h1.below B0
  replace h2 := h2.below B0
  replace h3 := h3.below B0
  obtain ⟨c0, c1, c2, c3⟩ := cells4 hL
  have hz := lt_of_heap hL
  generalize fewC c = r at *
  cases hH : fewH c
  · have E1 := Lib.hid (show r = false by rw [E.out, hH]; rfl)
    rw [hH] at EH
    clear hH h1 h2 h3 hL
    go_enter Try.func5, Try.ntmps5
    go_wp2_with fail
    all_goals first
      | (go_ret; rw [E1.out]; exact ⟨rfl, B0⟩)
      | (exfalso; have h9 := EH.out.symm; clear EH E1 E; simp [*] at h9; done)
      | (exfalso; have h9 := EH.out.symm; clear EH E1 E; simp [*] at h9; omega)
      | (exfalso; have h9 := EH.out.symm; clear EH E1 E; simp_all; omega)
  have g := EH.out
  rw [hH] at g
  replace g := g.symm
  simp only [Bool.and_eq_true, decide_eq_true_eq] at g
  obtain ⟨⟨⟨g1, g2⟩, g3⟩, g4⟩ := g
  replace E := Lib.hid (show r = (allI (fun _ e => fewF e) c.fields && (allI (fun _ e => fewSt e) c.stages && allI (fun _ e => fewM e) c.moves)) by rw [E.out, hH]; rfl)
  clear hH EH hL
  go_enter Try.func5, Try.ntmps5
  go_wp2_with fail
  clear g1 g2 g3 g4
  go_loop [3] (fun v => ∃ k : Nat, k ≤ c.fields.length ∧ v = .int .i64 k ∧ (∀ j e, j < k → c.fields[j]? = some e → (fun (_ : Nat) e => fewF e) j e = true)) (fun v => c.fields.length - (intOf v).toNat)
  case atStart => exact ⟨0, Nat.zero_le _, rfl, allI_nil⟩
  case round =>
    obtain ⟨k, hk, rfl, hp⟩ := hrel
    have HP := Lib.hid hp
    clear hp
    by_cases hlt : k < c.fields.length
    · obtain ⟨ad, e, X, y, rfl, he, -, q0, q1, q2, q3, q4, q5, q6, q7⟩ := fld_at h1 hlt
      have HE := Lib.hid he
      clear he
      have E0 := Lib.hid (show fewF e = false → r = false from fun h => by rw [E.out, allI_no HE.out h]; rfl)
      have HX := Lib.hid (show fewF e = (decide ((e.name.length : Int) ≤ 200) && decide ((e.enum.length : Int) ≤ 30) && decide ((e.init.text.length : Int) ≤ 200)) from rfl)
      go_wp2_with fail
      all_goals first
        | (go_ret
           rw [E0.out (HX.out.trans (by first | (simp [*]; done) | (simp [*]; omega) | (simp_all; done) | (simp_all; omega)))]
           exact ⟨rfl, B0⟩)
        | (go_round
           case rel => exact ⟨k + 1, by omega, by go_num, allI_step (q := fun _ e => fewF e) HP.out HE.out (HX.out.trans (by first | (simp [*]; done) | (simp [*]; omega) | (simp_all; done) | (simp_all; omega)))⟩
           case measure => simp [intOf]; omega)
    · have hall := allI_yes (n := k) (p := fun _ e => fewF e) (l := c.fields) (by omega) HP.out
      replace E := Lib.hid (E.out.trans (by rw [hall]))
      clear hall HP
      go_wp2_with fail
      go_loop [4] (fun v => ∃ k : Nat, k ≤ c.stages.length ∧ v = .int .i64 k ∧ (∀ j e, j < k → c.stages[j]? = some e → (fun (_ : Nat) e => fewSt e) j e = true)) (fun v => c.stages.length - (intOf v).toNat)
      case atStart => exact ⟨0, Nat.zero_le _, rfl, allI_nil⟩
      case round =>
        obtain ⟨k, hk, rfl, hp⟩ := hrel
        have HP := Lib.hid hp
        clear hp
        by_cases hlt : k < c.stages.length
        · obtain ⟨ad, e, X, y, rfl, he, -, q0, q1, q2⟩ := stg_at h2 hlt
          have HE := Lib.hid he
          clear he
          have E0 := Lib.hid (show fewSt e = false → r = false from fun h => by rw [E.out, allI_no HE.out h]; rfl)
          have HX := Lib.hid (show fewSt e = (decide ((e.orgs.length : Int) ≤ 30)) from rfl)
          go_wp2_with fail
          all_goals first
            | (go_ret
               rw [E0.out (HX.out.trans (by first | (simp [*]; done) | (simp [*]; omega) | (simp_all; done) | (simp_all; omega)))]
               exact ⟨rfl, B0⟩)
            | (go_round
               case rel => exact ⟨k + 1, by omega, by go_num, allI_step (q := fun _ e => fewSt e) HP.out HE.out (HX.out.trans (by first | (simp [*]; done) | (simp [*]; omega) | (simp_all; done) | (simp_all; omega)))⟩
               case measure => simp [intOf]; omega)
        · have hall := allI_yes (n := k) (p := fun _ e => fewSt e) (l := c.stages) (by omega) HP.out
          replace E := Lib.hid (E.out.trans (by rw [hall]))
          clear hall HP
          go_wp2_with fail
          go_loop [5] (fun v => ∃ k : Nat, k ≤ c.moves.length ∧ v = .int .i64 k ∧ (∀ j e, j < k → c.moves[j]? = some e → (fun (_ : Nat) e => fewM e) j e = true)) (fun v => c.moves.length - (intOf v).toNat)
          case atStart => exact ⟨0, Nat.zero_le _, rfl, allI_nil⟩
          case round =>
            obtain ⟨k, hk, rfl, hp⟩ := hrel
            have HP := Lib.hid hp
            clear hp
            by_cases hlt : k < c.moves.length
            · obtain ⟨ad, e, k', X, y, Z, z, rfl, he, -, -, -, q0, q1, q2, q3, q4, q5, q6, q7, q8, q9, q10, q11, q12⟩ := mov_at h3 hlt
              have HE := Lib.hid he
              clear he
              have E0 := Lib.hid (show fewM e = false → r = false from fun h => by rw [E.out, allI_no HE.out h]; rfl)
              have HX := Lib.hid (show fewM e = (decide ((e.effects.length : Int) ≤ 30)) from rfl)
              go_wp2_with fail
              all_goals first
                | (go_ret
                   rw [E0.out (HX.out.trans (by first | (simp [*]; done) | (simp [*]; omega) | (simp_all; done) | (simp_all; omega)))]
                   exact ⟨rfl, B0⟩)
                | (go_round
                   case rel => exact ⟨k + 1, by omega, by go_num, allI_step (q := fun _ e => fewM e) HP.out HE.out (HX.out.trans (by first | (simp [*]; done) | (simp [*]; omega) | (simp_all; done) | (simp_all; omega)))⟩
                   case measure => simp [intOf]; omega)
            · have hall := allI_yes (n := k) (p := fun _ e => fewM e) (l := c.moves) (by omega) HP.out
              replace E := Lib.hid (E.out.trans (by rw [hall]))
              clear hall HP
              go_wp2_with fail
              go_ret
              rw [E.out]
              exact ⟨rfl, B0⟩
end
end Go.Proofs.Ytjnhgfmjehaalaa
