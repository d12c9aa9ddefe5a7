/- Texts that go together. -/
import Derived.Test.YtjnhgfmjehaalaaGreatC4
/- Chapter 6: the reference's fields and stages. -/
namespace Go.Proofs.YtjnhgfmjehaalaaGreat
open Go.RowKit
set_option linter.unusedVariables false
set_option linter.unusedSimpArgs false
section
variable {w : World}
theorem rname_c (s : List UInt8) : Calls Tryz.prog 61 #[.string ⟨s.toArray⟩] w (Ret w (.bool (named s))) := by
 have E := Lib.hid (named_eq s)
 generalize named s = r at *
 by_cases h1 : (1 : Int) ≤ (s.length : Int)
 ·by_cases h2 : (s.length : Int) ≤ 16
  ·have E1 := Lib.hid (show r = true by rw [E.out, decide_eq_true (by omega), decide_eq_true (by omega)]; rfl)
   go_enter Tryz.func61, Tryz.ntmps61
   go_wp2_with fail
   go_ret
   rw [E1.out]
   exact ⟨rfl, bW⟩
  ·have E1 := Lib.hid (show r = false by rw [E.out, decide_eq_false (show ¬ s.length ≤ 16 by omega), Bool.and_false])
   go_enter Tryz.func61, Tryz.ntmps61
   go_wp2_with fail
   go_ret
   rw [E1.out]
   exact ⟨by simp; try omega, bW⟩
 ·have E1 := Lib.hid (show r = false by rw [E.out, decide_eq_false (show ¬ 0 < s.length by omega)]; rfl)
  go_enter Tryz.func61, Tryz.ntmps61
  go_wp2_with fail
  go_ret
  rw [E1.out]
  exact ⟨rfl, bW⟩
theorem rfield_c {ok : Nat → Prop} {A B D : Option Addr} {a b d : Nat} {c : Con} {n : Nat} (name : List UInt8) (h : Sl kFld ok w (.slice A c.fields.length a) c.fields) : Calls Tryz.prog 106 #[.agg #[.string ⟨c.name.toArray⟩, .slice A c.fields.length a, .slice B c.stages.length b, .slice D c.moves.length d], .string ⟨name.toArray⟩] w (Ret w (.int .i64 (idx (fun e => e.name == name) c.fields))) := by
 have HS := hidS h
 have hmax := h.len.2.2.1
 have hnc := h.len.2.1
 clear h
 have hL := Loc1.new w 26 #[.string ⟨c.name.toArray⟩, .slice A c.fields.length a, .slice B c.stages.length b, .slice D c.moves.length d]
 have B0 : Below w.heap.size w (w.alloc (.cells #[.string ⟨c.name.toArray⟩, .slice A c.fields.length a, .slice B c.stages.length b, .slice D c.moves.length d] 26)) := bW
 have KK := kk4 hL
 clear hL
 go_enter Tryz.func106, Tryz.ntmps106
 go_wp2_with fail
 go_loopw [5] (fun v wr => ∃ k : Nat, k ≤ c.fields.length ∧ v = .int .i64 k ∧ (∀ j e, j < k → c.fields[j]? = some e → (fun e => e.name == name) e = false) ∧ Below (w.alloc (.cells #[.string ⟨c.name.toArray⟩, .slice A c.fields.length a, .slice B c.stages.length b, .slice D c.moves.length d] 26)).heap.size (w.alloc (.cells #[.string ⟨c.name.toArray⟩, .slice A c.fields.length a, .slice B c.stages.length b, .slice D c.moves.length d] 26)) wr) (fun v _ => c.fields.length - (intOf v).toNat)
 case atStart => exact ⟨0, Nat.zero_le _, rfl, fun j x hj => absurd hj (Nat.not_lt_zero _), Below.refl _ _⟩
 case round =>
  obtain ⟨k, hk, rfl, hp, hb⟩ := hrel
  have HP := Lib.hid hp
  clear hp
  obtain ⟨⟨c0, c1, c2, c3⟩, hz⟩ := KK.out wr bW
  by_cases hlt : k < c.fields.length
  ·obtain ⟨ad, e, B', d', rfl, he, -, c0', -⟩ := fld_at (HS.out wr bW) hlt
   have HE := Lib.hid he
   clear he
   cases hm : (e.name == name)
   ·have HM := Lib.hid hm
    go_wp2_with fail
    go_roundw
    case rel => exact ⟨k + 1, by omega, by go_num, allI_step (q := fun _ e => e.name == name) HP.out HE.out HM.out, hb⟩
    case measure => simp [intOf]; omega
   ·have E1 := Lib.hid (idx_at (p := fun e => e.name == name) HP.out HE.out hm)
    go_wp2_with fail
    go_ret
    rw [E1.out]
    exact ⟨rfl, bW⟩
  ·have E1 := Lib.hid (idx_none (n := k) (by omega) HP.out)
   go_wp2_with fail
   go_ret
   rw [E1.out]
   exact ⟨rfl, bW⟩
theorem rstage_c {ok : Nat → Prop} {A B D : Option Addr} {a b d : Nat} {c : Con} {n : Nat} (name : List UInt8) (h : Sl kStg ok w (.slice B c.stages.length b) c.stages) : Calls Tryz.prog 109 #[.agg #[.string ⟨c.name.toArray⟩, .slice A c.fields.length a, .slice B c.stages.length b, .slice D c.moves.length d], .string ⟨name.toArray⟩] w (Ret w (.int .i64 (idx (fun e => e.name == name) c.stages))) := by
 have HS := hidS h
 have hmax := h.len.2.2.1
 have hnc := h.len.2.1
 clear h
 have hL := Loc1.new w 26 #[.string ⟨c.name.toArray⟩, .slice A c.fields.length a, .slice B c.stages.length b, .slice D c.moves.length d]
 have B0 : Below w.heap.size w (w.alloc (.cells #[.string ⟨c.name.toArray⟩, .slice A c.fields.length a, .slice B c.stages.length b, .slice D c.moves.length d] 26)) := bW
 have KK := kk4 hL
 clear hL
 go_enter Tryz.func109, Tryz.ntmps109
 go_wp2_with fail
 go_loopw [5] (fun v wr => ∃ k : Nat, k ≤ c.stages.length ∧ v = .int .i64 k ∧ (∀ j e, j < k → c.stages[j]? = some e → (fun e => e.name == name) e = false) ∧ Below (w.alloc (.cells #[.string ⟨c.name.toArray⟩, .slice A c.fields.length a, .slice B c.stages.length b, .slice D c.moves.length d] 26)).heap.size (w.alloc (.cells #[.string ⟨c.name.toArray⟩, .slice A c.fields.length a, .slice B c.stages.length b, .slice D c.moves.length d] 26)) wr) (fun v _ => c.stages.length - (intOf v).toNat)
 case atStart => exact ⟨0, Nat.zero_le _, rfl, fun j x hj => absurd hj (Nat.not_lt_zero _), Below.refl _ _⟩
 case round =>
  obtain ⟨k, hk, rfl, hp, hb⟩ := hrel
  have HP := Lib.hid hp
  clear hp
  obtain ⟨⟨c0, c1, c2, c3⟩, hz⟩ := KK.out wr bW
  by_cases hlt : k < c.stages.length
  ·obtain ⟨ad, e, B', d', rfl, he, -, c0', -⟩ := stg_at (HS.out wr bW) hlt
   have HE := Lib.hid he
   clear he
   cases hm : (e.name == name)
   ·have HM := Lib.hid hm
    go_wp2_with fail
    go_roundw
    case rel => exact ⟨k + 1, by omega, by go_num, allI_step (q := fun _ e => e.name == name) HP.out HE.out HM.out, hb⟩
    case measure => simp [intOf]; omega
   ·have E1 := Lib.hid (idx_at (p := fun e => e.name == name) HP.out HE.out hm)
    go_wp2_with fail
    go_ret
    rw [E1.out]
    exact ⟨rfl, bW⟩
  ·have E1 := Lib.hid (idx_none (n := k) (by omega) HP.out)
   go_wp2_with fail
   go_ret
   rw [E1.out]
   exact ⟨rfl, bW⟩
theorem rmove_c {ok : Nat → Prop} {A B D : Option Addr} {a b d : Nat} {c : Con} {n : Nat} (name : List UInt8) (h : Sl (kMov n) ok w (.slice D c.moves.length d) c.moves) : Calls Tryz.prog 64 #[.agg #[.string ⟨c.name.toArray⟩, .slice A c.fields.length a, .slice B c.stages.length b, .slice D c.moves.length d], .string ⟨name.toArray⟩] w (Ret w (.int .i64 (idx (fun e => e.name == name) c.moves))) := by
 have HS := hidS h
 have hmax := h.len.2.2.1
 have hnc := h.len.2.1
 clear h
 have hL := Loc1.new w 26 #[.string ⟨c.name.toArray⟩, .slice A c.fields.length a, .slice B c.stages.length b, .slice D c.moves.length d]
 have B0 : Below w.heap.size w (w.alloc (.cells #[.string ⟨c.name.toArray⟩, .slice A c.fields.length a, .slice B c.stages.length b, .slice D c.moves.length d] 26)) := bW
 have KK := kk4 hL
 clear hL
 go_enter Tryz.func64, Tryz.ntmps64
 go_wp2_with fail
 go_loopw [5] (fun v wr => ∃ k : Nat, k ≤ c.moves.length ∧ v = .int .i64 k ∧ (∀ j e, j < k → c.moves[j]? = some e → (fun e => e.name == name) e = false) ∧ Below (w.alloc (.cells #[.string ⟨c.name.toArray⟩, .slice A c.fields.length a, .slice B c.stages.length b, .slice D c.moves.length d] 26)).heap.size (w.alloc (.cells #[.string ⟨c.name.toArray⟩, .slice A c.fields.length a, .slice B c.stages.length b, .slice D c.moves.length d] 26)) wr) (fun v _ => c.moves.length - (intOf v).toNat)
 case atStart => exact ⟨0, Nat.zero_le _, rfl, fun j x hj => absurd hj (Nat.not_lt_zero _), Below.refl _ _⟩
 case round =>
  obtain ⟨k, hk, rfl, hp, hb⟩ := hrel
  have HP := Lib.hid hp
  clear hp
  obtain ⟨⟨c0, c1, c2, c3⟩, hz⟩ := KK.out wr bW
  by_cases hlt : k < c.moves.length
  ·obtain ⟨ad, e, k', B', b', D', d', rfl, he, -, -, -, c0', -⟩ := mov_at (HS.out wr bW) hlt
   have HE := Lib.hid he
   clear he
   cases hm : (e.name == name)
   ·have HM := Lib.hid hm
    go_wp2_with fail
    go_roundw
    case rel => exact ⟨k + 1, by omega, by go_num, allI_step (q := fun _ e => e.name == name) HP.out HE.out HM.out, hb⟩
    case measure => simp [intOf]; omega
   ·have E1 := Lib.hid (idx_at (p := fun e => e.name == name) HP.out HE.out hm)
    go_wp2_with fail
    go_ret
    rw [E1.out]
    exact ⟨rfl, bW⟩
  ·have E1 := Lib.hid (idx_none (n := k) (by omega) HP.out)
   go_wp2_with fail
   go_ret
   rw [E1.out]
   exact ⟨rfl, bW⟩
theorem len_pos0 {α : Type} {l : List α} (h : ((l.length : Int) == 0) = true) : decide (0 < l.length) = false := by
 have h : (l.length : Int) = 0 := by simpa using h
 exact decide_eq_false (by omega)
theorem len_pos1 {α : Type} {l : List α} (h : ((l.length : Int) == 0) = false) : decide (0 < l.length) = true := by
 have h : ¬ (l.length : Int) = 0 := by simpa using h
 exact decide_eq_true (by omega)
theorem any_step {α : Type} {l : List α} {p : α → Bool} {i : Nat} {y : α} (he : l[i]? = some y) (hy : p y = true) : l.any p = true := List.any_eq_true.2 ⟨y, List.mem_of_getElem? he, hy⟩
theorem any_none {α : Type} {l : List α} {p : α → Bool} {n : Nat} (hn : l.length ≤ n) (h : ∀ (j : Nat) (x : α), j < n → l[j]? = some x → (fun (_ : Nat) x => p x) j x = false) : l.any p = false := by
 rw [List.any_eq_false]
 intro x hx
 obtain ⟨j, hj, rfl⟩ := List.getElem_of_mem hx
 rw [show p l[j] = false from h j _ (by omega) (List.getElem?_eq_getElem hj)]; decide
set_option maxHeartbeats 2000000 in
theorem rfits_c {ok : Nat → Prop} (v : Val) (f : Fld) {B : Option Addr} {d : Nat} (h : Sl kStr ok w (.slice B f.enum.length d) f.enum) : Calls Tryz.prog 108 #[.agg #[.int .i64 v.kind, .int .i64 v.int, .bool v.bool, .string ⟨v.text.toArray⟩, .float .f64 v.num], .agg #[.string ⟨f.name.toArray⟩, .int .i64 f.kind, .slice B f.enum.length d, .int .i64 f.init.kind, .int .i64 f.init.int, .bool f.init.bool, .string ⟨f.init.text.toArray⟩, .float .f64 f.init.num]] w (Ret w (.int .i64 (fitsF v f))) := by
 have SF := store_f64
 have HS := hidS h
 have E := Lib.hid (show fitsF v f = if !goodV v || v.kind != f.kind then 40 else if v.kind == 3 && decide (0 < f.enum.length) && !(f.enum.any fun x => x == v.text) then 60 else 0 from rfl)
 have KK := Lib.hid (show ∀ W : World, Below ((w.alloc (.cells #[.int .i64 v.kind, .int .i64 v.int, .bool v.bool, .string ⟨v.text.toArray⟩, .float .f64 v.num] 39)).alloc (.cells #[.string ⟨f.name.toArray⟩, .int .i64 f.kind, .slice B f.enum.length d, .int .i64 f.init.kind, .int .i64 f.init.int, .bool f.init.bool, .string ⟨f.init.text.toArray⟩, .float .f64 f.init.num] 41)).heap.size ((w.alloc (.cells #[.int .i64 v.kind, .int .i64 v.int, .bool v.bool, .string ⟨v.text.toArray⟩, .float .f64 v.num] 39)).alloc (.cells #[.string ⟨f.name.toArray⟩, .int .i64 f.kind, .slice B f.enum.length d, .int .i64 f.init.kind, .int .i64 f.init.int, .bool f.init.bool, .string ⟨f.init.text.toArray⟩, .float .f64 f.init.num] 41)) W → W.cell? ⟨w.heap.size, 0, none⟩ = some (.int .i64 v.kind) ∧ W.cell? ⟨w.heap.size, 1, none⟩ = some (.int .i64 v.int) ∧ W.cell? ⟨w.heap.size, 2, none⟩ = some (.bool v.bool) ∧ W.cell? ⟨w.heap.size, 3, none⟩ = some (.string ⟨v.text.toArray⟩) ∧ W.cell? ⟨w.heap.size, 4, none⟩ = some (.float .f64 v.num) ∧ W.cell? ⟨w.heap.size + 1, 0, none⟩ = some (.string ⟨f.name.toArray⟩) ∧ W.cell? ⟨w.heap.size + 1, 1, none⟩ = some (.int .i64 f.kind) ∧ W.cell? ⟨w.heap.size + 1, 2, none⟩ = some (.slice B f.enum.length d) ∧ W.cell? ⟨w.heap.size + 1, 3, none⟩ = some (.int .i64 f.init.kind) ∧ W.cell? ⟨w.heap.size + 1, 4, none⟩ = some (.int .i64 f.init.int) ∧ W.cell? ⟨w.heap.size + 1, 5, none⟩ = some (.bool f.init.bool) ∧ W.cell? ⟨w.heap.size + 1, 6, none⟩ = some (.string ⟨f.init.text.toArray⟩) ∧ W.cell? ⟨w.heap.size + 1, 7, none⟩ = some (.float .f64 f.init.num) ∧ w.heap.size + 1 < W.heap.size from fun W hW => by
  have h1 : Loc1 w.heap.size 39 #[.int .i64 v.kind, .int .i64 v.int, .bool v.bool, .string ⟨v.text.toArray⟩, .float .f64 v.num] ((w.alloc (.cells #[.int .i64 v.kind, .int .i64 v.int, .bool v.bool, .string ⟨v.text.toArray⟩, .float .f64 v.num] 39)).alloc (.cells #[.string ⟨f.name.toArray⟩, .int .i64 f.kind, .slice B f.enum.length d, .int .i64 f.init.kind, .int .i64 f.init.int, .bool f.init.bool, .string ⟨f.init.text.toArray⟩, .float .f64 f.init.num] 41)) := (by (focus (repeat (first | with_reducible assumption | exact Loc1.newE _ _ _ (by simp) | with_reducible refine Loc1.al _ ?_ | with_reducible refine Loc1.dr ?_ | with_reducible refine Loc1.bel (by assumption) ?_))))
  have h2 : Loc1 (w.heap.size + 1) 41 #[.string ⟨f.name.toArray⟩, .int .i64 f.kind, .slice B f.enum.length d, .int .i64 f.init.kind, .int .i64 f.init.int, .bool f.init.bool, .string ⟨f.init.text.toArray⟩, .float .f64 f.init.num] ((w.alloc (.cells #[.int .i64 v.kind, .int .i64 v.int, .bool v.bool, .string ⟨v.text.toArray⟩, .float .f64 v.num] 39)).alloc (.cells #[.string ⟨f.name.toArray⟩, .int .i64 f.kind, .slice B f.enum.length d, .int .i64 f.init.kind, .int .i64 f.init.int, .bool f.init.bool, .string ⟨f.init.text.toArray⟩, .float .f64 f.init.num] 41)) := (by (focus (repeat (first | with_reducible assumption | exact Loc1.newE _ _ _ (by simp) | with_reducible refine Loc1.al _ ?_ | with_reducible refine Loc1.dr ?_ | with_reducible refine Loc1.bel (by assumption) ?_))))
  refine ⟨cell_of (h1.bel hW) 0, ?_⟩
  exact ⟨cell_of (h1.bel hW) 1, cell_of (h1.bel hW) 2, cell_of (h1.bel hW) 3, cell_of (h1.bel hW) 4, cell_of (h2.bel hW) 0, cell_of (h2.bel hW) 1, cell_of (h2.bel hW) 2, cell_of (h2.bel hW) 3, cell_of (h2.bel hW) 4, cell_of (h2.bel hW) 5, cell_of (h2.bel hW) 6, cell_of (h2.bel hW) 7, lt_of_heap (h2.bel hW)⟩)
 have hmax := h.len.2.2.1
 have hnc := h.len.2.1
 generalize fitsF v f = r at *
 clear h
 cases hg : goodV v
 ·have E1 := Lib.hid (show r = 40 from by rw [E.out]; simp [hg])
  go_enter Tryz.func108, Tryz.ntmps108
  go_wp2_with fail
  refine (good4_c v).mono ?_
  rintro x9 w1 ⟨rfl, hb1⟩
  obtain ⟨v0, v1, v2, v3, v4, c0, c1, c2, c3, c4, c5, c6, c7, hz⟩ := KK.out w1 bW
  go_wp2_with fail
  go_ret
  rw [E1.out]
  exact ⟨rfl, bW⟩
 cases hk : (v.kind != f.kind)
 rotate_left
 ·have E1 := Lib.hid (show r = 40 from by rw [E.out, hk]; simp)
  go_enter Tryz.func108, Tryz.ntmps108
  go_wp2_with fail
  refine (good4_c v).mono ?_
  rintro x9 w1 ⟨rfl, hb1⟩
  obtain ⟨v0, v1, v2, v3, v4, c0, c1, c2, c3, c4, c5, c6, c7, hz⟩ := KK.out w1 bW
  go_wp2_with fail
  go_ret
  rw [E1.out]
  exact ⟨rfl, bW⟩
 cases h0 : ((f.enum.length : Int) == 0)
 rotate_left
 ·have E1 := Lib.hid (show r = 0 from by rw [E.out, hg, hk, len_pos0 h0]; simp)
  go_enter Tryz.func108, Tryz.ntmps108
  go_wp2_with fail
  refine (good4_c v).mono ?_
  rintro x9 w1 ⟨rfl, hb1⟩
  obtain ⟨v0, v1, v2, v3, v4, c0, c1, c2, c3, c4, c5, c6, c7, hz⟩ := KK.out w1 bW
  go_wp2_with fail
  go_ret
  rw [E1.out]
  exact ⟨rfl, bW⟩
 cases h3 : (v.kind != 3)
 rotate_left
 ·have E1 := Lib.hid (show r = 0 from by rw [E.out, hg, hk, show (v.kind == 3) = false by simpa using h3]; simp)
  go_enter Tryz.func108, Tryz.ntmps108
  go_wp2_with fail
  refine (good4_c v).mono ?_
  rintro x9 w1 ⟨rfl, hb1⟩
  obtain ⟨v0, v1, v2, v3, v4, c0, c1, c2, c3, c4, c5, c6, c7, hz⟩ := KK.out w1 bW
  go_wp2_with fail
  go_ret
  rw [E1.out]
  exact ⟨rfl, bW⟩
 replace E := Lib.hid (show r = if f.enum.any fun x => x == v.text then 0 else 60 by
  rw [E.out, hg, hk, show (v.kind == 3) = true by simpa using h3, len_pos1 h0]
  cases f.enum.any fun x => x == v.text <;> simp)
 go_enter Tryz.func108, Tryz.ntmps108
 go_wp2_with fail
 refine (good4_c v).mono ?_
 rintro x9 w1 ⟨rfl, hb1⟩
 obtain ⟨v0, v1, v2, v3, v4, c0, c1, c2, c3, c4, c5, c6, c7, hz⟩ := KK.out w1 bW
 go_wp2_with fail
 clear v0 v1 v2 v3 v4 c0 c1 c2 c3 c4 c5 c6 c7 hz
 clear h0 h3 hg hk
 go_loopw [5] (fun x5 wr => ∃ k : Nat, k ≤ f.enum.length ∧ x5 = .int .i64 k ∧ (∀ j e, j < k → f.enum[j]? = some e → (fun (_ : Nat) e => e == v.text) j e = false) ∧ Below w1.heap.size w1 wr) (fun x5 _ => f.enum.length - (intOf x5).toNat)
 case atStart => exact ⟨0, Nat.zero_le _, rfl, allI_nil, Below.refl _ _⟩
 case round =>
  obtain ⟨k, hk, rfl, hp, hb⟩ := hrel
  have HP := Lib.hid hp
  clear hp
  obtain ⟨v0, v1, v2, v3, v4, c0, c1, c2, c3, c4, c5, c6, c7, hz⟩ := KK.out wr bW
  by_cases hlt : k < f.enum.length
  ·obtain ⟨ad, e, rfl, he, c0'⟩ := str_at (HS.out wr bW) hlt
   have HE := Lib.hid he
   clear he
   have hk1 : (0 : Int) ≤ (k : Int) := by omega
   have hk2 : (k : Int) < (f.enum.length : Int) := by omega
   cases hm : (e == v.text)
   ·have HM := Lib.hid hm
    go_wp2_with fail
    go_quiet ((fail))
    go_wp2_with fail
    go_roundw
    case rel => exact ⟨k + 1, by omega, by go_num, allI_step (q := fun _ e => e == v.text) HP.out HE.out HM.out, bW⟩
    case measure => simp [intOf]; omega
   ·have E1 := Lib.hid (show r = 0 by rw [E.out, any_step HE.out hm]; rfl)
    go_wp2_with fail
    go_quiet ((fail))
    go_wp2_with fail
    go_ret
    rw [E1.out]
    exact ⟨rfl, bW⟩
  ·have E1 := Lib.hid (show r = 60 by rw [E.out, any_none (n := k) (by omega) HP.out]; rfl)
   go_wp2_with fail
   go_ret
   rw [E1.out]
   exact ⟨rfl, bW⟩
end
end Go.Proofs.YtjnhgfmjehaalaaGreat
/- Chapter 6: the reference's fields and stages. -/
namespace Go.Proofs.YtjnhgfmjehaalaaGreat
open Go.RowKit
set_option linter.unusedVariables false
set_option linter.unusedSimpArgs false
theorem idx_le {α : Type} {p : α → Bool} {l : List α} {k : Nat} {y : α} (he : l[k]? = some y) (hy : p y = true) : idx p l ≤ (k : Int) := by
 have hk := (List.getElem?_eq_some_iff.1 he)
 unfold idx
 cases hf : l.findIdx? p with
 | none => show (-1 : Int) ≤ k; omega
 | some i =>
  rw [List.findIdx?_eq_some_iff_getElem] at hf
  obtain ⟨hi, _, hj⟩ := hf
  show (i : Int) ≤ k
  rcases Nat.lt_or_ge k i with h | h
  ·exfalso
   have := hj k h
   obtain ⟨hk1, hk2⟩ := hk
   rw [hk2] at this
   exact this hy
  ·omega
def pEnum (l : List (List UInt8)) (i : Nat) (s : List UInt8) : Bool := decide (s.length ≤ 32) && (idx (fun x => x == s) l == (i : Int))
def enumR (f : Fld) : Bool := (decide ((f.enum.length : Int) ≤ 4) && !(decide (0 < (f.enum.length : Int)) && f.kind != 3)) && allI (pEnum f.enum) f.enum
section
variable {w : World}
set_option maxHeartbeats 2000000 in
theorem renum_c {ok : Nat → Prop} (f : Fld) {B : Option Addr} {d : Nat} (h : Sl kStr ok w (.slice B f.enum.length d) f.enum) : Calls Tryz.prog 107 #[.agg #[.string ⟨f.name.toArray⟩, .int .i64 f.kind, .slice B f.enum.length d, .int .i64 f.init.kind, .int .i64 f.init.int, .bool f.init.bool, .string ⟨f.init.text.toArray⟩, .float .f64 f.init.num]] w (Ret w (.bool (enumR f))) := by
 have SF := store_f64
 have HS := hidS h
 have E := Lib.hid (show enumR f = ((decide ((f.enum.length : Int) ≤ 4) && !(decide (0 < (f.enum.length : Int)) && f.kind != 3)) && allI (pEnum f.enum) f.enum) from rfl)
 have hL := Loc1.new w 41 #[.string ⟨f.name.toArray⟩, .int .i64 f.kind, .slice B f.enum.length d, .int .i64 f.init.kind, .int .i64 f.init.int, .bool f.init.bool, .string ⟨f.init.text.toArray⟩, .float .f64 f.init.num]
 have B0 : Below w.heap.size w (w.alloc (.cells #[.string ⟨f.name.toArray⟩, .int .i64 f.kind, .slice B f.enum.length d, .int .i64 f.init.kind, .int .i64 f.init.int, .bool f.init.bool, .string ⟨f.init.text.toArray⟩, .float .f64 f.init.num] 41)) := bW
 have KK := kk8 hL
 have hmax := h.len.2.2.1
 have hnc := h.len.2.1
 generalize enumR f = r at *
 clear h hL
 cases hk3 : (f.kind != 3)
 all_goals cases hH : (decide ((f.enum.length : Int) ≤ 4) && !(decide (0 < (f.enum.length : Int)) && f.kind != 3))
 case false.false | true.false =>
  have E1 := Lib.hid (show r = false by rw [E.out, hH]; rfl)
  go_enter Tryz.func107, Tryz.ntmps107
  go_wp2_with fail
  all_goals first
   | (go_ret; rw [E1.out]; exact ⟨rfl, bW⟩)
   | (exfalso; simp [*] at hH; done)
   | (exfalso; simp [*] at hH; omega)
 all_goals
  replace E := Lib.hid (show r = allI (pEnum f.enum) f.enum by rw [E.out, hH]; rfl)
  have h4 : (f.enum.length : Int) ≤ 4 := by simp only [Bool.and_eq_true, decide_eq_true_eq] at hH; exact hH.1
  have h0 : (f.kind != 3) = true → (f.enum.length : Int) ≤ 0 := fun h => by
   rw [h] at hH
   simp only [Bool.and_eq_true, decide_eq_true_eq, Bool.not_eq_true', Bool.and_true, decide_eq_false_iff_not] at hH
   omega
  clear hH
  by_cases hpp : 0 < (f.enum.length : Int)
 all_goals try (exfalso; have h9 := h0 hk3; omega)
 all_goals
  clear h0
  go_enter Tryz.func107, Tryz.ntmps107
  go_wp2_with fail
  clear h4
  go_loopw [3] (fun x3 wr => ∃ k : Nat, k ≤ f.enum.length ∧ x3 = .int .i64 k ∧ (∀ j e, j < k → f.enum[j]? = some e → pEnum f.enum j e = true) ∧ Below (w.alloc (.cells #[.string ⟨f.name.toArray⟩, .int .i64 f.kind, .slice B f.enum.length d, .int .i64 f.init.kind, .int .i64 f.init.int, .bool f.init.bool, .string ⟨f.init.text.toArray⟩, .float .f64 f.init.num] 41)).heap.size (w.alloc (.cells #[.string ⟨f.name.toArray⟩, .int .i64 f.kind, .slice B f.enum.length d, .int .i64 f.init.kind, .int .i64 f.init.int, .bool f.init.bool, .string ⟨f.init.text.toArray⟩, .float .f64 f.init.num] 41)) wr) (fun x3 _ => f.enum.length - (intOf x3).toNat)
  case atStart => exact ⟨0, Nat.zero_le _, rfl, allI_nil, Below.refl _ _⟩
  case round =>
   obtain ⟨k, hk, rfl, hp, hb⟩ := hrel
   have HP := Lib.hid hp
   clear hp
   obtain ⟨⟨c0, c1, c2, c3, c4, c5, c6, c7⟩, hz⟩ := KK.out wr bW
   by_cases hlt : k < f.enum.length
   rotate_left
   ·have E1 := Lib.hid (E.out.trans (allI_yes (n := k) (by omega) HP.out))
    go_wp2_with fail
    go_ret
    rw [E1.out]
    exact ⟨rfl, bW⟩
   all_goals try (exfalso; omega)
   all_goals
    obtain ⟨ad, e, rfl, he, c0'⟩ := str_at (HS.out wr bW) hlt
    have HE := Lib.hid he
    clear he
    have HPE := Lib.hid (show pEnum f.enum k e = (decide (e.length ≤ 32) && (idx (fun x => x == e) f.enum == (k : Int))) from rfl)
    have hk1 : (0 : Int) ≤ (k : Int) := by omega
    have hk2 : (k : Int) < (f.enum.length : Int) := by omega
    by_cases hl : 32 < (e.length : Int)
    ·have E1 := Lib.hid (E.out.trans (allI_no HE.out (by rw [HPE.out, decide_eq_false (by omega)]; rfl)))
     go_wp2_with fail
     go_ret
     rw [E1.out]
     exact ⟨rfl, bW⟩
    ·go_wp2_with fail
     clear c0 c1 c2 c3 c4 c5 c6 c7 hz
     go_loopw [4] (fun x4 wx => ∃ i : Nat, i ≤ k ∧ x4 = .int .i64 i ∧ (∀ j x, j < i → f.enum[j]? = some x → (fun (_ : Nat) x => x == e) j x = false) ∧ Below wr.heap.size wr wx) (fun x4 _ => k - (intOf x4).toNat)
     case atStart => exact ⟨0, Nat.zero_le _, rfl, allI_nil, Below.refl _ _⟩
     case round =>
      obtain ⟨i, hi, rfl, hq, hbx⟩ := hrel
      have HQ := Lib.hid hq
      clear hq
      obtain ⟨⟨c0, c1, c2, c3, c4, c5, c6, c7⟩, hz⟩ := KK.out wr bW
      by_cases hlti : i < k
      ·obtain ⟨ad', x, ea, hx, cx⟩ := str_at (HS.out wr bW) (show i < f.enum.length by omega)
       obtain ⟨ad2, e2, ea2, he2, ce⟩ := str_at (HS.out wr bW) hlt
       injection ea with ea
       subst ea
       injection ea2 with ea2
       subst ea2
       have hee : e2 = e := by rw [HE.out] at he2; injection he2 with h; exact h.symm
       subst hee
       have HX := Lib.hid hx
       clear he2 hx
       have hi1 : (0 : Int) ≤ (i : Int) := by omega
       have hi2 : (i : Int) < (f.enum.length : Int) := by omega
       cases hm : (e2 == x)
       ·have HM := Lib.hid (show (x == e2) = false by rw [beq_eq_false_iff_ne] at hm ⊢; exact fun h => hm h.symm)
        go_wp2_with fail
        go_quiet ((fail))
        go_wp2_with fail
        go_roundw
        case rel => exact ⟨i + 1, by omega, by go_num, allI_step (q := fun _ x => x == e2) HQ.out HX.out HM.out, bW⟩
        case measure => simp [intOf]; omega
       ·have hid : idx (fun x => x == e2) f.enum ≤ (i : Int) := idx_le HX.out (by rw [beq_iff_eq] at hm ⊢; exact hm.symm)
        have E1 := Lib.hid (E.out.trans (allI_no HE.out (by
         rw [HPE.out, show (idx (fun x => x == e2) f.enum == (k : Int)) = false by rw [beq_eq_false_iff_ne]; omega, Bool.and_false])))
        clear hid
        go_wp2_with fail
        go_quiet ((fail))
        go_wp2_with fail
        go_ret
        rw [E1.out]
        exact ⟨rfl, bW⟩
      ·have hik : i = k := by omega
       have HM := Lib.hid (show pEnum f.enum k e = true by
        rw [HPE.out, decide_eq_true (by omega), idx_at (i := k) (p := fun x => x == e) (fun j x hj hx => HQ.out j x (by omega) hx) HE.out (by simp)]; simp)
       clear hik
       go_wp2_with fail
       go_roundw
       case rel => exact ⟨k + 1, by omega, by go_num, allI_step HP.out HE.out HM.out, bW⟩
       case measure => simp [intOf]; omega
end
end Go.Proofs.YtjnhgfmjehaalaaGreat
/- Chapter 6: the reference's fields and stages, all. -/
namespace Go.Proofs.YtjnhgfmjehaalaaGreat
open Go.RowKit
set_option linter.unusedVariables false
set_option linter.unusedSimpArgs false
def pField (c : Con) (i : Nat) (f : Fld) : Bool := named f.name && (idx (fun e => e.name == f.name) c.fields == (i : Int)) && decide (1 ≤ f.kind) && decide (f.kind ≤ 4) && enumR f && fitsF f.init f == 0
def fieldsR (c : Con) : Bool := decide ((c.fields.length : Int) ≤ 6) && allI (pField c) c.fields
section
variable {w : World}
set_option maxRecDepth 20000 in
set_option maxHeartbeats 2000000 in
theorem rfields_c {A B D : Option Addr} {a b d : Nat} {c : Con} (h : Sl kFld (fun _ => True) w (.slice A c.fields.length a) c.fields) : Calls Tryz.prog 62 #[.agg #[.string ⟨c.name.toArray⟩, .slice A c.fields.length a, .slice B c.stages.length b, .slice D c.moves.length d]] w (Ret w (.bool (fieldsR c))) := by
 have SF := store_f64
 have HS := hidS h
 have E := Lib.hid (show fieldsR c = (decide ((c.fields.length : Int) ≤ 6) && allI (pField c) c.fields) from rfl)
 have hmax := h.len.2.2.1
 have hnc := h.len.2.1
 generalize fieldsR c = r at *
 clear h
 have hL := Loc1.new w 26 #[.string ⟨c.name.toArray⟩, .slice A c.fields.length a, .slice B c.stages.length b, .slice D c.moves.length d]
 have B0 : Below w.heap.size w (w.alloc (.cells #[.string ⟨c.name.toArray⟩, .slice A c.fields.length a, .slice B c.stages.length b, .slice D c.moves.length d] 26)) := bW
 have KK := kk4 hL
 clear hL
 by_cases hN : (c.fields.length : Int) ≤ 6
 rotate_left
 ·have E1 := Lib.hid (show r = false by rw [E.out, decide_eq_false hN]; rfl)
  go_enter Tryz.func62, Tryz.ntmps62
  go_wp2_with fail
  go_ret
  rw [E1.out]
  exact ⟨rfl, bW⟩
 replace E := Lib.hid (show r = allI (pField c) c.fields by rw [E.out, decide_eq_true hN]; rfl)
 go_enter Tryz.func62, Tryz.ntmps62
 go_wp2_with fail
 clear hN
 go_loopw [3] (fun x3 wr => ∃ k : Nat, k ≤ c.fields.length ∧ x3 = .int .i64 k ∧ (∀ j e, j < k → c.fields[j]? = some e → pField c j e = true) ∧ Below (w.alloc (.cells #[.string ⟨c.name.toArray⟩, .slice A c.fields.length a, .slice B c.stages.length b, .slice D c.moves.length d] 26)).heap.size (w.alloc (.cells #[.string ⟨c.name.toArray⟩, .slice A c.fields.length a, .slice B c.stages.length b, .slice D c.moves.length d] 26)) wr) (fun x3 _ => c.fields.length - (intOf x3).toNat)
 case atStart => exact ⟨0, Nat.zero_le _, rfl, allI_nil, Below.refl _ _⟩
 case round =>
  obtain ⟨k, hk, rfl, hp, hb⟩ := hrel
  have HP := Lib.hid hp
  clear hp
  obtain ⟨⟨c0, c1, c2, c3⟩, hz⟩ := KK.out wr bW
  by_cases hlt : k < c.fields.length
  rotate_left
  ·have E1 := Lib.hid (E.out.trans (allI_yes (n := k) (by omega) HP.out))
   go_wp2_with fail
   go_ret
   rw [E1.out]
   exact ⟨rfl, bW⟩
  obtain ⟨ad, f, X, y, rfl, he, hs, q0, q1, q2, q3, q4, q5, q6, q7⟩ := fld_at (HS.out wr bW) hlt
  have HE := Lib.hid he
  have HX := hidS hs
  clear he hs
  go_upto_region 7 with (fail)
  have LX := Loc1.new wr 41 #[.string ⟨f.name.toArray⟩, .int .i64 f.kind, .slice X f.enum.length y, .int .i64 f.init.kind, .int .i64 f.init.int, .bool f.init.bool, .string ⟨f.init.text.toArray⟩, .float .f64 f.init.num]
  have hb0 : Below wr.heap.size wr (wr.alloc (.cells #[.string ⟨f.name.toArray⟩, .int .i64 f.kind, .slice X f.enum.length y, .int .i64 f.init.kind, .int .i64 f.init.int, .bool f.init.bool, .string ⟨f.init.text.toArray⟩, .float .f64 f.init.num] 41)) := bW
  generalize (wr.alloc (.cells #[.string ⟨f.name.toArray⟩, .int .i64 f.kind, .slice X f.enum.length y, .int .i64 f.init.kind, .int .i64 f.init.int, .bool f.init.bool, .string ⟨f.init.text.toArray⟩, .float .f64 f.init.num] 41)) = w5 at *
  have KX := kk8 LX
  have HPF := Lib.hid (show pField c k f = (named f.name && (idx (fun e => e.name == f.name) c.fields == (k : Int)) && decide (1 ≤ f.kind) && decide (f.kind ≤ 4) && enumR f && fitsF f.init f == 0) from rfl)
  have E0 := Lib.hid (show pField c k f = false → r = false from fun h => E.out.trans (allI_no HE.out h))
  have E1 := Lib.hid (show pField c k f = true → ∀ j e, j < k + 1 → c.fields[j]? = some e → pField c j e = true from fun h => allI_step HP.out HE.out h)
  clear q0 q1 q2 q3 q4 q5 q6 q7 c0 c1 c2 c3 hz LX E HE HP
  obtain ⟨⟨c0, c1, c2, c3⟩, hz⟩ := KK.out w5 bW; obtain ⟨⟨q0, q1, q2, q3, q4, q5, q6, q7⟩, hzx⟩ := KX.out w5 bW
  cases hix : (idx (fun e => e.name == f.name) c.fields != (k : Int))
  all_goals go_wp2_with (first
   | (go_at_call 61; refine (rname_c _).mono ?_; rintro x9 wz ⟨rfl, hb⟩; obtain ⟨⟨c0, c1, c2, c3⟩, hz⟩ := KK.out wz bW; obtain ⟨⟨q0, q1, q2, q3, q4, q5, q6, q7⟩, hzx⟩ := KX.out wz bW)
   | (go_at_call 106; refine (rfield_c (n := 0) f.name (HS.out _ bW)).mono ?_; rintro x9 wz ⟨rfl, hb⟩; obtain ⟨⟨c0, c1, c2, c3⟩, hz⟩ := KK.out wz bW; obtain ⟨⟨q0, q1, q2, q3, q4, q5, q6, q7⟩, hzx⟩ := KX.out wz bW)
   | (go_at_call 107; refine (renum_c f (HX.out _ bW)).mono ?_; rintro x9 wz ⟨rfl, hb⟩; obtain ⟨⟨c0, c1, c2, c3⟩, hz⟩ := KK.out wz bW; obtain ⟨⟨q0, q1, q2, q3, q4, q5, q6, q7⟩, hzx⟩ := KX.out wz bW)
   | (go_at_call 108; refine (rfits_c f.init f (HX.out _ bW)).mono ?_; rintro x9 wz ⟨rfl, hb⟩))
  all_goals have hix' : (idx (fun e => e.name == f.name) c.fields == (k : Int)) = !(idx (fun e => e.name == f.name) c.fields != (k : Int)) := by simp [bne]
  all_goals rw [hix] at hix'
  all_goals first
   | (go_ret
      rw [E0.out (HPF.out.trans (by first | (simp [*]; done) | (simp [*]; omega) | (simp_all; done) | (simp_all; omega)))]
      exact ⟨rfl, bW⟩)
   | (go_roundw
      case rel => exact ⟨k + 1, by omega, by go_num, E1.out (HPF.out.trans (by first | (simp [*]; done) | (simp [*]; omega) | (simp_all; done) | (simp_all; omega))), bW⟩
      case measure => simp [intOf]; omega)
end
end Go.Proofs.YtjnhgfmjehaalaaGreat
