/- Chapter 6: lists gone through by a function. -/
import Derived.Test.YtjnhgfmjehaalaaC1
namespace Go.Proofs.Ytjnhgfmjehaalaa
open Go.RowKit
set_option linter.unusedVariables false
set_option linter.unusedSimpArgs false
section
variable {w : World}
set_option maxRecDepth 20000 in
theorem ixf_s {ok : Nat → Prop} {A : Option Addr} {n c : Nat} {l : List _} {m : Nat} (g : FuncId) (caps : Array Value) (p : _ → Bool) (h : Sl kStr ok w (.slice A n c) l)
    (hgf : ∀ (args : Array Value) (W : World), (callFunc g args).run Try.prog W = .ok (.enter g args) W) (hg : ∀ (W : World) (e : List UInt8), Below w.heap.size w W → e ∈ l → Calls Try.prog g (#[.string ⟨e.toArray⟩] ++ caps) W (Ret W (.bool (p e)))) :
    Calls Try.prog 72 #[.slice A n c, .func (.func g) #[] caps] w (Ret w (.int .i64 (idx p l))) := by
  have H := Lib.hid h
  have HG := Lib.hid hg
  have HF := Lib.hid hgf
  have hmax := h.len.2.2.1
  have hnc := h.len.2.1
  clear h hg hgf
  go_enter Try.func72, Try.ntmps72
  go_wp2_with fail
  go_loopw [8] (fun v wr => ∃ k : Nat, k ≤ n ∧ v = .int .i64 k ∧ (∀ j x, j < k → l[j]? = some x → p x = false) ∧ Below w.heap.size w wr) (fun v _ => n - (intOf v).toNat)
  case atStart => exact ⟨0, Nat.zero_le _, rfl, fun j x hj => absurd hj (Nat.not_lt_zero _), Below.refl _ _⟩
  case round =>
    obtain ⟨k, hk, rfl, hp, hb⟩ := hrel
    have HP := Lib.hid hp
    clear hp
    by_cases hlt : k < n
    · obtain ⟨ad, e, rfl, he, c0⟩ := str_at (H.out.below hb) hlt
      have HE := Lib.hid he
      clear he
      go_wp2_with fail
      rw [HF.out, Oper.upon_enter]
      refine (HG.out _ e (by (focus (repeat (first | with_reducible exact Below.refl _ _ | with_reducible assumption | with_reducible refine bel_al _ ?_ | with_reducible refine bel_dr ?_ | with_reducible refine bel_dn _ ?_ | with_reducible refine bel_tr (by assumption) ?_)))) (List.mem_of_getElem? HE.out)).mono ?_
      rintro x9 w1 ⟨rfl, hb1⟩
      cases hm : p e
      · have HM := Lib.hid hm
        go_wp2_with fail
        go_roundw
        case rel => exact ⟨k + 1, by omega, by go_num, allI_step (q := fun _ x => p x) HP.out HE.out HM.out, (by (focus (repeat (first | with_reducible exact Below.refl _ _ | with_reducible assumption | with_reducible refine bel_al _ ?_ | with_reducible refine bel_dr ?_ | with_reducible refine bel_dn _ ?_ | with_reducible refine bel_tr (by assumption) ?_))))⟩
        case measure => simp [intOf]; omega
      · have E1 := Lib.hid (idx_at HP.out HE.out hm)
        go_wp2_with fail
        go_ret
        rw [E1.out]
        exact ⟨rfl, (by (focus (repeat (first | with_reducible exact Below.refl _ _ | with_reducible assumption | with_reducible refine bel_al _ ?_ | with_reducible refine bel_dr ?_ | with_reducible refine bel_dn _ ?_ | with_reducible refine bel_tr (by assumption) ?_))))⟩
    · have E1 := Lib.hid (idx_none (n := k) (by have := H.out.len.1; omega) HP.out)
      go_wp2_with fail
      go_ret
      rw [E1.out]
      exact ⟨rfl, hb⟩
theorem anf_s {ok : Nat → Prop} {A : Option Addr} {n c : Nat} {l : List _} {m : Nat} (g : FuncId) (caps : Array Value) (p : _ → Bool) (h : Sl kStr ok w (.slice A n c) l)
    (hgf : ∀ (args : Array Value) (W : World), (callFunc g args).run Try.prog W = .ok (.enter g args) W) (hg : ∀ (W : World) (e : List UInt8), Below w.heap.size w W → e ∈ l → Calls Try.prog g (#[.string ⟨e.toArray⟩] ++ caps) W (Ret W (.bool (p e)))) :
    Calls Try.prog 44 #[.slice A n c, .func (.func g) #[] caps] w (Ret w (.bool (l.any p))) := by
  have H := Lib.hid (ixf_s (m := m) g caps p h hgf hg)
  have E := Lib.hid (idx_any (p := p) (l := l))
  clear h hgf hg
  go_enter Try.func44, Try.ntmps44
  go_wp2_with fail
  refine H.out.mono ?_
  rintro x9 w1 ⟨rfl, hb1⟩
  generalize idx p l = r at *
  by_cases hr : 0 ≤ r
  · go_wp2_with fail
    go_ret
    rw [← E.out, decide_eq_true hr]
    exact ⟨rfl, (by (focus (repeat (first | with_reducible exact Below.refl _ _ | with_reducible assumption | with_reducible refine bel_al _ ?_ | with_reducible refine bel_dr ?_ | with_reducible refine bel_dn _ ?_ | with_reducible refine bel_tr (by assumption) ?_))))⟩
  · go_wp2_with fail
    go_ret
    rw [← E.out, decide_eq_false (by omega)]
    exact ⟨rfl, (by (focus (repeat (first | with_reducible exact Below.refl _ _ | with_reducible assumption | with_reducible refine bel_al _ ?_ | with_reducible refine bel_dr ?_ | with_reducible refine bel_dn _ ?_ | with_reducible refine bel_tr (by assumption) ?_))))⟩
set_option maxRecDepth 20000 in
theorem ixf_f {ok : Nat → Prop} {A : Option Addr} {n c : Nat} {l : List _} {m : Nat} (g : FuncId) (caps : Array Value) (p : _ → Bool) (h : Sl kFld ok w (.slice A n c) l)
    (hgf : ∀ (args : Array Value) (W : World), (callFunc g args).run Try.prog W = .ok (.enter g args) W) (hg : ∀ (W : World) (e : Fld) (B : Option Addr) (d : Nat), Below w.heap.size w W → e ∈ l → Sl kStr ok W (.slice B e.enum.length d) e.enum →Calls Try.prog g (#[.agg #[.string ⟨e.name.toArray⟩, .int .i64 e.kind, .slice B e.enum.length d, .int .i64 e.init.kind, .int .i64 e.init.int, .bool e.init.bool, .string ⟨e.init.text.toArray⟩, .float .f64 e.init.num]] ++ caps) W (Ret W (.bool (p e)))) :
    Calls Try.prog 43 #[.slice A n c, .func (.func g) #[] caps] w (Ret w (.int .i64 (idx p l))) := by
  have H := Lib.hid h
  have HG := Lib.hid hg
  have HF := Lib.hid hgf
  have hmax := h.len.2.2.1
  have hnc := h.len.2.1
  clear h hg hgf
  go_enter Try.func43, Try.ntmps43
  go_wp2_with fail
  go_loopw [8] (fun v wr => ∃ k : Nat, k ≤ n ∧ v = .int .i64 k ∧ (∀ j x, j < k → l[j]? = some x → p x = false) ∧ Below w.heap.size w wr) (fun v _ => n - (intOf v).toNat)
  case atStart => exact ⟨0, Nat.zero_le _, rfl, fun j x hj => absurd hj (Nat.not_lt_zero _), Below.refl _ _⟩
  case round =>
    obtain ⟨k, hk, rfl, hp, hb⟩ := hrel
    have HP := Lib.hid hp
    clear hp
    by_cases hlt : k < n
    · obtain ⟨ad, e, B, d, rfl, he, hs, c0, c1, c2, c3, c4, c5, c6, c7⟩ := fld_at (H.out.below hb) hlt
      have HE := Lib.hid he
      clear he
      go_wp2_with fail
      rw [HF.out, Oper.upon_enter]
      refine (HG.out _ e B d (by (focus (repeat (first | with_reducible exact Below.refl _ _ | with_reducible assumption | with_reducible refine bel_al _ ?_ | with_reducible refine bel_dr ?_ | with_reducible refine bel_dn _ ?_ | with_reducible refine bel_tr (by assumption) ?_)))) (List.mem_of_getElem? HE.out) hs).mono ?_
      rintro x9 w1 ⟨rfl, hb1⟩
      cases hm : p e
      · have HM := Lib.hid hm
        go_wp2_with fail
        go_roundw
        case rel => exact ⟨k + 1, by omega, by go_num, allI_step (q := fun _ x => p x) HP.out HE.out HM.out, (by (focus (repeat (first | with_reducible exact Below.refl _ _ | with_reducible assumption | with_reducible refine bel_al _ ?_ | with_reducible refine bel_dr ?_ | with_reducible refine bel_dn _ ?_ | with_reducible refine bel_tr (by assumption) ?_))))⟩
        case measure => simp [intOf]; omega
      · have E1 := Lib.hid (idx_at HP.out HE.out hm)
        go_wp2_with fail
        go_ret
        rw [E1.out]
        exact ⟨rfl, (by (focus (repeat (first | with_reducible exact Below.refl _ _ | with_reducible assumption | with_reducible refine bel_al _ ?_ | with_reducible refine bel_dr ?_ | with_reducible refine bel_dn _ ?_ | with_reducible refine bel_tr (by assumption) ?_))))⟩
    · have E1 := Lib.hid (idx_none (n := k) (by have := H.out.len.1; omega) HP.out)
      go_wp2_with fail
      go_ret
      rw [E1.out]
      exact ⟨rfl, hb⟩
theorem anf_f {ok : Nat → Prop} {A : Option Addr} {n c : Nat} {l : List _} {m : Nat} (g : FuncId) (caps : Array Value) (p : _ → Bool) (h : Sl kFld ok w (.slice A n c) l)
    (hgf : ∀ (args : Array Value) (W : World), (callFunc g args).run Try.prog W = .ok (.enter g args) W) (hg : ∀ (W : World) (e : Fld) (B : Option Addr) (d : Nat), Below w.heap.size w W → e ∈ l → Sl kStr ok W (.slice B e.enum.length d) e.enum →Calls Try.prog g (#[.agg #[.string ⟨e.name.toArray⟩, .int .i64 e.kind, .slice B e.enum.length d, .int .i64 e.init.kind, .int .i64 e.init.int, .bool e.init.bool, .string ⟨e.init.text.toArray⟩, .float .f64 e.init.num]] ++ caps) W (Ret W (.bool (p e)))) :
    Calls Try.prog 20 #[.slice A n c, .func (.func g) #[] caps] w (Ret w (.bool (l.any p))) := by
  have H := Lib.hid (ixf_f (m := m) g caps p h hgf hg)
  have E := Lib.hid (idx_any (p := p) (l := l))
  clear h hgf hg
  go_enter Try.func20, Try.ntmps20
  go_wp2_with fail
  refine H.out.mono ?_
  rintro x9 w1 ⟨rfl, hb1⟩
  generalize idx p l = r at *
  by_cases hr : 0 ≤ r
  · go_wp2_with fail
    go_ret
    rw [← E.out, decide_eq_true hr]
    exact ⟨rfl, (by (focus (repeat (first | with_reducible exact Below.refl _ _ | with_reducible assumption | with_reducible refine bel_al _ ?_ | with_reducible refine bel_dr ?_ | with_reducible refine bel_dn _ ?_ | with_reducible refine bel_tr (by assumption) ?_))))⟩
  · go_wp2_with fail
    go_ret
    rw [← E.out, decide_eq_false (by omega)]
    exact ⟨rfl, (by (focus (repeat (first | with_reducible exact Below.refl _ _ | with_reducible assumption | with_reducible refine bel_al _ ?_ | with_reducible refine bel_dr ?_ | with_reducible refine bel_dn _ ?_ | with_reducible refine bel_tr (by assumption) ?_))))⟩
set_option maxRecDepth 20000 in
theorem ixf_g {ok : Nat → Prop} {A : Option Addr} {n c : Nat} {l : List _} {m : Nat} (g : FuncId) (caps : Array Value) (p : _ → Bool) (h : Sl kStg ok w (.slice A n c) l)
    (hgf : ∀ (args : Array Value) (W : World), (callFunc g args).run Try.prog W = .ok (.enter g args) W) (hg : ∀ (W : World) (e : Stg) (B : Option Addr) (d : Nat), Below w.heap.size w W → e ∈ l → Sl kI ok W (.slice B e.orgs.length d) e.orgs →Calls Try.prog g (#[.agg #[.string ⟨e.name.toArray⟩, .int .i64 e.need, .slice B e.orgs.length d]] ++ caps) W (Ret W (.bool (p e)))) :
    Calls Try.prog 47 #[.slice A n c, .func (.func g) #[] caps] w (Ret w (.int .i64 (idx p l))) := by
  have H := Lib.hid h
  have HG := Lib.hid hg
  have HF := Lib.hid hgf
  have hmax := h.len.2.2.1
  have hnc := h.len.2.1
  clear h hg hgf
  go_enter Try.func47, Try.ntmps47
  go_wp2_with fail
  go_loopw [8] (fun v wr => ∃ k : Nat, k ≤ n ∧ v = .int .i64 k ∧ (∀ j x, j < k → l[j]? = some x → p x = false) ∧ Below w.heap.size w wr) (fun v _ => n - (intOf v).toNat)
  case atStart => exact ⟨0, Nat.zero_le _, rfl, fun j x hj => absurd hj (Nat.not_lt_zero _), Below.refl _ _⟩
  case round =>
    obtain ⟨k, hk, rfl, hp, hb⟩ := hrel
    have HP := Lib.hid hp
    clear hp
    by_cases hlt : k < n
    · obtain ⟨ad, e, B, d, rfl, he, hs, c0, c1, c2⟩ := stg_at (H.out.below hb) hlt
      have HE := Lib.hid he
      clear he
      go_wp2_with fail
      rw [HF.out, Oper.upon_enter]
      refine (HG.out _ e B d (by (focus (repeat (first | with_reducible exact Below.refl _ _ | with_reducible assumption | with_reducible refine bel_al _ ?_ | with_reducible refine bel_dr ?_ | with_reducible refine bel_dn _ ?_ | with_reducible refine bel_tr (by assumption) ?_)))) (List.mem_of_getElem? HE.out) hs).mono ?_
      rintro x9 w1 ⟨rfl, hb1⟩
      cases hm : p e
      · have HM := Lib.hid hm
        go_wp2_with fail
        go_roundw
        case rel => exact ⟨k + 1, by omega, by go_num, allI_step (q := fun _ x => p x) HP.out HE.out HM.out, (by (focus (repeat (first | with_reducible exact Below.refl _ _ | with_reducible assumption | with_reducible refine bel_al _ ?_ | with_reducible refine bel_dr ?_ | with_reducible refine bel_dn _ ?_ | with_reducible refine bel_tr (by assumption) ?_))))⟩
        case measure => simp [intOf]; omega
      · have E1 := Lib.hid (idx_at HP.out HE.out hm)
        go_wp2_with fail
        go_ret
        rw [E1.out]
        exact ⟨rfl, (by (focus (repeat (first | with_reducible exact Below.refl _ _ | with_reducible assumption | with_reducible refine bel_al _ ?_ | with_reducible refine bel_dr ?_ | with_reducible refine bel_dn _ ?_ | with_reducible refine bel_tr (by assumption) ?_))))⟩
    · have E1 := Lib.hid (idx_none (n := k) (by have := H.out.len.1; omega) HP.out)
      go_wp2_with fail
      go_ret
      rw [E1.out]
      exact ⟨rfl, hb⟩
theorem anf_g {ok : Nat → Prop} {A : Option Addr} {n c : Nat} {l : List _} {m : Nat} (g : FuncId) (caps : Array Value) (p : _ → Bool) (h : Sl kStg ok w (.slice A n c) l)
    (hgf : ∀ (args : Array Value) (W : World), (callFunc g args).run Try.prog W = .ok (.enter g args) W) (hg : ∀ (W : World) (e : Stg) (B : Option Addr) (d : Nat), Below w.heap.size w W → e ∈ l → Sl kI ok W (.slice B e.orgs.length d) e.orgs →Calls Try.prog g (#[.agg #[.string ⟨e.name.toArray⟩, .int .i64 e.need, .slice B e.orgs.length d]] ++ caps) W (Ret W (.bool (p e)))) :
    Calls Try.prog 25 #[.slice A n c, .func (.func g) #[] caps] w (Ret w (.bool (l.any p))) := by
  have H := Lib.hid (ixf_g (m := m) g caps p h hgf hg)
  have E := Lib.hid (idx_any (p := p) (l := l))
  clear h hgf hg
  go_enter Try.func25, Try.ntmps25
  go_wp2_with fail
  refine H.out.mono ?_
  rintro x9 w1 ⟨rfl, hb1⟩
  generalize idx p l = r at *
  by_cases hr : 0 ≤ r
  · go_wp2_with fail
    go_ret
    rw [← E.out, decide_eq_true hr]
    exact ⟨rfl, (by (focus (repeat (first | with_reducible exact Below.refl _ _ | with_reducible assumption | with_reducible refine bel_al _ ?_ | with_reducible refine bel_dr ?_ | with_reducible refine bel_dn _ ?_ | with_reducible refine bel_tr (by assumption) ?_))))⟩
  · go_wp2_with fail
    go_ret
    rw [← E.out, decide_eq_false (by omega)]
    exact ⟨rfl, (by (focus (repeat (first | with_reducible exact Below.refl _ _ | with_reducible assumption | with_reducible refine bel_al _ ?_ | with_reducible refine bel_dr ?_ | with_reducible refine bel_dn _ ?_ | with_reducible refine bel_tr (by assumption) ?_))))⟩
set_option maxRecDepth 20000 in
theorem ixf_m {ok : Nat → Prop} {A : Option Addr} {n c : Nat} {l : List _} {m : Nat} (g : FuncId) (caps : Array Value) (p : _ → Bool) (h : Sl (kMov m) ok w (.slice A n c) l)
    (hgf : ∀ (args : Array Value) (W : World), (callFunc g args).run Try.prog W = .ok (.enter g args) W) (hg : ∀ (W : World) (e : Mov) (k : Nat) (B : Option Addr) (b : Nat) (D : Option Addr) (d : Nat), Below w.heap.size w W → e ∈ l → m = k + 1 → Sl (kExp k) ok W (.slice B e.guard.kids.length b) e.guard.kids → Sl (kEff m) ok W (.slice D e.effects.length d) e.effects →Calls Try.prog g (#[.agg #[.string ⟨e.name.toArray⟩, .int .i64 e.frm, .int .i64 e.tgt, .int .i64 e.guard.op, .slice B e.guard.kids.length b, .string ⟨e.guard.name.toArray⟩, .int .i64 e.guard.val.kind, .int .i64 e.guard.val.int, .bool e.guard.val.bool, .string ⟨e.guard.val.text.toArray⟩, .float .f64 e.guard.val.num, .slice D e.effects.length d, .int .i64 e.org]] ++ caps) W (Ret W (.bool (p e)))) :
    Calls Try.prog 48 #[.slice A n c, .func (.func g) #[] caps] w (Ret w (.int .i64 (idx p l))) := by
  have H := Lib.hid h
  have HG := Lib.hid hg
  have HF := Lib.hid hgf
  have hmax := h.len.2.2.1
  have hnc := h.len.2.1
  clear h hg hgf
  go_enter Try.func48, Try.ntmps48
  go_wp2_with fail
  go_loopw [8] (fun v wr => ∃ k : Nat, k ≤ n ∧ v = .int .i64 k ∧ (∀ j x, j < k → l[j]? = some x → p x = false) ∧ Below w.heap.size w wr) (fun v _ => n - (intOf v).toNat)
  case atStart => exact ⟨0, Nat.zero_le _, rfl, fun j x hj => absurd hj (Nat.not_lt_zero _), Below.refl _ _⟩
  case round =>
    obtain ⟨k, hk, rfl, hp, hb⟩ := hrel
    have HP := Lib.hid hp
    clear hp
    by_cases hlt : k < n
    · obtain ⟨ad, e, k', B, b, D, d, rfl, he, hk', hs, hs', c0, c1, c2, c3, c4, c5, c6, c7, c8, c9, c10, c11, c12⟩ := mov_at (H.out.below hb) hlt
      have HE := Lib.hid he
      have HK := Lib.hid hk'; clear hk';clear he
      go_wp2_with fail
      rw [HF.out, Oper.upon_enter]
      refine (HG.out _ e k' B b D d (by (focus (repeat (first | with_reducible exact Below.refl _ _ | with_reducible assumption | with_reducible refine bel_al _ ?_ | with_reducible refine bel_dr ?_ | with_reducible refine bel_dn _ ?_ | with_reducible refine bel_tr (by assumption) ?_)))) (List.mem_of_getElem? HE.out) HK.out hs hs').mono ?_
      rintro x9 w1 ⟨rfl, hb1⟩
      cases hm : p e
      · have HM := Lib.hid hm
        go_wp2_with fail
        go_roundw
        case rel => exact ⟨k + 1, by omega, by go_num, allI_step (q := fun _ x => p x) HP.out HE.out HM.out, (by (focus (repeat (first | with_reducible exact Below.refl _ _ | with_reducible assumption | with_reducible refine bel_al _ ?_ | with_reducible refine bel_dr ?_ | with_reducible refine bel_dn _ ?_ | with_reducible refine bel_tr (by assumption) ?_))))⟩
        case measure => simp [intOf]; omega
      · have E1 := Lib.hid (idx_at HP.out HE.out hm)
        go_wp2_with fail
        go_ret
        rw [E1.out]
        exact ⟨rfl, (by (focus (repeat (first | with_reducible exact Below.refl _ _ | with_reducible assumption | with_reducible refine bel_al _ ?_ | with_reducible refine bel_dr ?_ | with_reducible refine bel_dn _ ?_ | with_reducible refine bel_tr (by assumption) ?_))))⟩
    · have E1 := Lib.hid (idx_none (n := k) (by have := H.out.len.1; omega) HP.out)
      go_wp2_with fail
      go_ret
      rw [E1.out]
      exact ⟨rfl, hb⟩
theorem anf_m {ok : Nat → Prop} {A : Option Addr} {n c : Nat} {l : List _} {m : Nat} (g : FuncId) (caps : Array Value) (p : _ → Bool) (h : Sl (kMov m) ok w (.slice A n c) l)
    (hgf : ∀ (args : Array Value) (W : World), (callFunc g args).run Try.prog W = .ok (.enter g args) W) (hg : ∀ (W : World) (e : Mov) (k : Nat) (B : Option Addr) (b : Nat) (D : Option Addr) (d : Nat), Below w.heap.size w W → e ∈ l → m = k + 1 → Sl (kExp k) ok W (.slice B e.guard.kids.length b) e.guard.kids → Sl (kEff m) ok W (.slice D e.effects.length d) e.effects →Calls Try.prog g (#[.agg #[.string ⟨e.name.toArray⟩, .int .i64 e.frm, .int .i64 e.tgt, .int .i64 e.guard.op, .slice B e.guard.kids.length b, .string ⟨e.guard.name.toArray⟩, .int .i64 e.guard.val.kind, .int .i64 e.guard.val.int, .bool e.guard.val.bool, .string ⟨e.guard.val.text.toArray⟩, .float .f64 e.guard.val.num, .slice D e.effects.length d, .int .i64 e.org]] ++ caps) W (Ret W (.bool (p e)))) :
    Calls Try.prog 30 #[.slice A n c, .func (.func g) #[] caps] w (Ret w (.bool (l.any p))) := by
  have H := Lib.hid (ixf_m (m := m) g caps p h hgf hg)
  have E := Lib.hid (idx_any (p := p) (l := l))
  clear h hgf hg
  go_enter Try.func30, Try.ntmps30
  go_wp2_with fail
  refine H.out.mono ?_
  rintro x9 w1 ⟨rfl, hb1⟩
  generalize idx p l = r at *
  by_cases hr : 0 ≤ r
  · go_wp2_with fail
    go_ret
    rw [← E.out, decide_eq_true hr]
    exact ⟨rfl, (by (focus (repeat (first | with_reducible exact Below.refl _ _ | with_reducible assumption | with_reducible refine bel_al _ ?_ | with_reducible refine bel_dr ?_ | with_reducible refine bel_dn _ ?_ | with_reducible refine bel_tr (by assumption) ?_))))⟩
  · go_wp2_with fail
    go_ret
    rw [← E.out, decide_eq_false (by omega)]
    exact ⟨rfl, (by (focus (repeat (first | with_reducible exact Below.refl _ _ | with_reducible assumption | with_reducible refine bel_al _ ?_ | with_reducible refine bel_dr ?_ | with_reducible refine bel_dn _ ?_ | with_reducible refine bel_tr (by assumption) ?_))))⟩
/-- the place of a text -/
theorem sidx_c {ok : Nat → Prop} {A : Option Addr} {n c : Nat} {l : List (List UInt8)} (s : List UInt8) (h : Sl kStr ok w (.slice A n c) l) :
    Calls Try.prog 71 #[.slice A n c, .string ⟨s.toArray⟩] w (Ret w (.int .i64 (idx (fun x => x == s) l))) := by
  have H := Lib.hid h
  have hmax := h.len.2.2.1
  have hnc := h.len.2.1
  clear h
  go_enter Try.func71, Try.ntmps71
  go_wp2_with fail
  go_loopw [8] (fun v wr => ∃ k : Nat, k ≤ n ∧ v = .int .i64 k ∧ (∀ j x, j < k → l[j]? = some x → (fun x => x == s) x = false) ∧ Below w.heap.size w wr) (fun v _ => n - (intOf v).toNat)
  case atStart => exact ⟨0, Nat.zero_le _, rfl, fun j x hj => absurd hj (Nat.not_lt_zero _), Below.refl _ _⟩
  case round =>
    obtain ⟨k, hk, rfl, hp, hb⟩ := hrel
    have HP := Lib.hid hp
    clear hp
    by_cases hlt : k < n
    · obtain ⟨ad, e, rfl, he, c0⟩ := str_at (H.out.below hb) hlt
      have HE := Lib.hid he
      clear he
      by_cases hm : s = e
      · have E1 := Lib.hid (idx_at HP.out HE.out (by rw [hm]; simp))
        have hm' : (s == e) = true := by simpa using hm
        clear hm
        go_wp2_with fail
        go_ret
        rw [E1.out]
        exact ⟨rfl, hb⟩
      · have HM := Lib.hid (show (fun x => x == s) e = false by simpa using fun h : e = s => hm h.symm)
        have hm' : (s == e) = false := by simpa using hm
        clear hm
        go_wp2_with fail
        go_roundw
        case rel => exact ⟨k + 1, by omega, by go_num, allI_step (q := fun _ x => x == s) HP.out HE.out HM.out, hb⟩
        case measure => simp [intOf]; omega
    · have E1 := Lib.hid (idx_none (n := k) (by have := H.out.len.1; omega) HP.out)
      go_wp2_with fail
      go_ret
      rw [E1.out]
      exact ⟨rfl, hb⟩
theorem shas_c {ok : Nat → Prop} {A : Option Addr} {n c : Nat} {l : List (List UInt8)} (s : List UInt8) (h : Sl kStr ok w (.slice A n c) l) :
    Calls Try.prog 74 #[.slice A n c, .string ⟨s.toArray⟩] w (Ret w (.bool (l.any fun x => x == s))) := by
  have H := Lib.hid (sidx_c s h)
  have E := Lib.hid (idx_any (p := fun x => x == s) (l := l))
  clear h
  go_enter Try.func74, Try.ntmps74
  go_wp2_with fail
  refine H.out.mono ?_
  rintro x9 w1 ⟨rfl, hb1⟩
  generalize idx (fun x => x == s) l = r at *
  by_cases hr : 0 ≤ r
  · go_wp2_with fail
    go_ret
    rw [← E.out, decide_eq_true hr]
    exact ⟨rfl, (by (focus (repeat (first | with_reducible exact Below.refl _ _ | with_reducible assumption | with_reducible refine bel_al _ ?_ | with_reducible refine bel_dr ?_ | with_reducible refine bel_dn _ ?_ | with_reducible refine bel_tr (by assumption) ?_))))⟩
  · go_wp2_with fail
    go_ret
    rw [← E.out, decide_eq_false (by omega)]
    exact ⟨rfl, (by (focus (repeat (first | with_reducible exact Below.refl _ _ | with_reducible assumption | with_reducible refine bel_al _ ?_ | with_reducible refine bel_dr ?_ | with_reducible refine bel_dn _ ?_ | with_reducible refine bel_tr (by assumption) ?_))))⟩
/-- no text stands twice -/
def apartB (l : List (List UInt8)) : Bool := allI (fun i s => idx (fun x => x == s) l == (i : Int)) l
theorem apart_c {ok : Nat → Prop} {A : Option Addr} {n c : Nat} {l : List (List UInt8)} (h : Sl kStr ok w (.slice A n c) l) :
    Calls Try.prog 42 #[.slice A n c] w (Ret w (.bool (apartB l))) := by
  have H := Lib.hid h
  have hmax := h.len.2.2.1
  have hnc := h.len.2.1
  have E := Lib.hid (show apartB l = allI (fun i s => idx (fun x => x == s) l == (i : Int)) l from rfl)
  generalize apartB l = r at *
  clear h
  go_enter Try.func42, Try.ntmps42
  go_wp2_with fail
  go_loopw [7] (fun v wr => ∃ k : Nat, k ≤ n ∧ v = .int .i64 k ∧ (∀ j x, j < k → l[j]? = some x → (fun (i : Nat) s => idx (fun x => x == s) l == (i : Int)) j x = true) ∧ Below w.heap.size w wr) (fun v _ => n - (intOf v).toNat)
  case atStart => exact ⟨0, Nat.zero_le _, rfl, fun j x hj => absurd hj (Nat.not_lt_zero _), Below.refl _ _⟩
  case round =>
    obtain ⟨k, hk, rfl, hp, hb⟩ := hrel
    have HP := Lib.hid hp
    clear hp
    by_cases hlt : k < n
    · obtain ⟨ad, e, rfl, he, c0⟩ := str_at (H.out.below hb) hlt
      have HE := Lib.hid he
      clear he
      go_wp2_with fail
      refine (sidx_c e (H.out.below (by (focus (repeat (first | with_reducible exact Below.refl _ _ | with_reducible assumption | with_reducible refine bel_al _ ?_ | with_reducible refine bel_dr ?_ | with_reducible refine bel_dn _ ?_ | with_reducible refine bel_tr (by assumption) ?_)))))).mono ?_
      rintro x9 w1 ⟨rfl, hb1⟩
      have HI := Lib.hid (show (idx (fun x => x == e) l == (k : Int)) = (fun (i : Nat) s => idx (fun x => x == s) l == (i : Int)) k e from rfl)
      generalize idx (fun x => x == e) l = r1 at HI ⊢
      by_cases hm : r1 = (k : Int)
      · have HM := Lib.hid (show (fun (i : Nat) s => idx (fun x => x == s) l == (i : Int)) k e = true by rw [← HI.out, hm]; simp)
        have hm' : (r1 != (k : Int)) = false := by simpa using hm
        clear hm
        go_wp2_with fail
        go_roundw
        case rel => exact ⟨k + 1, by omega, by go_num, allI_step HP.out HE.out HM.out, (by (focus (repeat (first | with_reducible exact Below.refl _ _ | with_reducible assumption | with_reducible refine bel_al _ ?_ | with_reducible refine bel_dr ?_ | with_reducible refine bel_dn _ ?_ | with_reducible refine bel_tr (by assumption) ?_))))⟩
        case measure => simp [intOf]; omega
      · have E1 := Lib.hid (E.out.trans (allI_no HE.out (HI.out.symm.trans (by simpa using hm))))
        have hm' : (r1 != (k : Int)) = true := by simpa using hm
        clear hm
        go_wp2_with fail
        go_ret
        rw [E1.out]
        exact ⟨rfl, (by (focus (repeat (first | with_reducible exact Below.refl _ _ | with_reducible assumption | with_reducible refine bel_al _ ?_ | with_reducible refine bel_dr ?_ | with_reducible refine bel_dn _ ?_ | with_reducible refine bel_tr (by assumption) ?_))))⟩
    · have E1 := Lib.hid (E.out.trans (allI_yes (n := k) (by have := H.out.len.1; omega) HP.out))
      go_wp2_with fail
      go_ret
      rw [E1.out]
      exact ⟨rfl, hb⟩
end
end Go.Proofs.Ytjnhgfmjehaalaa
