/- Texts that go together. -/
import Derived.Test.YtijlamajcdekkaaE15a
import Derived.Test.YtijlamajcdekkaaE15b
import Derived.Test.YtijlamajcdekkaaE15c
import Derived.Test.YtijlamajcdekkaaE15d
import Derived.Test.YtijlamajcdekkaaE15e
import Derived.Test.YtijlamajcdekkaaE15f
import Derived.Test.YtijlamajcdekkaaE15g
import Derived.Test.YtijlamajcdekkaaMC
import Derived.Test.YtijlamajcdekkaaE15
/- Package expr, walked: eval, whole. -/
namespace Go.Proofs.Ytijlamajcdekkaa
open Go.RowKit
theorem eval_all {A A2 : Option Addr} {N c c2 : Nat} {fl : List Fld} {vs : List Val} : ∀ n : Nat, EvalOk A A2 N c c2 fl vs n
  | 0 => fun _ _ _ _ h => h.elim
  | n + 1 => fun w cs e k h hf hv hk => by
    have ih := eval_all (A := A) (A2 := A2) (N := N) (c := c) (c2 := c2) (fl := fl) (vs := vs) n
    have ha := kE_ari hk
    by_cases h1 : e.op = 1
    · exact eval_const ih h hf hv hk h1
    by_cases h2 : e.op = 2
    · exact eval_field ih h hf hv hk h2
    by_cases h3 : e.op = 3
    · exact eval_neg ih h hf hv hk h3
    by_cases h8 : e.op = 8
    · exact eval_eq ih h hf hv hk h8
    by_cases h9 : e.op = 9
    · exact eval_less ih h hf hv hk h9
    by_cases h10 : e.op = 10
    · exact eval_and ih h hf hv hk h10
    by_cases h11 : e.op = 11
    · exact eval_or ih h hf hv hk h11
    by_cases h12 : e.op = 12
    · exact eval_not ih h hf hv hk h12
    by_cases h13 : e.op = 13
    · exact eval_if ih h hf hv hk h13
    by_cases h16 : e.op = 16
    · exact eval_num ih h hf hv hk h16
    · refine eval_reck ih h hf hv hk ?_
      unfold ariF at ha
      unfold isR
      omega
theorem eval_c {A A2 : Option Addr} {N c c2 : Nat} {fl : List Fld} {vs : List Val} (n : Nat) {w : World} {cs : List Value} {e : Exp} {k : Int} (h : (kExp n).R (fun _ => True) w cs e) (hf : Sl kFld (fun _ => True) w (.slice A N c) fl) (hv : Sl kVal (fun _ => True) w (.slice A2 N c2) vs) (hk : kE fl n e = .ok k) :
    Calls Try.prog 37 #[.agg #[.slice A N c, .slice A2 N c2], .agg cs.toArray] w (RetV w (evE fl vs n e)) := eval_all n w cs e k h hf hv hk
end Go.Proofs.Ytijlamajcdekkaa

/- The reference's Fit, walked: do values fit fields? -/
namespace Go.Proofs.Ytijlamajcdekkaa
open Go.RowKit
set_option linter.unusedVariables false
/-- do values fit fields, one by one? -/
def fitB : List Fld → List Val → Bool
  | [], [] => true
  | f :: fl, v :: vs => goodV v && v.kind == f.kind && fitB fl vs
  | _, _ => false
theorem fitB_len : ∀ {fl : List Fld} {vs : List Val}, fitB fl vs = true → fl.length = vs.length
  | [], [], _ => rfl
  | [], _ :: _, h => by cases h
  | _ :: _, [], h => by cases h
  | f :: fl, v :: vs, h => by
    rw [fitB, Bool.and_eq_true] at h
    rw [List.length_cons, List.length_cons, fitB_len h.2]
theorem fitB_at : ∀ {fl : List Fld} {vs : List Val}, fitB fl vs = true → ∀ {i : Nat} {f : Fld} {v : Val}, fl[i]? = some f → vs[i]? = some v → goodV v = true ∧ v.kind = f.kind
  | [], [], _, i, f, v, hf, _ => by simp at hf
  | [], _ :: _, h, _, _, _, _, _ => by cases h
  | _ :: _, [], h, _, _, _, _, _ => by cases h
  | f :: fl, v :: vs, h, 0, f', v', hf, hv => by
    rw [fitB, Bool.and_eq_true, Bool.and_eq_true] at h
    simp at hf hv
    subst hf hv
    exact ⟨h.1.1, by simpa using h.1.2⟩
  | f :: fl, v :: vs, h, i + 1, f', v', hf, hv => by
    rw [fitB, Bool.and_eq_true] at h
    exact fitB_at h.2 (by simpa using hf) (by simpa using hv)
theorem fitB_of : ∀ {fl : List Fld} {vs : List Val}, fl.length = vs.length → (∀ (i : Nat) (f : Fld) (v : Val), fl[i]? = some f → vs[i]? = some v → goodV v = true ∧ v.kind = f.kind) → fitB fl vs = true
  | [], [], _, _ => rfl
  | [], _ :: _, h, _ => by cases h
  | _ :: _, [], h, _ => by cases h
  | f :: fl, v :: vs, h, hh => by
    have h0 := hh 0 f v rfl rfl
    have := fitB_of (fl := fl) (vs := vs) (by simpa using h) fun i f v hf hv => hh (i + 1) f v (by simpa using hf) (by simpa using hv)
    rw [fitB, this, h0.1, Bool.and_true, Bool.true_and]
    simpa using h0.2
theorem fitB_no {fl : List Fld} {vs : List Val} {i : Nat} {f : Fld} {v : Val} (hf : fl[i]? = some f) (hv : vs[i]? = some v) (h : ¬ (goodV v = true ∧ v.kind = f.kind)) : fitB fl vs = false := by
  cases hb : fitB fl vs with
  | false => rfl
  | true => exact absurd (fitB_at hb hf hv) h
theorem fitB_ne {fl : List Fld} {vs : List Val} (h : ¬ fl.length = vs.length) : fitB fl vs = false := by
  cases hb : fitB fl vs with
  | false => rfl
  | true => exact absurd (fitB_len hb) h
section
variable {ok ok2 : Nat → Prop} {w : World} {A A2 : Option Addr} {N N2 c c2 : Nat}
set_option maxRecDepth 20000 in
set_option maxHeartbeats 2000000 in
theorem fit_c {fl : List Fld} {vs : List Val} (hf : Sl kFld ok w (.slice A N c) fl) (hv : Sl kVal ok2 w (.slice A2 N2 c2) vs) : Calls Try.prog 10 #[.slice A N c, .slice A2 N2 c2] w (Ret w (.bool (fitB fl vs))) := by
  have HF := Lib.hid hf
  have HV := Lib.hid hv
  have lf := hf.len
  have lv := hv.len
  clear hf hv
  by_cases hN : N = N2
  · subst hN
    have hNc := lf.2.1
    have hNm := lf.2.2.1
    have hNc2 := lv.2.1
    have hNm2 := lv.2.2.1
    have E1 := lf.1
    have E2 := lv.1
    have EL := Lib.hid (show fl.length = vs.length by omega)
    have EF := Lib.hid E1
    clear lf lv E1 E2
    go_enter Try.func10, Try.ntmps10
    go_wp2_with fail
    go_loopw [5] (fun v5 wr => ∃ i : Nat, i ≤ N ∧ v5 = .int .i64 i ∧ (∀ (j : Nat) (f : Fld) (v : Val), j < i → fl[j]? = some f → vs[j]? = some v → goodV v = true ∧ v.kind = f.kind) ∧ Below w.heap.size w wr) (fun v5 _ => N - (intOf v5).toNat)
    case atStart => exact ⟨0, Nat.zero_le _, rfl, fun j f v hj => absurd hj (Nat.not_lt_zero _), Below.refl _ _⟩
    case round =>
      obtain ⟨i, hi, rfl, hp, hb⟩ := hrel
      have HP := Lib.hid hp
      have HB := Lib.hid hb
      clear hp hb
      by_cases hlt : i < N
      · obtain ⟨ad, v, rfl, hv, c0, c1, c2_, c3, c4⟩ := val_at (HV.out.below HB.out) hlt
        obtain ⟨bd, f, D, dd, rfl, hf, -, d0, d1, -⟩ := fld_at (HF.out.below HB.out) hlt
        have HVi := Lib.hid hv
        have HFi := Lib.hid hf
        have HG := Lib.hid (fun W : World => good4_c (w := W) v)
        have KK := Lib.hid (show ∀ W : World, Below wr.heap.size wr W → W.cell? (ad.add (i * 5)) = some (.int .i64 v.kind) ∧ W.cell? ⟨(ad.add (i * 5)).block, (ad.add (i * 5)).off + 1, none⟩ = some (.int .i64 v.int) ∧ W.cell? ⟨(ad.add (i * 5)).block, (ad.add (i * 5)).off + 2, none⟩ = some (.bool v.bool) ∧ W.cell? ⟨(ad.add (i * 5)).block, (ad.add (i * 5)).off + 3, none⟩ = some (.string ⟨v.text.toArray⟩) ∧ W.cell? ⟨(ad.add (i * 5)).block, (ad.add (i * 5)).off + 4, none⟩ = some (.float .f64 v.num) ∧ W.cell? ⟨(bd.add (i * 8)).block, (bd.add (i * 8)).off + 1, none⟩ = some (.int .i64 f.kind) from
          fun W hW => ⟨keepC c0 hW, keepC c1 hW, keepC c2_ hW, keepC c3 hW, keepC c4 hW, keepC d1 hW⟩)
        have hi0 : (0 : Int) ≤ (i : Int) := by omega
        have hi1 : (i : Int) < (N : Int) := by omega
        clear hv hf c0 c1 c2_ c3 c4 d0 d1
        cases hg : goodV v
        · have E := Lib.hid (fitB_no HFi.out HVi.out (fun h => by rw [hg] at h; cases h.1))
          rw [hg] at HG
          go_wp2_with fail
          refine wp_region_held_drew (S := fun W => W.cell? (ad.add (i * 5)) = some (.int .i64 v.kind) ∧ W.cell? ⟨(ad.add (i * 5)).block, (ad.add (i * 5)).off + 1, none⟩ = some (.int .i64 v.int) ∧ W.cell? ⟨(ad.add (i * 5)).block, (ad.add (i * 5)).off + 2, none⟩ = some (.bool v.bool) ∧ W.cell? ⟨(ad.add (i * 5)).block, (ad.add (i * 5)).off + 3, none⟩ = some (.string ⟨v.text.toArray⟩) ∧ W.cell? ⟨(ad.add (i * 5)).block, (ad.add (i * 5)).off + 4, none⟩ = some (.float .f64 v.num) ∧ W.cell? ⟨(bd.add (i * 8)).block, (bd.add (i * 8)).off + 1, none⟩ = some (.int .i64 f.kind)) (by kernel_rfl) (KK.out _ (Below.refl _ _).drew) (fun hHeld => ?_)
          refine wpAnyH_take (i := 0) (oi := { dst := some 17, op := Op.move (Operand.tmp 1), type := 29, pos := "ref.go:129", after := #[], guard := none }) (v := .slice (some ad) N c2) rfl (by kernel_rfl) (by kernel_rfl) (by kernel_rfl) (fun _ _ _ h => h) (Or.inl ⟨by rfl, by (intro wz hSw; (try dsimp only at hSw); go_simp)⟩) (by assumption) ?_
          try simp only [Act.put, List.setIfInBounds_toArray, List.set_cons_zero, List.set_cons_succ]
          refine wpAnyH_take (i := 1) (oi := { dst := some 18, op := Op.move (Operand.tmp 5), type := 3, pos := "ref.go:129", after := #[], guard := none }) (v := .int .i64 (i : Int)) rfl (by kernel_rfl) (by kernel_rfl) (by kernel_rfl) (fun _ _ _ h => h) (Or.inl ⟨by rfl, by (intro wz hSw; (try dsimp only at hSw); go_simp)⟩) (by assumption) ?_
          try simp only [Act.put, List.setIfInBounds_toArray, List.set_cons_zero, List.set_cons_succ]
          refine wpAnyH_take (i := 2) (oi := { dst := some 19, op := Op.indexAddr 29 (Operand.tmp 17) (Operand.tmp 18), type := 0, pos := "ref.go:129", after := #[{ on := 0, ground := Ground.data }, { on := 1, ground := Ground.data }], guard := none }) (v := .pointer (some (ad.add (i * 5)))) rfl (by kernel_rfl) (by kernel_rfl) (by kernel_rfl) (fun _ _ _ h => h) (Or.inl ⟨by rfl, by (intro wz hSw; (try dsimp only at hSw); go_simp)⟩) (by assumption) ?_
          try simp only [Act.put, List.setIfInBounds_toArray, List.set_cons_zero, List.set_cons_succ]
          refine wpAnyH_take (i := 3) (oi := { dst := some 20, op := Op.load 25 (Operand.tmp 19), type := 25, pos := "ref.go:129", after := #[{ on := 2, ground := Ground.data }], guard := none }) (v := .agg #[.int .i64 v.kind, .int .i64 v.int, .bool v.bool, .string ⟨v.text.toArray⟩, .float .f64 v.num]) rfl (by kernel_rfl) (by kernel_rfl) (by kernel_rfl) (fun _ _ _ h => h) (Or.inl ⟨by rfl, by (intro wz hSw; (try dsimp only at hSw); go_simp)⟩) (by assumption) ?_
          try simp only [Act.put, List.setIfInBounds_toArray, List.set_cons_zero, List.set_cons_succ]
          refine wpAnyH_ready (rs := [4]) (by kernel_rfl) (by simp) ?_
          refine AllReadyH.cons (o := { dst := some 21, op := Op.call { callee := Callee.value (Operand.func 13), args := #[Operand.tmp 20], argTypes := #[25] }, type := 4, pos := "ref.go:129", after := #[{ on := 3, ground := Ground.data }], guard := none }) rfl (fun K hK => ?_) AllReadyH.nil
          go_simp
          refine (HG.out _).mono ?_
          rintro x9 w2 ⟨rfl, hb⟩
          have HB1 := Lib.hid (below_self (Below.refl wr.heap.size wr).drew hb)
          clear hb
          refine hK.out _ _ (KK.out _ HB1.out) (fun hHeld => ?_)
          clear hK K
          try simp only [Act.put, List.setIfInBounds_toArray, List.set_cons_zero, List.set_cons_succ]
          refine wpAnyH_take (i := 5) (oi := { dst := some 22, op := Op.unOp UnOp.not 4 (Operand.tmp 21), type := 4, pos := "ref.go:129", after := #[{ on := 4, ground := Ground.data }], guard := none }) (v := .bool true) rfl (by kernel_rfl) (by kernel_rfl) (by kernel_rfl) (fun _ _ _ h => h) (Or.inl ⟨by rfl, by (intro wz hSw; (try dsimp only at hSw); go_simp)⟩) (by assumption) ?_
          try simp only [Act.put, List.setIfInBounds_toArray, List.set_cons_zero, List.set_cons_succ]
          refine wpAnyH_take (i := 6) (oi := { dst := some 23, op := Op.move (Operand.tmp 22), type := 4, pos := "ref.go:129", after := #[{ on := 5, ground := Ground.data }, { on := 4, ground := Ground.chain }], guard := none }) (v := .bool true) rfl (by kernel_rfl) (by kernel_rfl) (by kernel_rfl) (fun _ _ _ h => h) (Or.inl ⟨by rfl, by (intro wz hSw; (try dsimp only at hSw); go_simp)⟩) (by assumption) ?_
          try simp only [Act.put, List.setIfInBounds_toArray, List.set_cons_zero, List.set_cons_succ]
          refine wpAnyH_take (i := 7) (oi := { dst := some 24, op := Op.move (Operand.tmp 1), type := 29, pos := "ref.go:129", after := #[{ on := 6, ground := Ground.guard }], guard := some (6, false) }) (v := undef) rfl (by kernel_rfl) (by kernel_rfl) (by kernel_rfl) (fun _ _ _ h => h) (Or.inr ⟨by rfl, rfl⟩) (by assumption) ?_
          try simp only [Act.put, List.setIfInBounds_toArray, List.set_cons_zero, List.set_cons_succ]
          refine wpAnyH_take (i := 8) (oi := { dst := some 25, op := Op.move (Operand.tmp 5), type := 3, pos := "ref.go:129", after := #[{ on := 6, ground := Ground.guard }], guard := some (6, false) }) (v := undef) rfl (by kernel_rfl) (by kernel_rfl) (by kernel_rfl) (fun _ _ _ h => h) (Or.inr ⟨by rfl, rfl⟩) (by assumption) ?_
          try simp only [Act.put, List.setIfInBounds_toArray, List.set_cons_zero, List.set_cons_succ]
          refine wpAnyH_take (i := 9) (oi := { dst := some 26, op := Op.indexAddr 29 (Operand.tmp 24) (Operand.tmp 25), type := 0, pos := "ref.go:129", after := #[{ on := 7, ground := Ground.data }, { on := 8, ground := Ground.data }, { on := 6, ground := Ground.guard }], guard := some (6, false) }) (v := undef) rfl (by kernel_rfl) (by kernel_rfl) (by kernel_rfl) (fun _ _ _ h => h) (Or.inr ⟨by rfl, rfl⟩) (by assumption) ?_
          try simp only [Act.put, List.setIfInBounds_toArray, List.set_cons_zero, List.set_cons_succ]
          refine wpAnyH_take (i := 10) (oi := { dst := some 27, op := Op.fieldAddr 25 (Operand.tmp 26) 0, type := 0, pos := "ref.go:129", after := #[{ on := 9, ground := Ground.data }, { on := 6, ground := Ground.guard }], guard := some (6, false) }) (v := undef) rfl (by kernel_rfl) (by kernel_rfl) (by kernel_rfl) (fun _ _ _ h => h) (Or.inr ⟨by rfl, rfl⟩) (by assumption) ?_
          try simp only [Act.put, List.setIfInBounds_toArray, List.set_cons_zero, List.set_cons_succ]
          refine wpAnyH_take (i := 11) (oi := { dst := some 28, op := Op.load 3 (Operand.tmp 27), type := 3, pos := "ref.go:129", after := #[{ on := 10, ground := Ground.data }, { on := 6, ground := Ground.guard }], guard := some (6, false) }) (v := undef) rfl (by kernel_rfl) (by kernel_rfl) (by kernel_rfl) (fun _ _ _ h => h) (Or.inr ⟨by rfl, rfl⟩) (by assumption) ?_
          try simp only [Act.put, List.setIfInBounds_toArray, List.set_cons_zero, List.set_cons_succ]
          refine wpAnyH_take (i := 12) (oi := { dst := some 29, op := Op.move (Operand.tmp 0), type := 28, pos := "ref.go:129", after := #[{ on := 6, ground := Ground.guard }], guard := some (6, false) }) (v := undef) rfl (by kernel_rfl) (by kernel_rfl) (by kernel_rfl) (fun _ _ _ h => h) (Or.inr ⟨by rfl, rfl⟩) (by assumption) ?_
          try simp only [Act.put, List.setIfInBounds_toArray, List.set_cons_zero, List.set_cons_succ]
          refine wpAnyH_take (i := 13) (oi := { dst := some 30, op := Op.move (Operand.tmp 5), type := 3, pos := "ref.go:129", after := #[{ on := 6, ground := Ground.guard }], guard := some (6, false) }) (v := undef) rfl (by kernel_rfl) (by kernel_rfl) (by kernel_rfl) (fun _ _ _ h => h) (Or.inr ⟨by rfl, rfl⟩) (by assumption) ?_
          try simp only [Act.put, List.setIfInBounds_toArray, List.set_cons_zero, List.set_cons_succ]
          refine wpAnyH_take (i := 14) (oi := { dst := some 31, op := Op.indexAddr 28 (Operand.tmp 29) (Operand.tmp 30), type := 0, pos := "ref.go:129", after := #[{ on := 12, ground := Ground.data }, { on := 13, ground := Ground.data }, { on := 6, ground := Ground.guard }], guard := some (6, false) }) (v := undef) rfl (by kernel_rfl) (by kernel_rfl) (by kernel_rfl) (fun _ _ _ h => h) (Or.inr ⟨by rfl, rfl⟩) (by assumption) ?_
          try simp only [Act.put, List.setIfInBounds_toArray, List.set_cons_zero, List.set_cons_succ]
          refine wpAnyH_take (i := 15) (oi := { dst := some 32, op := Op.fieldAddr 50 (Operand.tmp 31) 1, type := 0, pos := "ref.go:129", after := #[{ on := 14, ground := Ground.data }, { on := 6, ground := Ground.guard }], guard := some (6, false) }) (v := undef) rfl (by kernel_rfl) (by kernel_rfl) (by kernel_rfl) (fun _ _ _ h => h) (Or.inr ⟨by rfl, rfl⟩) (by assumption) ?_
          try simp only [Act.put, List.setIfInBounds_toArray, List.set_cons_zero, List.set_cons_succ]
          refine wpAnyH_take (i := 16) (oi := { dst := some 33, op := Op.load 3 (Operand.tmp 32), type := 3, pos := "ref.go:129", after := #[{ on := 15, ground := Ground.data }, { on := 6, ground := Ground.guard }], guard := some (6, false) }) (v := undef) rfl (by kernel_rfl) (by kernel_rfl) (by kernel_rfl) (fun _ _ _ h => h) (Or.inr ⟨by rfl, rfl⟩) (by assumption) ?_
          try simp only [Act.put, List.setIfInBounds_toArray, List.set_cons_zero, List.set_cons_succ]
          refine wpAnyH_take (i := 17) (oi := { dst := some 34, op := Op.binOp BinOp.neq 3 (Operand.tmp 28) (Operand.tmp 33) 3, type := 4, pos := "ref.go:129", after := #[{ on := 11, ground := Ground.data }, { on := 16, ground := Ground.data }, { on := 6, ground := Ground.guard }], guard := some (6, false) }) (v := undef) rfl (by kernel_rfl) (by kernel_rfl) (by kernel_rfl) (fun _ _ _ h => h) (Or.inr ⟨by rfl, rfl⟩) (by assumption) ?_
          try simp only [Act.put, List.setIfInBounds_toArray, List.set_cons_zero, List.set_cons_succ]
          refine wpAnyH_take (i := 18) (oi := { dst := some 35, op := Op.pick (Operand.tmp 23) (Operand.const (Value.bool true)) (Operand.tmp 34), type := 4, pos := "ref.go:129", after := #[{ on := 6, ground := Ground.data }, { on := 17, ground := Ground.data }], guard := none }) (v := .bool true) rfl (by kernel_rfl) (by kernel_rfl) (by kernel_rfl) (fun _ _ _ h => h) (Or.inl ⟨by rfl, by (intro wz hSw; (try dsimp only at hSw); go_simp)⟩) (by assumption) ?_
          try simp only [Act.put, List.setIfInBounds_toArray, List.set_cons_zero, List.set_cons_succ]
          refine wpAnyH_done (by kernel_rfl) ?_ _
          go_wp2_with fail
          go_ret
          rw [E.out]
          exact ⟨rfl, below_self HB.out HB1.out⟩
        · have HGo := Lib.hid hg
          rw [hg] at HG
          by_cases hk : v.kind = f.kind
          · have HKk := Lib.hid hk
            have hkn : (v.kind != f.kind) = false := by simpa using hk
            clear hk hg
            go_wp2_with fail
            refine wp_region_held_drew (S := fun W => W.cell? (ad.add (i * 5)) = some (.int .i64 v.kind) ∧ W.cell? ⟨(ad.add (i * 5)).block, (ad.add (i * 5)).off + 1, none⟩ = some (.int .i64 v.int) ∧ W.cell? ⟨(ad.add (i * 5)).block, (ad.add (i * 5)).off + 2, none⟩ = some (.bool v.bool) ∧ W.cell? ⟨(ad.add (i * 5)).block, (ad.add (i * 5)).off + 3, none⟩ = some (.string ⟨v.text.toArray⟩) ∧ W.cell? ⟨(ad.add (i * 5)).block, (ad.add (i * 5)).off + 4, none⟩ = some (.float .f64 v.num) ∧ W.cell? ⟨(bd.add (i * 8)).block, (bd.add (i * 8)).off + 1, none⟩ = some (.int .i64 f.kind)) (by kernel_rfl) (KK.out _ (Below.refl _ _).drew) (fun hHeld => ?_)
            refine wpAnyH_take (i := 0) (oi := { dst := some 17, op := Op.move (Operand.tmp 1), type := 29, pos := "ref.go:129", after := #[], guard := none }) (v := .slice (some ad) N c2) rfl (by kernel_rfl) (by kernel_rfl) (by kernel_rfl) (fun _ _ _ h => h) (Or.inl ⟨by rfl, by (intro wz hSw; (try dsimp only at hSw); go_simp)⟩) (by assumption) ?_
            try simp only [Act.put, List.setIfInBounds_toArray, List.set_cons_zero, List.set_cons_succ]
            refine wpAnyH_take (i := 1) (oi := { dst := some 18, op := Op.move (Operand.tmp 5), type := 3, pos := "ref.go:129", after := #[], guard := none }) (v := .int .i64 (i : Int)) rfl (by kernel_rfl) (by kernel_rfl) (by kernel_rfl) (fun _ _ _ h => h) (Or.inl ⟨by rfl, by (intro wz hSw; (try dsimp only at hSw); go_simp)⟩) (by assumption) ?_
            try simp only [Act.put, List.setIfInBounds_toArray, List.set_cons_zero, List.set_cons_succ]
            refine wpAnyH_take (i := 2) (oi := { dst := some 19, op := Op.indexAddr 29 (Operand.tmp 17) (Operand.tmp 18), type := 0, pos := "ref.go:129", after := #[{ on := 0, ground := Ground.data }, { on := 1, ground := Ground.data }], guard := none }) (v := .pointer (some (ad.add (i * 5)))) rfl (by kernel_rfl) (by kernel_rfl) (by kernel_rfl) (fun _ _ _ h => h) (Or.inl ⟨by rfl, by (intro wz hSw; (try dsimp only at hSw); go_simp)⟩) (by assumption) ?_
            try simp only [Act.put, List.setIfInBounds_toArray, List.set_cons_zero, List.set_cons_succ]
            refine wpAnyH_take (i := 3) (oi := { dst := some 20, op := Op.load 25 (Operand.tmp 19), type := 25, pos := "ref.go:129", after := #[{ on := 2, ground := Ground.data }], guard := none }) (v := .agg #[.int .i64 v.kind, .int .i64 v.int, .bool v.bool, .string ⟨v.text.toArray⟩, .float .f64 v.num]) rfl (by kernel_rfl) (by kernel_rfl) (by kernel_rfl) (fun _ _ _ h => h) (Or.inl ⟨by rfl, by (intro wz hSw; (try dsimp only at hSw); go_simp)⟩) (by assumption) ?_
            try simp only [Act.put, List.setIfInBounds_toArray, List.set_cons_zero, List.set_cons_succ]
            refine wpAnyH_ready (rs := [4]) (by kernel_rfl) (by simp) ?_
            refine AllReadyH.cons (o := { dst := some 21, op := Op.call { callee := Callee.value (Operand.func 13), args := #[Operand.tmp 20], argTypes := #[25] }, type := 4, pos := "ref.go:129", after := #[{ on := 3, ground := Ground.data }], guard := none }) rfl (fun K hK => ?_) AllReadyH.nil
            go_simp
            refine (HG.out _).mono ?_
            rintro x9 w2 ⟨rfl, hb⟩
            have HB1 := Lib.hid (below_self (Below.refl wr.heap.size wr).drew hb)
            clear hb
            refine hK.out _ _ (KK.out _ HB1.out) (fun hHeld => ?_)
            clear hK K
            try simp only [Act.put, List.setIfInBounds_toArray, List.set_cons_zero, List.set_cons_succ]
            refine wpAnyH_take (i := 5) (oi := { dst := some 22, op := Op.unOp UnOp.not 4 (Operand.tmp 21), type := 4, pos := "ref.go:129", after := #[{ on := 4, ground := Ground.data }], guard := none }) (v := .bool false) rfl (by kernel_rfl) (by kernel_rfl) (by kernel_rfl) (fun _ _ _ h => h) (Or.inl ⟨by rfl, by (intro wz hSw; (try dsimp only at hSw); go_simp)⟩) (by assumption) ?_
            try simp only [Act.put, List.setIfInBounds_toArray, List.set_cons_zero, List.set_cons_succ]
            refine wpAnyH_take (i := 6) (oi := { dst := some 23, op := Op.move (Operand.tmp 22), type := 4, pos := "ref.go:129", after := #[{ on := 5, ground := Ground.data }, { on := 4, ground := Ground.chain }], guard := none }) (v := .bool false) rfl (by kernel_rfl) (by kernel_rfl) (by kernel_rfl) (fun _ _ _ h => h) (Or.inl ⟨by rfl, by (intro wz hSw; (try dsimp only at hSw); go_simp)⟩) (by assumption) ?_
            try simp only [Act.put, List.setIfInBounds_toArray, List.set_cons_zero, List.set_cons_succ]
            refine wpAnyH_take (i := 7) (oi := { dst := some 24, op := Op.move (Operand.tmp 1), type := 29, pos := "ref.go:129", after := #[{ on := 6, ground := Ground.guard }], guard := some (6, false) }) (v := .slice (some ad) N c2) rfl (by kernel_rfl) (by kernel_rfl) (by kernel_rfl) (fun _ _ _ h => h) (Or.inl ⟨by rfl, by (intro wz hSw; (try dsimp only at hSw); go_simp)⟩) (by assumption) ?_
            try simp only [Act.put, List.setIfInBounds_toArray, List.set_cons_zero, List.set_cons_succ]
            refine wpAnyH_take (i := 8) (oi := { dst := some 25, op := Op.move (Operand.tmp 5), type := 3, pos := "ref.go:129", after := #[{ on := 6, ground := Ground.guard }], guard := some (6, false) }) (v := .int .i64 (i : Int)) rfl (by kernel_rfl) (by kernel_rfl) (by kernel_rfl) (fun _ _ _ h => h) (Or.inl ⟨by rfl, by (intro wz hSw; (try dsimp only at hSw); go_simp)⟩) (by assumption) ?_
            try simp only [Act.put, List.setIfInBounds_toArray, List.set_cons_zero, List.set_cons_succ]
            refine wpAnyH_take (i := 9) (oi := { dst := some 26, op := Op.indexAddr 29 (Operand.tmp 24) (Operand.tmp 25), type := 0, pos := "ref.go:129", after := #[{ on := 7, ground := Ground.data }, { on := 8, ground := Ground.data }, { on := 6, ground := Ground.guard }], guard := some (6, false) }) (v := .pointer (some (ad.add (i * 5)))) rfl (by kernel_rfl) (by kernel_rfl) (by kernel_rfl) (fun _ _ _ h => h) (Or.inl ⟨by rfl, by (intro wz hSw; (try dsimp only at hSw); go_simp)⟩) (by assumption) ?_
            try simp only [Act.put, List.setIfInBounds_toArray, List.set_cons_zero, List.set_cons_succ]
            refine wpAnyH_take (i := 10) (oi := { dst := some 27, op := Op.fieldAddr 25 (Operand.tmp 26) 0, type := 0, pos := "ref.go:129", after := #[{ on := 9, ground := Ground.data }, { on := 6, ground := Ground.guard }], guard := some (6, false) }) (v := .pointer (some (ad.add (i * 5)))) rfl (by kernel_rfl) (by kernel_rfl) (by kernel_rfl) (fun _ _ _ h => h) (Or.inl ⟨by rfl, by (intro wz hSw; (try dsimp only at hSw); go_simp)⟩) (by assumption) ?_
            try simp only [Act.put, List.setIfInBounds_toArray, List.set_cons_zero, List.set_cons_succ]
            refine wpAnyH_take (i := 11) (oi := { dst := some 28, op := Op.load 3 (Operand.tmp 27), type := 3, pos := "ref.go:129", after := #[{ on := 10, ground := Ground.data }, { on := 6, ground := Ground.guard }], guard := some (6, false) }) (v := .int .i64 v.kind) rfl (by kernel_rfl) (by kernel_rfl) (by kernel_rfl) (fun _ _ _ h => h) (Or.inl ⟨by rfl, by (intro wz hSw; (try dsimp only at hSw); go_simp)⟩) (by assumption) ?_
            try simp only [Act.put, List.setIfInBounds_toArray, List.set_cons_zero, List.set_cons_succ]
            refine wpAnyH_take (i := 12) (oi := { dst := some 29, op := Op.move (Operand.tmp 0), type := 28, pos := "ref.go:129", after := #[{ on := 6, ground := Ground.guard }], guard := some (6, false) }) (v := .slice (some bd) N c) rfl (by kernel_rfl) (by kernel_rfl) (by kernel_rfl) (fun _ _ _ h => h) (Or.inl ⟨by rfl, by (intro wz hSw; (try dsimp only at hSw); go_simp)⟩) (by assumption) ?_
            try simp only [Act.put, List.setIfInBounds_toArray, List.set_cons_zero, List.set_cons_succ]
            refine wpAnyH_take (i := 13) (oi := { dst := some 30, op := Op.move (Operand.tmp 5), type := 3, pos := "ref.go:129", after := #[{ on := 6, ground := Ground.guard }], guard := some (6, false) }) (v := .int .i64 (i : Int)) rfl (by kernel_rfl) (by kernel_rfl) (by kernel_rfl) (fun _ _ _ h => h) (Or.inl ⟨by rfl, by (intro wz hSw; (try dsimp only at hSw); go_simp)⟩) (by assumption) ?_
            try simp only [Act.put, List.setIfInBounds_toArray, List.set_cons_zero, List.set_cons_succ]
            refine wpAnyH_take (i := 14) (oi := { dst := some 31, op := Op.indexAddr 28 (Operand.tmp 29) (Operand.tmp 30), type := 0, pos := "ref.go:129", after := #[{ on := 12, ground := Ground.data }, { on := 13, ground := Ground.data }, { on := 6, ground := Ground.guard }], guard := some (6, false) }) (v := .pointer (some (bd.add (i * 8)))) rfl (by kernel_rfl) (by kernel_rfl) (by kernel_rfl) (fun _ _ _ h => h) (Or.inl ⟨by rfl, by (intro wz hSw; (try dsimp only at hSw); go_simp)⟩) (by assumption) ?_
            try simp only [Act.put, List.setIfInBounds_toArray, List.set_cons_zero, List.set_cons_succ]
            refine wpAnyH_take (i := 15) (oi := { dst := some 32, op := Op.fieldAddr 50 (Operand.tmp 31) 1, type := 0, pos := "ref.go:129", after := #[{ on := 14, ground := Ground.data }, { on := 6, ground := Ground.guard }], guard := some (6, false) }) (v := .pointer (some ⟨(bd.add (i * 8)).block, (bd.add (i * 8)).off + 1, none⟩)) rfl (by kernel_rfl) (by kernel_rfl) (by kernel_rfl) (fun _ _ _ h => h) (Or.inl ⟨by rfl, by (intro wz hSw; (try dsimp only at hSw); go_simp)⟩) (by assumption) ?_
            try simp only [Act.put, List.setIfInBounds_toArray, List.set_cons_zero, List.set_cons_succ]
            refine wpAnyH_take (i := 16) (oi := { dst := some 33, op := Op.load 3 (Operand.tmp 32), type := 3, pos := "ref.go:129", after := #[{ on := 15, ground := Ground.data }, { on := 6, ground := Ground.guard }], guard := some (6, false) }) (v := .int .i64 f.kind) rfl (by kernel_rfl) (by kernel_rfl) (by kernel_rfl) (fun _ _ _ h => h) (Or.inl ⟨by rfl, by (intro wz hSw; (try dsimp only at hSw); go_simp)⟩) (by assumption) ?_
            try simp only [Act.put, List.setIfInBounds_toArray, List.set_cons_zero, List.set_cons_succ]
            refine wpAnyH_take (i := 17) (oi := { dst := some 34, op := Op.binOp BinOp.neq 3 (Operand.tmp 28) (Operand.tmp 33) 3, type := 4, pos := "ref.go:129", after := #[{ on := 11, ground := Ground.data }, { on := 16, ground := Ground.data }, { on := 6, ground := Ground.guard }], guard := some (6, false) }) (v := .bool false) rfl (by kernel_rfl) (by kernel_rfl) (by kernel_rfl) (fun _ _ _ h => h) (Or.inl ⟨by rfl, by (intro wz hSw; (try dsimp only at hSw); go_simp)⟩) (by assumption) ?_
            try simp only [Act.put, List.setIfInBounds_toArray, List.set_cons_zero, List.set_cons_succ]
            refine wpAnyH_take (i := 18) (oi := { dst := some 35, op := Op.pick (Operand.tmp 23) (Operand.const (Value.bool true)) (Operand.tmp 34), type := 4, pos := "ref.go:129", after := #[{ on := 6, ground := Ground.data }, { on := 17, ground := Ground.data }], guard := none }) (v := .bool false) rfl (by kernel_rfl) (by kernel_rfl) (by kernel_rfl) (fun _ _ _ h => h) (Or.inl ⟨by rfl, by (intro wz hSw; (try dsimp only at hSw); go_simp)⟩) (by assumption) ?_
            try simp only [Act.put, List.setIfInBounds_toArray, List.set_cons_zero, List.set_cons_succ]
            refine wpAnyH_done (by kernel_rfl) ?_ _
            go_wp2_with fail
            go_roundw
            case rel =>
              refine ⟨i + 1, by omega, by go_num, fun j f' v' hj hf' hv' => ?_, below_self HB.out HB1.out⟩
              rcases Nat.lt_or_ge j i with h | h
              · exact HP.out j f' v' h hf' hv'
              · obtain rfl : j = i := by omega
                rw [HFi.out] at hf'
                rw [HVi.out] at hv'
                injection hf' with hf'
                injection hv' with hv'
                rw [← hf', ← hv']
                exact ⟨HGo.out, HKk.out⟩
            case measure => simp [intOf]; omega
          · have E := Lib.hid (fitB_no HFi.out HVi.out (fun h => hk h.2))
            have hkn : (v.kind != f.kind) = true := by simpa using hk
            clear hk hg
            go_wp2_with fail
            refine wp_region_held_drew (S := fun W => W.cell? (ad.add (i * 5)) = some (.int .i64 v.kind) ∧ W.cell? ⟨(ad.add (i * 5)).block, (ad.add (i * 5)).off + 1, none⟩ = some (.int .i64 v.int) ∧ W.cell? ⟨(ad.add (i * 5)).block, (ad.add (i * 5)).off + 2, none⟩ = some (.bool v.bool) ∧ W.cell? ⟨(ad.add (i * 5)).block, (ad.add (i * 5)).off + 3, none⟩ = some (.string ⟨v.text.toArray⟩) ∧ W.cell? ⟨(ad.add (i * 5)).block, (ad.add (i * 5)).off + 4, none⟩ = some (.float .f64 v.num) ∧ W.cell? ⟨(bd.add (i * 8)).block, (bd.add (i * 8)).off + 1, none⟩ = some (.int .i64 f.kind)) (by kernel_rfl) (KK.out _ (Below.refl _ _).drew) (fun hHeld => ?_)
            refine wpAnyH_take (i := 0) (oi := { dst := some 17, op := Op.move (Operand.tmp 1), type := 29, pos := "ref.go:129", after := #[], guard := none }) (v := .slice (some ad) N c2) rfl (by kernel_rfl) (by kernel_rfl) (by kernel_rfl) (fun _ _ _ h => h) (Or.inl ⟨by rfl, by (intro wz hSw; (try dsimp only at hSw); go_simp)⟩) (by assumption) ?_
            try simp only [Act.put, List.setIfInBounds_toArray, List.set_cons_zero, List.set_cons_succ]
            refine wpAnyH_take (i := 1) (oi := { dst := some 18, op := Op.move (Operand.tmp 5), type := 3, pos := "ref.go:129", after := #[], guard := none }) (v := .int .i64 (i : Int)) rfl (by kernel_rfl) (by kernel_rfl) (by kernel_rfl) (fun _ _ _ h => h) (Or.inl ⟨by rfl, by (intro wz hSw; (try dsimp only at hSw); go_simp)⟩) (by assumption) ?_
            try simp only [Act.put, List.setIfInBounds_toArray, List.set_cons_zero, List.set_cons_succ]
            refine wpAnyH_take (i := 2) (oi := { dst := some 19, op := Op.indexAddr 29 (Operand.tmp 17) (Operand.tmp 18), type := 0, pos := "ref.go:129", after := #[{ on := 0, ground := Ground.data }, { on := 1, ground := Ground.data }], guard := none }) (v := .pointer (some (ad.add (i * 5)))) rfl (by kernel_rfl) (by kernel_rfl) (by kernel_rfl) (fun _ _ _ h => h) (Or.inl ⟨by rfl, by (intro wz hSw; (try dsimp only at hSw); go_simp)⟩) (by assumption) ?_
            try simp only [Act.put, List.setIfInBounds_toArray, List.set_cons_zero, List.set_cons_succ]
            refine wpAnyH_take (i := 3) (oi := { dst := some 20, op := Op.load 25 (Operand.tmp 19), type := 25, pos := "ref.go:129", after := #[{ on := 2, ground := Ground.data }], guard := none }) (v := .agg #[.int .i64 v.kind, .int .i64 v.int, .bool v.bool, .string ⟨v.text.toArray⟩, .float .f64 v.num]) rfl (by kernel_rfl) (by kernel_rfl) (by kernel_rfl) (fun _ _ _ h => h) (Or.inl ⟨by rfl, by (intro wz hSw; (try dsimp only at hSw); go_simp)⟩) (by assumption) ?_
            try simp only [Act.put, List.setIfInBounds_toArray, List.set_cons_zero, List.set_cons_succ]
            refine wpAnyH_ready (rs := [4]) (by kernel_rfl) (by simp) ?_
            refine AllReadyH.cons (o := { dst := some 21, op := Op.call { callee := Callee.value (Operand.func 13), args := #[Operand.tmp 20], argTypes := #[25] }, type := 4, pos := "ref.go:129", after := #[{ on := 3, ground := Ground.data }], guard := none }) rfl (fun K hK => ?_) AllReadyH.nil
            go_simp
            refine (HG.out _).mono ?_
            rintro x9 w2 ⟨rfl, hb⟩
            have HB1 := Lib.hid (below_self (Below.refl wr.heap.size wr).drew hb)
            clear hb
            refine hK.out _ _ (KK.out _ HB1.out) (fun hHeld => ?_)
            clear hK K
            try simp only [Act.put, List.setIfInBounds_toArray, List.set_cons_zero, List.set_cons_succ]
            refine wpAnyH_take (i := 5) (oi := { dst := some 22, op := Op.unOp UnOp.not 4 (Operand.tmp 21), type := 4, pos := "ref.go:129", after := #[{ on := 4, ground := Ground.data }], guard := none }) (v := .bool false) rfl (by kernel_rfl) (by kernel_rfl) (by kernel_rfl) (fun _ _ _ h => h) (Or.inl ⟨by rfl, by (intro wz hSw; (try dsimp only at hSw); go_simp)⟩) (by assumption) ?_
            try simp only [Act.put, List.setIfInBounds_toArray, List.set_cons_zero, List.set_cons_succ]
            refine wpAnyH_take (i := 6) (oi := { dst := some 23, op := Op.move (Operand.tmp 22), type := 4, pos := "ref.go:129", after := #[{ on := 5, ground := Ground.data }, { on := 4, ground := Ground.chain }], guard := none }) (v := .bool false) rfl (by kernel_rfl) (by kernel_rfl) (by kernel_rfl) (fun _ _ _ h => h) (Or.inl ⟨by rfl, by (intro wz hSw; (try dsimp only at hSw); go_simp)⟩) (by assumption) ?_
            try simp only [Act.put, List.setIfInBounds_toArray, List.set_cons_zero, List.set_cons_succ]
            refine wpAnyH_take (i := 7) (oi := { dst := some 24, op := Op.move (Operand.tmp 1), type := 29, pos := "ref.go:129", after := #[{ on := 6, ground := Ground.guard }], guard := some (6, false) }) (v := .slice (some ad) N c2) rfl (by kernel_rfl) (by kernel_rfl) (by kernel_rfl) (fun _ _ _ h => h) (Or.inl ⟨by rfl, by (intro wz hSw; (try dsimp only at hSw); go_simp)⟩) (by assumption) ?_
            try simp only [Act.put, List.setIfInBounds_toArray, List.set_cons_zero, List.set_cons_succ]
            refine wpAnyH_take (i := 8) (oi := { dst := some 25, op := Op.move (Operand.tmp 5), type := 3, pos := "ref.go:129", after := #[{ on := 6, ground := Ground.guard }], guard := some (6, false) }) (v := .int .i64 (i : Int)) rfl (by kernel_rfl) (by kernel_rfl) (by kernel_rfl) (fun _ _ _ h => h) (Or.inl ⟨by rfl, by (intro wz hSw; (try dsimp only at hSw); go_simp)⟩) (by assumption) ?_
            try simp only [Act.put, List.setIfInBounds_toArray, List.set_cons_zero, List.set_cons_succ]
            refine wpAnyH_take (i := 9) (oi := { dst := some 26, op := Op.indexAddr 29 (Operand.tmp 24) (Operand.tmp 25), type := 0, pos := "ref.go:129", after := #[{ on := 7, ground := Ground.data }, { on := 8, ground := Ground.data }, { on := 6, ground := Ground.guard }], guard := some (6, false) }) (v := .pointer (some (ad.add (i * 5)))) rfl (by kernel_rfl) (by kernel_rfl) (by kernel_rfl) (fun _ _ _ h => h) (Or.inl ⟨by rfl, by (intro wz hSw; (try dsimp only at hSw); go_simp)⟩) (by assumption) ?_
            try simp only [Act.put, List.setIfInBounds_toArray, List.set_cons_zero, List.set_cons_succ]
            refine wpAnyH_take (i := 10) (oi := { dst := some 27, op := Op.fieldAddr 25 (Operand.tmp 26) 0, type := 0, pos := "ref.go:129", after := #[{ on := 9, ground := Ground.data }, { on := 6, ground := Ground.guard }], guard := some (6, false) }) (v := .pointer (some (ad.add (i * 5)))) rfl (by kernel_rfl) (by kernel_rfl) (by kernel_rfl) (fun _ _ _ h => h) (Or.inl ⟨by rfl, by (intro wz hSw; (try dsimp only at hSw); go_simp)⟩) (by assumption) ?_
            try simp only [Act.put, List.setIfInBounds_toArray, List.set_cons_zero, List.set_cons_succ]
            refine wpAnyH_take (i := 11) (oi := { dst := some 28, op := Op.load 3 (Operand.tmp 27), type := 3, pos := "ref.go:129", after := #[{ on := 10, ground := Ground.data }, { on := 6, ground := Ground.guard }], guard := some (6, false) }) (v := .int .i64 v.kind) rfl (by kernel_rfl) (by kernel_rfl) (by kernel_rfl) (fun _ _ _ h => h) (Or.inl ⟨by rfl, by (intro wz hSw; (try dsimp only at hSw); go_simp)⟩) (by assumption) ?_
            try simp only [Act.put, List.setIfInBounds_toArray, List.set_cons_zero, List.set_cons_succ]
            refine wpAnyH_take (i := 12) (oi := { dst := some 29, op := Op.move (Operand.tmp 0), type := 28, pos := "ref.go:129", after := #[{ on := 6, ground := Ground.guard }], guard := some (6, false) }) (v := .slice (some bd) N c) rfl (by kernel_rfl) (by kernel_rfl) (by kernel_rfl) (fun _ _ _ h => h) (Or.inl ⟨by rfl, by (intro wz hSw; (try dsimp only at hSw); go_simp)⟩) (by assumption) ?_
            try simp only [Act.put, List.setIfInBounds_toArray, List.set_cons_zero, List.set_cons_succ]
            refine wpAnyH_take (i := 13) (oi := { dst := some 30, op := Op.move (Operand.tmp 5), type := 3, pos := "ref.go:129", after := #[{ on := 6, ground := Ground.guard }], guard := some (6, false) }) (v := .int .i64 (i : Int)) rfl (by kernel_rfl) (by kernel_rfl) (by kernel_rfl) (fun _ _ _ h => h) (Or.inl ⟨by rfl, by (intro wz hSw; (try dsimp only at hSw); go_simp)⟩) (by assumption) ?_
            try simp only [Act.put, List.setIfInBounds_toArray, List.set_cons_zero, List.set_cons_succ]
            refine wpAnyH_take (i := 14) (oi := { dst := some 31, op := Op.indexAddr 28 (Operand.tmp 29) (Operand.tmp 30), type := 0, pos := "ref.go:129", after := #[{ on := 12, ground := Ground.data }, { on := 13, ground := Ground.data }, { on := 6, ground := Ground.guard }], guard := some (6, false) }) (v := .pointer (some (bd.add (i * 8)))) rfl (by kernel_rfl) (by kernel_rfl) (by kernel_rfl) (fun _ _ _ h => h) (Or.inl ⟨by rfl, by (intro wz hSw; (try dsimp only at hSw); go_simp)⟩) (by assumption) ?_
            try simp only [Act.put, List.setIfInBounds_toArray, List.set_cons_zero, List.set_cons_succ]
            refine wpAnyH_take (i := 15) (oi := { dst := some 32, op := Op.fieldAddr 50 (Operand.tmp 31) 1, type := 0, pos := "ref.go:129", after := #[{ on := 14, ground := Ground.data }, { on := 6, ground := Ground.guard }], guard := some (6, false) }) (v := .pointer (some ⟨(bd.add (i * 8)).block, (bd.add (i * 8)).off + 1, none⟩)) rfl (by kernel_rfl) (by kernel_rfl) (by kernel_rfl) (fun _ _ _ h => h) (Or.inl ⟨by rfl, by (intro wz hSw; (try dsimp only at hSw); go_simp)⟩) (by assumption) ?_
            try simp only [Act.put, List.setIfInBounds_toArray, List.set_cons_zero, List.set_cons_succ]
            refine wpAnyH_take (i := 16) (oi := { dst := some 33, op := Op.load 3 (Operand.tmp 32), type := 3, pos := "ref.go:129", after := #[{ on := 15, ground := Ground.data }, { on := 6, ground := Ground.guard }], guard := some (6, false) }) (v := .int .i64 f.kind) rfl (by kernel_rfl) (by kernel_rfl) (by kernel_rfl) (fun _ _ _ h => h) (Or.inl ⟨by rfl, by (intro wz hSw; (try dsimp only at hSw); go_simp)⟩) (by assumption) ?_
            try simp only [Act.put, List.setIfInBounds_toArray, List.set_cons_zero, List.set_cons_succ]
            refine wpAnyH_take (i := 17) (oi := { dst := some 34, op := Op.binOp BinOp.neq 3 (Operand.tmp 28) (Operand.tmp 33) 3, type := 4, pos := "ref.go:129", after := #[{ on := 11, ground := Ground.data }, { on := 16, ground := Ground.data }, { on := 6, ground := Ground.guard }], guard := some (6, false) }) (v := .bool true) rfl (by kernel_rfl) (by kernel_rfl) (by kernel_rfl) (fun _ _ _ h => h) (Or.inl ⟨by rfl, by (intro wz hSw; (try dsimp only at hSw); go_simp)⟩) (by assumption) ?_
            try simp only [Act.put, List.setIfInBounds_toArray, List.set_cons_zero, List.set_cons_succ]
            refine wpAnyH_take (i := 18) (oi := { dst := some 35, op := Op.pick (Operand.tmp 23) (Operand.const (Value.bool true)) (Operand.tmp 34), type := 4, pos := "ref.go:129", after := #[{ on := 6, ground := Ground.data }, { on := 17, ground := Ground.data }], guard := none }) (v := .bool true) rfl (by kernel_rfl) (by kernel_rfl) (by kernel_rfl) (fun _ _ _ h => h) (Or.inl ⟨by rfl, by (intro wz hSw; (try dsimp only at hSw); go_simp)⟩) (by assumption) ?_
            try simp only [Act.put, List.setIfInBounds_toArray, List.set_cons_zero, List.set_cons_succ]
            refine wpAnyH_done (by kernel_rfl) ?_ _
            go_wp2_with fail
            go_ret
            rw [E.out]
            exact ⟨rfl, below_self HB.out HB1.out⟩
      · have E := Lib.hid (show fitB fl vs = true from fitB_of EL.out fun j f v hf hv => HP.out j f v (by have := (List.getElem?_eq_some_iff.1 hf).1; have := EF.out; omega) hf hv)
        go_wp2_with fail
        go_ret
        rw [E.out]
        exact ⟨rfl, HB.out⟩
  · have E := Lib.hid (fitB_ne (fl := fl) (vs := vs) (by omega))
    have hN' : ¬ (N : Int) = N2 := by omega
    clear lf lv
    go_enter Try.func10, Try.ntmps10
    go_wp2_with fail
    go_ret
    rw [E.out]
    exact ⟨rfl, Below.refl _ _⟩
end
end Go.Proofs.Ytijlamajcdekkaa

/- Package expr, walked: Eval. -/
namespace Go.Proofs.Ytijlamajcdekkaa
open Go.RowKit
set_option linter.unusedVariables false
/-- an expression's value and 0; or the zero value and the error -/
def evalR (fl : List Fld) (vs : List Val) (n : Nat) (e : Exp) : Val × Int :=
  if small e = true then match kE fl n e with
    | .error x => (zeroV, x)
    | .ok _ => if fitB fl vs = true then match evE fl vs n e with
      | .error x => (zeroV, x)
      | .ok v => (v, 0)
      else (zeroV, 1)
  else (zeroV, 51)
/-- Eval's own variables -/
def JR (w : World) (ce : Array Value) (W : World) : Prop := Below w.heap.size w W ∧ Loc1 w.heap.size 27 ce W ∧ Loc1 (w.heap.size + 1) 25 #[.int .i64 0, .int .i64 0, .bool false, .string ⟨#[]⟩, .float .f64 0] W ∧ Loc1 (w.heap.size + 1 + 1) 33 #[.int .i64 0] W
theorem JR.below {w W W' : World} {ce : Array Value} (h : JR w ce W) (hb : Below W.heap.size W W') : JR w ce W' := ⟨below_self h.1 hb, h.2.1.below hb, h.2.2.1.below hb, h.2.2.2.below hb⟩
theorem JR.new (w : World) (ce : Array Value) : JR w ce (((w.alloc (.cells ce 27)).alloc (.cells #[.int .i64 0, .int .i64 0, .bool false, .string ⟨#[]⟩, .float .f64 0] 25)).alloc (.cells #[.int .i64 0] 33)) := by
  refine ⟨Below.three _ _ _ _, (Below.heap_alloc _ _ _ (by simp; omega)).trans ((Below.heap_alloc _ _ _ (by simp)).trans (heap_new _ _)), (Below.heap_alloc _ _ _ (by simp)).trans ?_, ?_⟩
  · have h := heap_new (w.alloc (.cells ce 27)) (.cells #[.int .i64 0, .int .i64 0, .bool false, .string ⟨#[]⟩, .float .f64 0] 25)
    rw [World.size_alloc] at h
    exact h
  · have h := heap_new ((w.alloc (.cells ce 27)).alloc (.cells #[.int .i64 0, .int .i64 0, .bool false, .string ⟨#[]⟩, .float .f64 0] 25)) (.cells #[.int .i64 0] 33)
    rw [World.size_alloc, World.size_alloc] at h
    exact h
set_option maxRecDepth 20000 in
theorem ev_caught {w W : World} {ce tmps : Array Value} (h6 : tmps[6]? = some (.pointer (some ⟨w.heap.size + 1, 0, none⟩))) (h7 : tmps[7]? = some (.pointer (some ⟨w.heap.size + 1 + 1, 0, none⟩))) (J : JR w ce W) (err : Int) :
    Leaves Try.prog Try.f12 tmps (Ret w (.tuple #[.agg #[.int .i64 0, .int .i64 0, .bool false, .string ⟨#[]⟩, .float .f64 0], .int .i64 err])) [{ target := .fn (.func 30) #[], args := #[.pointer (some ⟨w.heap.size + 1 + 1, 0, none⟩)] }] (.panicking [{ v := .iface 89 (.int .i64 err), recovered := false }]) W := by
  obtain ⟨q0, q1, q2, q3, q4⟩ := cells5 (heap_set_ne' J.2.2.1 (show w.heap.size + 1 ≠ w.heap.size + 1 + 1 by omega) 0 (.int .i64 err))
  have KC := cell_of (heap_set J.2.2.2 0 (.int .i64 err)) 0
  simp only [List.setIfInBounds_toArray, List.set_cons_zero, List.getElem?_toArray, List.getElem?_cons_zero] at KC
  exact leaves_caught (v := .tuple #[.agg #[.int .i64 0, .int .i64 0, .bool false, .string ⟨#[]⟩, .float .f64 0], .int .i64 err]) (x := 0) (cell_of J.2.2.2 0) (free_of J.2.2.2 0) (by simp [results, Try.results12, go_sem, h6, h7, q0, q1, q2, q3, q4, KC]) ⟨rfl, below_ext_ne J.1 (ext_set_ne (Ext.refl (fun b => b ≠ w.heap.size + 1 + 1) _) 0 _) (by omega) (Nat.le_refl _)⟩
section
variable {w : World}
set_option maxRecDepth 20000 in
set_option maxHeartbeats 4000000 in
theorem ev_c {A A2 : Option Addr} {N N2 c c2 : Nat} {fl : List Fld} {vs : List Val} {n : Nat} {cs : List Value} {e : Exp} (h : (kExp n).R (fun _ => True) w cs e) (hf : Sl kFld (fun _ => True) w (.slice A N c) fl) (hv : Sl kVal (fun _ => True) w (.slice A2 N2 c2) vs) :
    Calls Try.prog 12 #[.agg cs.toArray, .slice A N c, .slice A2 N2 c2] w (Ret w (.tuple #[.agg #[.int .i64 (evalR fl vs n e).1.kind, .int .i64 (evalR fl vs n e).1.int, .bool (evalR fl vs n e).1.bool, .string ⟨(evalR fl vs n e).1.text.toArray⟩, .float .f64 (evalR fl vs n e).1.num], .int .i64 (evalR fl vs n e).2])) := by
  obtain ⟨k, B, d, hk, rfl, hs⟩ := exp_open h
  have SF := store_f64
  have J0 := Lib.hid (JR.new w #[.int .i64 e.op, .slice B e.kids.length d, .string ⟨e.name.toArray⟩, .int .i64 e.val.kind, .int .i64 e.val.int, .bool e.val.bool, .string ⟨e.val.text.toArray⟩, .float .f64 e.val.num])
  have HH := Lib.hid (show ∀ W : World, Below w.heap.size w W → (kExp n).R (fun _ => True) W [.int .i64 e.op, .slice B e.kids.length d, .string ⟨e.name.toArray⟩, .int .i64 e.val.kind, .int .i64 e.val.int, .bool e.val.bool, .string ⟨e.val.text.toArray⟩, .float .f64 e.val.num] e from fun W hW => (by rw [hk]; exact exp_mk (hs.below hW)))
  have HF := Lib.hid (show ∀ W : World, Below w.heap.size w W → Sl kFld (fun _ => True) W (.slice A N c) fl from fun W hW => hf.below hW)
  have HV := Lib.hid (show ∀ W : World, Below w.heap.size w W → Sl kVal (fun _ => True) W (.slice A2 N2 c2) vs from fun W hW => hv.below hW)
  have E := Lib.hid (show evalR fl vs n e = if small e = true then match kE fl n e with
    | .error x => (zeroV, x)
    | .ok _ => if fitB fl vs = true then match evE fl vs n e with
      | .error x => (zeroV, x)
      | .ok v => (v, 0)
      else (zeroV, 1)
    else (zeroV, 51) from rfl)
  generalize evalR fl vs n e = r at *
  have lf := hf.len
  have lv := hv.len
  clear h hf hs hv
  go_enter_defers Try.func12, Try.ntmps12
  go_wp2_with fail
  generalize (((w.alloc (.cells #[.int .i64 e.op, .slice B e.kids.length d, .string ⟨e.name.toArray⟩, .int .i64 e.val.kind, .int .i64 e.val.int, .bool e.val.bool, .string ⟨e.val.text.toArray⟩, .float .f64 e.val.num] 27)).alloc (.cells #[.int .i64 0, .int .i64 0, .bool false, .string ⟨#[]⟩, .float .f64 0] 25)).alloc (.cells #[.int .i64 0] 33)) = w0 at *
  obtain ⟨e0, e1, e2, e3, e4, e5, e6, e7⟩ := cells8 J0.out.2.1
  go_wp2_with fail
  refine (small_c (HH.out _ J0.out.1)).mono ?_
  rintro x9 w1 ⟨rfl, hb⟩
  have J1 := Lib.hid (J0.out.below hb)
  clear hb J0 e0 e1 e2 e3 e4 e5 e6 e7
  obtain ⟨e0, e1, e2, e3, e4, e5, e6, e7⟩ := cells8 J1.out.2.1
  cases hsm : small e
  · have E1 := Lib.hid (show r = (zeroV, 51) by rw [E.out, hsm]; rfl)
    go_wp2_with fail
    refine (must_no 51).mono ?_
    rintro x9 w9 ⟨hbd, rfl⟩
    have hbd : x9 = .panicked [{ v := .iface 89 (.int .i64 51), recovered := false }] := hbd
    subst hbd
    go_wp2_with fail
    rw [E1.out]
    exact ev_caught rfl rfl J1.out 51
  · replace E := Lib.hid (show r = match kE fl n e with
      | .error x => (zeroV, x)
      | .ok _ => if fitB fl vs = true then match evE fl vs n e with
        | .error x => (zeroV, x)
        | .ok v => (v, 0)
        else (zeroV, 1) by rw [E.out, hsm]; rfl)
    go_wp2_with fail
    refine (must_ok 51).mono ?_
    rintro x9 w9 ⟨rfl, rfl⟩
    go_wp2_with fail
    refine (kind_c n _ _ e (HH.out _ J1.out.1) (HF.out _ J1.out.1)).mono ?_
    rintro x9 w2 ⟨hret, hb⟩
    have J2 := Lib.hid (J1.out.below hb)
    clear hb J1 e0 e1 e2 e3 e4 e5 e6 e7
    obtain ⟨e0, e1, e2, e3, e4, e5, e6, e7⟩ := cells8 J2.out.2.1
    cases hr : kE fl n e with
    | error y =>
      rw [hr] at hret
      have hret : x9 = .panicked [{ v := .iface 89 (.int .i64 y), recovered := false }] := hret
      subst hret
      have E2 := Lib.hid (show r = (zeroV, y) by rw [E.out, hr])
      go_wp2_with fail
      rw [E2.out]
      exact ev_caught rfl rfl J2.out y
    | ok kk =>
      have HKE := Lib.hid hr
      rw [hr] at hret
      have hret : x9 = .returned (.int .i64 kk) := hret
      subst hret
      replace E := Lib.hid (show r = if fitB fl vs = true then match evE fl vs n e with
        | .error x => (zeroV, x)
        | .ok v => (v, 0)
        else (zeroV, 1) by rw [E.out, hr])
      clear hr
      by_cases hN : N = N2
      · subst hN
        have hNc := lf.2.1
        have hNm := lf.2.2.1
        have hNc2 := lv.2.1
        have hNm2 := lv.2.2.1
        have E1 := lf.1
        have E2 := lv.1
        have EL := Lib.hid (show fl.length = vs.length by omega)
        have EF := Lib.hid E1
        clear lf lv E1 E2
        go_wp2_with fail
        refine (must_ok 1).mono ?_
        rintro x9 w9 ⟨rfl, rfl⟩
        go_wp2_with fail
        go_loopw [24] (fun v24 wr => ∃ i : Nat, i ≤ N ∧ v24 = .int .i64 i ∧ (∀ (j : Nat) (f : Fld) (v : Val), j < i → fl[j]? = some f → vs[j]? = some v → goodV v = true ∧ v.kind = f.kind) ∧ JR w #[.int .i64 e.op, .slice B e.kids.length d, .string ⟨e.name.toArray⟩, .int .i64 e.val.kind, .int .i64 e.val.int, .bool e.val.bool, .string ⟨e.val.text.toArray⟩, .float .f64 e.val.num] wr) (fun v24 _ => N - (intOf v24).toNat)
        case atStart => exact ⟨0, Nat.zero_le _, rfl, fun j f v hj => absurd hj (Nat.not_lt_zero _), J2.out⟩
        case round =>
          obtain ⟨i, hi, rfl, hp, hb⟩ := hrel
          have HP := Lib.hid hp
          have JW := Lib.hid hb
          clear hp hb J2 e0 e1 e2 e3 e4 e5 e6 e7
          by_cases hlt : i < N
          · obtain ⟨ad, v, rfl, hv, c0, c1, c2_, c3, c4⟩ := val_at (HV.out _ JW.out.1) hlt
            obtain ⟨bd, f, D, dd, rfl, hf, -, d0, d1, -⟩ := fld_at (HF.out _ JW.out.1) hlt
            have HVi := Lib.hid hv
            have HFi := Lib.hid hf
            have HG := Lib.hid (fun W : World => good_c (w := W) v)
            have BV := Lib.hid (show Below wr.heap.size wr (wr.alloc (.cells #[.int .i64 v.kind, .int .i64 v.int, .bool v.bool, .string ⟨v.text.toArray⟩, .float .f64 v.num] 25)) from (Below.refl _ _).alloc (Nat.le_refl _) _)
            have LV := Lib.hid (show Loc1 wr.heap.size 25 #[.int .i64 v.kind, .int .i64 v.int, .bool v.bool, .string ⟨v.text.toArray⟩, .float .f64 v.num] (wr.alloc (.cells #[.int .i64 v.kind, .int .i64 v.int, .bool v.bool, .string ⟨v.text.toArray⟩, .float .f64 v.num] 25)) from heap_new _ _)
            have D1 := Lib.hid (keepC d1 BV.out)
            have hi0 : (0 : Int) ≤ (i : Int) := by omega
            have hi1 : (i : Int) < (N : Int) := by omega
            clear hv hf d0 d1
            go_wp2_with fail
            generalize (wr.alloc (.cells #[.int .i64 v.kind, .int .i64 v.int, .bool v.bool, .string ⟨v.text.toArray⟩, .float .f64 v.num] 25)) = wv at *
            have HR := Lib.hid (JW.out.below BV.out)
            have KK := Lib.hid (show ∀ W : World, Below wv.heap.size wv W → W.cell? ⟨wr.heap.size, 0, none⟩ = some (.int .i64 v.kind) ∧ W.cell? ⟨wr.heap.size, 1, none⟩ = some (.int .i64 v.int) ∧ W.cell? ⟨wr.heap.size, 2, none⟩ = some (.bool v.bool) ∧ W.cell? ⟨wr.heap.size, 3, none⟩ = some (.string ⟨v.text.toArray⟩) ∧ W.cell? ⟨wr.heap.size, 4, none⟩ = some (.float .f64 v.num) ∧ W.cell? ⟨(bd.add (i * 8)).block, (bd.add (i * 8)).off + 1, none⟩ = some (.int .i64 f.kind) from
              fun W hW => ⟨keepC (cell_of LV.out 0) hW, keepC (cell_of LV.out 1) hW, keepC (cell_of LV.out 2) hW, keepC (cell_of LV.out 3) hW, keepC (cell_of LV.out 4) hW, keepC D1.out hW⟩)
            clear c0 c1 c2_ c3 c4
            cases hg : goodV v
            · have E := Lib.hid (show r = (zeroV, 1) by rw [E.out, if_neg (by rw [fitB_no HFi.out HVi.out (fun h => by rw [hg] at h; cases h.1)]; decide)])
              rw [hg] at HG
              refine Code.wp_mono (Q := fun ex a' w' => match ex with
                | .panic ch => ch = [{ v := .iface 89 (.int .i64 1), recovered := false }] ∧ a'.tmps[6]? = some (.pointer (some ⟨w.heap.size + 1, 0, none⟩)) ∧ a'.tmps[7]? = some (.pointer (some ⟨w.heap.size + 1 + 1, 0, none⟩)) ∧ a'.defers = [{ target := .fn (.func 30) #[], args := #[.pointer (some ⟨w.heap.size + 1 + 1, 0, none⟩)] }] ∧ JR w #[.int .i64 e.op, .slice B e.kids.length d, .string ⟨e.name.toArray⟩, .int .i64 e.val.kind, .int .i64 e.val.int, .bool e.val.bool, .string ⟨e.val.text.toArray⟩, .float .f64 e.val.num] w'
                | _ => False) ?_ ?_
              · intro ex a' w' hq
                cases ex with
                | panic ch =>
                  obtain ⟨rfl, h6, h7, hd, hJ⟩ := hq
                  show Leaves _ _ a'.tmps _ a'.defers _ w'
                  rw [hd, E.out]
                  exact ev_caught h6 h7 hJ 1
                | _ => exact hq.elim
              refine wp_region_held_drew (S := fun W => W.cell? ⟨wr.heap.size, 0, none⟩ = some (.int .i64 v.kind) ∧ W.cell? ⟨wr.heap.size, 1, none⟩ = some (.int .i64 v.int) ∧ W.cell? ⟨wr.heap.size, 2, none⟩ = some (.bool v.bool) ∧ W.cell? ⟨wr.heap.size, 3, none⟩ = some (.string ⟨v.text.toArray⟩) ∧ W.cell? ⟨wr.heap.size, 4, none⟩ = some (.float .f64 v.num) ∧ W.cell? ⟨(bd.add (i * 8)).block, (bd.add (i * 8)).off + 1, none⟩ = some (.int .i64 f.kind)) (by kernel_rfl) (KK.out _ (Below.refl _ _).drew) (fun hHeld => ?_)
              refine wpAnyH_take (i := 0) (oi := { dst := some 29, op := Op.load 25 (Operand.tmp 9), type := 25, pos := "expr.go:191", after := #[], guard := none }) (v := .agg #[.int .i64 v.kind, .int .i64 v.int, .bool v.bool, .string ⟨v.text.toArray⟩, .float .f64 v.num]) rfl (by kernel_rfl) (by kernel_rfl) (by kernel_rfl) (by intro _ _ _ h; simpa [Act.put] using h) (Or.inl ⟨by rfl, by (intro wz hSw; (try dsimp only at hSw); go_simp)⟩) (by assumption) ?_
              try simp only [Act.put, List.setIfInBounds_toArray, List.set_cons_zero, List.set_cons_succ]
              refine wpAnyH_ready (rs := [1]) (by kernel_rfl) (by simp) ?_
              refine AllReadyH.cons (o := { dst := some 30, op := Op.call { callee := Callee.value (Operand.func 36), args := #[Operand.tmp 29], argTypes := #[25] }, type := 4, pos := "expr.go:191", after := #[{ on := 0, ground := Ground.data }], guard := none }) rfl (fun K hK => ?_) AllReadyH.nil
              go_simp
              refine (HG.out _).mono ?_
              rintro x9 w2 ⟨rfl, hb⟩
              have HB1 := Lib.hid (below_self (Below.refl wv.heap.size wv).drew hb)
              clear hb
              refine hK.out _ _ (KK.out _ HB1.out) (fun hHeld => ?_)
              clear hK K
              try simp only [Act.put, List.setIfInBounds_toArray, List.set_cons_zero, List.set_cons_succ]
              refine wpAnyH_take (i := 2) (oi := { dst := some 31, op := Op.move (Operand.tmp 30), type := 4, pos := "expr.go:191", after := #[{ on := 1, ground := Ground.data }, { on := 1, ground := Ground.chain }], guard := none }) (v := .bool false) rfl (by kernel_rfl) (by kernel_rfl) (by kernel_rfl) (by intro _ _ _ h; simpa [Act.put] using h) (Or.inl ⟨by rfl, by (intro wz hSw; (try dsimp only at hSw); go_simp)⟩) (by assumption) ?_
              try simp only [Act.put, List.setIfInBounds_toArray, List.set_cons_zero, List.set_cons_succ]
              refine wpAnyH_take (i := 3) (oi := { dst := some 32, op := Op.fieldAddr 25 (Operand.tmp 9) 0, type := 0, pos := "expr.go:191", after := #[{ on := 2, ground := Ground.guard }], guard := some (2, true) }) (v := undef) rfl (by kernel_rfl) (by kernel_rfl) (by kernel_rfl) (by intro _ _ _ h; simpa [Act.put] using h) (Or.inr ⟨by rfl, rfl⟩) (by assumption) ?_
              try simp only [Act.put, List.setIfInBounds_toArray, List.set_cons_zero, List.set_cons_succ]
              refine wpAnyH_take (i := 4) (oi := { dst := some 33, op := Op.load 3 (Operand.tmp 32), type := 3, pos := "expr.go:191", after := #[{ on := 3, ground := Ground.data }, { on := 2, ground := Ground.guard }], guard := some (2, true) }) (v := undef) rfl (by kernel_rfl) (by kernel_rfl) (by kernel_rfl) (by intro _ _ _ h; simpa [Act.put] using h) (Or.inr ⟨by rfl, rfl⟩) (by assumption) ?_
              try simp only [Act.put, List.setIfInBounds_toArray, List.set_cons_zero, List.set_cons_succ]
              refine wpAnyH_take (i := 5) (oi := { dst := some 34, op := Op.move (Operand.tmp 1), type := 28, pos := "expr.go:191", after := #[{ on := 2, ground := Ground.guard }], guard := some (2, true) }) (v := undef) rfl (by kernel_rfl) (by kernel_rfl) (by kernel_rfl) (by intro _ _ _ h; simpa [Act.put] using h) (Or.inr ⟨by rfl, rfl⟩) (by assumption) ?_
              try simp only [Act.put, List.setIfInBounds_toArray, List.set_cons_zero, List.set_cons_succ]
              refine wpAnyH_take (i := 6) (oi := { dst := some 35, op := Op.move (Operand.tmp 8), type := 3, pos := "expr.go:191", after := #[{ on := 2, ground := Ground.guard }], guard := some (2, true) }) (v := undef) rfl (by kernel_rfl) (by kernel_rfl) (by kernel_rfl) (by intro _ _ _ h; simpa [Act.put] using h) (Or.inr ⟨by rfl, rfl⟩) (by assumption) ?_
              try simp only [Act.put, List.setIfInBounds_toArray, List.set_cons_zero, List.set_cons_succ]
              refine wpAnyH_take (i := 7) (oi := { dst := some 36, op := Op.indexAddr 28 (Operand.tmp 34) (Operand.tmp 35), type := 0, pos := "expr.go:191", after := #[{ on := 5, ground := Ground.data }, { on := 6, ground := Ground.data }, { on := 2, ground := Ground.guard }], guard := some (2, true) }) (v := undef) rfl (by kernel_rfl) (by kernel_rfl) (by kernel_rfl) (by intro _ _ _ h; simpa [Act.put] using h) (Or.inr ⟨by rfl, rfl⟩) (by assumption) ?_
              try simp only [Act.put, List.setIfInBounds_toArray, List.set_cons_zero, List.set_cons_succ]
              refine wpAnyH_take (i := 8) (oi := { dst := some 37, op := Op.fieldAddr 50 (Operand.tmp 36) 1, type := 0, pos := "expr.go:191", after := #[{ on := 7, ground := Ground.data }, { on := 2, ground := Ground.guard }], guard := some (2, true) }) (v := undef) rfl (by kernel_rfl) (by kernel_rfl) (by kernel_rfl) (by intro _ _ _ h; simpa [Act.put] using h) (Or.inr ⟨by rfl, rfl⟩) (by assumption) ?_
              try simp only [Act.put, List.setIfInBounds_toArray, List.set_cons_zero, List.set_cons_succ]
              refine wpAnyH_take (i := 9) (oi := { dst := some 38, op := Op.load 3 (Operand.tmp 37), type := 3, pos := "expr.go:191", after := #[{ on := 8, ground := Ground.data }, { on := 2, ground := Ground.guard }], guard := some (2, true) }) (v := undef) rfl (by kernel_rfl) (by kernel_rfl) (by kernel_rfl) (by intro _ _ _ h; simpa [Act.put] using h) (Or.inr ⟨by rfl, rfl⟩) (by assumption) ?_
              try simp only [Act.put, List.setIfInBounds_toArray, List.set_cons_zero, List.set_cons_succ]
              refine wpAnyH_take (i := 10) (oi := { dst := some 39, op := Op.binOp BinOp.eql 3 (Operand.tmp 33) (Operand.tmp 38) 3, type := 4, pos := "expr.go:191", after := #[{ on := 4, ground := Ground.data }, { on := 9, ground := Ground.data }, { on := 2, ground := Ground.guard }], guard := some (2, true) }) (v := undef) rfl (by kernel_rfl) (by kernel_rfl) (by kernel_rfl) (by intro _ _ _ h; simpa [Act.put] using h) (Or.inr ⟨by rfl, rfl⟩) (by assumption) ?_
              try simp only [Act.put, List.setIfInBounds_toArray, List.set_cons_zero, List.set_cons_succ]
              refine wpAnyH_take (i := 11) (oi := { dst := some 40, op := Op.pick (Operand.tmp 31) (Operand.tmp 39) (Operand.const (Value.bool false)), type := 4, pos := "expr.go:191", after := #[{ on := 2, ground := Ground.data }, { on := 10, ground := Ground.data }], guard := none }) (v := .bool false) rfl (by kernel_rfl) (by kernel_rfl) (by kernel_rfl) (by intro _ _ _ h; simpa [Act.put] using h) (Or.inl ⟨by rfl, by (intro wz hSw; (try dsimp only at hSw); go_simp)⟩) (by assumption) ?_
              try simp only [Act.put, List.setIfInBounds_toArray, List.set_cons_zero, List.set_cons_succ]
              refine wpAnyH_ready (rs := [12]) (by kernel_rfl) (by simp) ?_
              refine AllReadyH.cons (o := { dst := some 41, op := Op.call { callee := Callee.value (Operand.func 31), args := #[Operand.tmp 40, Operand.const (Value.int IntKind.i64 1)], argTypes := #[4, 33] }, type := 0, pos := "expr.go:191", after := #[{ on := 11, ground := Ground.data }, { on := 2, ground := Ground.chain }], guard := none }) rfl (fun K hK => ?_) AllReadyH.nil
              go_simp
              refine (must_no 1).mono ?_
              rintro x9 w9 ⟨hbd, rfl⟩
              have hbd : x9 = .panicked [{ v := .iface 89 (.int .i64 1), recovered := false }] := hbd
              subst hbd
              exact ⟨rfl, HR.out.below HB1.out⟩
            · have HGo := Lib.hid hg
              rw [hg] at HG
              by_cases hkk : v.kind = f.kind
              · have HKk := Lib.hid hkk
                have hkn : (v.kind == f.kind) = true := by simpa using hkk
                clear hkk hg
                refine wp_region_noPanic ?_
                refine wp_region_held_drew (S := fun W => W.cell? ⟨wr.heap.size, 0, none⟩ = some (.int .i64 v.kind) ∧ W.cell? ⟨wr.heap.size, 1, none⟩ = some (.int .i64 v.int) ∧ W.cell? ⟨wr.heap.size, 2, none⟩ = some (.bool v.bool) ∧ W.cell? ⟨wr.heap.size, 3, none⟩ = some (.string ⟨v.text.toArray⟩) ∧ W.cell? ⟨wr.heap.size, 4, none⟩ = some (.float .f64 v.num) ∧ W.cell? ⟨(bd.add (i * 8)).block, (bd.add (i * 8)).off + 1, none⟩ = some (.int .i64 f.kind)) (by kernel_rfl) (KK.out _ (Below.refl _ _).drew) (fun hHeld => ?_)
                refine wpAnyH_take (i := 0) (oi := { dst := some 29, op := Op.load 25 (Operand.tmp 9), type := 25, pos := "expr.go:191", after := #[], guard := none }) (v := .agg #[.int .i64 v.kind, .int .i64 v.int, .bool v.bool, .string ⟨v.text.toArray⟩, .float .f64 v.num]) rfl (by kernel_rfl) (by kernel_rfl) (by kernel_rfl) (fun _ _ _ h => h) (Or.inl ⟨by rfl, by (intro wz hSw; (try dsimp only at hSw); go_simp)⟩) (by assumption) ?_
                try simp only [Act.put, List.setIfInBounds_toArray, List.set_cons_zero, List.set_cons_succ]
                refine wpAnyH_ready (rs := [1]) (by kernel_rfl) (by simp) ?_
                refine AllReadyH.cons (o := { dst := some 30, op := Op.call { callee := Callee.value (Operand.func 36), args := #[Operand.tmp 29], argTypes := #[25] }, type := 4, pos := "expr.go:191", after := #[{ on := 0, ground := Ground.data }], guard := none }) rfl (fun K hK => ?_) AllReadyH.nil
                go_simp
                refine (HG.out _).mono ?_
                rintro x9 w2 ⟨rfl, hb⟩
                have HB1 := Lib.hid (below_self (Below.refl wv.heap.size wv).drew hb)
                clear hb
                refine hK.out _ _ (KK.out _ HB1.out) (fun hHeld => ?_)
                clear hK K
                try simp only [Act.put, List.setIfInBounds_toArray, List.set_cons_zero, List.set_cons_succ]
                refine wpAnyH_take (i := 2) (oi := { dst := some 31, op := Op.move (Operand.tmp 30), type := 4, pos := "expr.go:191", after := #[{ on := 1, ground := Ground.data }, { on := 1, ground := Ground.chain }], guard := none }) (v := .bool true) rfl (by kernel_rfl) (by kernel_rfl) (by kernel_rfl) (fun _ _ _ h => h) (Or.inl ⟨by rfl, by (intro wz hSw; (try dsimp only at hSw); go_simp)⟩) (by assumption) ?_
                try simp only [Act.put, List.setIfInBounds_toArray, List.set_cons_zero, List.set_cons_succ]
                refine wpAnyH_take (i := 3) (oi := { dst := some 32, op := Op.fieldAddr 25 (Operand.tmp 9) 0, type := 0, pos := "expr.go:191", after := #[{ on := 2, ground := Ground.guard }], guard := some (2, true) }) (v := .pointer (some ⟨wr.heap.size, 0, none⟩)) rfl (by kernel_rfl) (by kernel_rfl) (by kernel_rfl) (fun _ _ _ h => h) (Or.inl ⟨by rfl, by (intro wz hSw; (try dsimp only at hSw); go_simp)⟩) (by assumption) ?_
                try simp only [Act.put, List.setIfInBounds_toArray, List.set_cons_zero, List.set_cons_succ]
                refine wpAnyH_take (i := 4) (oi := { dst := some 33, op := Op.load 3 (Operand.tmp 32), type := 3, pos := "expr.go:191", after := #[{ on := 3, ground := Ground.data }, { on := 2, ground := Ground.guard }], guard := some (2, true) }) (v := .int .i64 v.kind) rfl (by kernel_rfl) (by kernel_rfl) (by kernel_rfl) (fun _ _ _ h => h) (Or.inl ⟨by rfl, by (intro wz hSw; (try dsimp only at hSw); go_simp)⟩) (by assumption) ?_
                try simp only [Act.put, List.setIfInBounds_toArray, List.set_cons_zero, List.set_cons_succ]
                refine wpAnyH_take (i := 5) (oi := { dst := some 34, op := Op.move (Operand.tmp 1), type := 28, pos := "expr.go:191", after := #[{ on := 2, ground := Ground.guard }], guard := some (2, true) }) (v := .slice (some bd) N c) rfl (by kernel_rfl) (by kernel_rfl) (by kernel_rfl) (fun _ _ _ h => h) (Or.inl ⟨by rfl, by (intro wz hSw; (try dsimp only at hSw); go_simp)⟩) (by assumption) ?_
                try simp only [Act.put, List.setIfInBounds_toArray, List.set_cons_zero, List.set_cons_succ]
                refine wpAnyH_take (i := 6) (oi := { dst := some 35, op := Op.move (Operand.tmp 8), type := 3, pos := "expr.go:191", after := #[{ on := 2, ground := Ground.guard }], guard := some (2, true) }) (v := .int .i64 (i : Int)) rfl (by kernel_rfl) (by kernel_rfl) (by kernel_rfl) (fun _ _ _ h => h) (Or.inl ⟨by rfl, by (intro wz hSw; (try dsimp only at hSw); go_simp)⟩) (by assumption) ?_
                try simp only [Act.put, List.setIfInBounds_toArray, List.set_cons_zero, List.set_cons_succ]
                refine wpAnyH_take (i := 7) (oi := { dst := some 36, op := Op.indexAddr 28 (Operand.tmp 34) (Operand.tmp 35), type := 0, pos := "expr.go:191", after := #[{ on := 5, ground := Ground.data }, { on := 6, ground := Ground.data }, { on := 2, ground := Ground.guard }], guard := some (2, true) }) (v := .pointer (some (bd.add (i * 8)))) rfl (by kernel_rfl) (by kernel_rfl) (by kernel_rfl) (fun _ _ _ h => h) (Or.inl ⟨by rfl, by (intro wz hSw; (try dsimp only at hSw); go_simp)⟩) (by assumption) ?_
                try simp only [Act.put, List.setIfInBounds_toArray, List.set_cons_zero, List.set_cons_succ]
                refine wpAnyH_take (i := 8) (oi := { dst := some 37, op := Op.fieldAddr 50 (Operand.tmp 36) 1, type := 0, pos := "expr.go:191", after := #[{ on := 7, ground := Ground.data }, { on := 2, ground := Ground.guard }], guard := some (2, true) }) (v := .pointer (some ⟨(bd.add (i * 8)).block, (bd.add (i * 8)).off + 1, none⟩)) rfl (by kernel_rfl) (by kernel_rfl) (by kernel_rfl) (fun _ _ _ h => h) (Or.inl ⟨by rfl, by (intro wz hSw; (try dsimp only at hSw); go_simp)⟩) (by assumption) ?_
                try simp only [Act.put, List.setIfInBounds_toArray, List.set_cons_zero, List.set_cons_succ]
                refine wpAnyH_take (i := 9) (oi := { dst := some 38, op := Op.load 3 (Operand.tmp 37), type := 3, pos := "expr.go:191", after := #[{ on := 8, ground := Ground.data }, { on := 2, ground := Ground.guard }], guard := some (2, true) }) (v := .int .i64 f.kind) rfl (by kernel_rfl) (by kernel_rfl) (by kernel_rfl) (fun _ _ _ h => h) (Or.inl ⟨by rfl, by (intro wz hSw; (try dsimp only at hSw); go_simp)⟩) (by assumption) ?_
                try simp only [Act.put, List.setIfInBounds_toArray, List.set_cons_zero, List.set_cons_succ]
                refine wpAnyH_take (i := 10) (oi := { dst := some 39, op := Op.binOp BinOp.eql 3 (Operand.tmp 33) (Operand.tmp 38) 3, type := 4, pos := "expr.go:191", after := #[{ on := 4, ground := Ground.data }, { on := 9, ground := Ground.data }, { on := 2, ground := Ground.guard }], guard := some (2, true) }) (v := .bool true) rfl (by kernel_rfl) (by kernel_rfl) (by kernel_rfl) (fun _ _ _ h => h) (Or.inl ⟨by rfl, by (intro wz hSw; (try dsimp only at hSw); go_simp)⟩) (by assumption) ?_
                try simp only [Act.put, List.setIfInBounds_toArray, List.set_cons_zero, List.set_cons_succ]
                refine wpAnyH_take (i := 11) (oi := { dst := some 40, op := Op.pick (Operand.tmp 31) (Operand.tmp 39) (Operand.const (Value.bool false)), type := 4, pos := "expr.go:191", after := #[{ on := 2, ground := Ground.data }, { on := 10, ground := Ground.data }], guard := none }) (v := .bool true) rfl (by kernel_rfl) (by kernel_rfl) (by kernel_rfl) (fun _ _ _ h => h) (Or.inl ⟨by rfl, by (intro wz hSw; (try dsimp only at hSw); go_simp)⟩) (by assumption) ?_
                try simp only [Act.put, List.setIfInBounds_toArray, List.set_cons_zero, List.set_cons_succ]
                refine wpAnyH_ready (rs := [12]) (by kernel_rfl) (by simp) ?_
                refine AllReadyH.cons (o := { dst := some 41, op := Op.call { callee := Callee.value (Operand.func 31), args := #[Operand.tmp 40, Operand.const (Value.int IntKind.i64 1)], argTypes := #[4, 33] }, type := 0, pos := "expr.go:191", after := #[{ on := 11, ground := Ground.data }, { on := 2, ground := Ground.chain }], guard := none }) rfl (fun K hK => ?_) AllReadyH.nil
                go_simp
                refine (must_ok 1).mono ?_
                rintro x9 w9 ⟨rfl, rfl⟩
                refine hK.out _ _ hHeld (fun _ => ?_)
                clear hK K
                try simp only [Act.put, List.setIfInBounds_toArray, List.set_cons_zero, List.set_cons_succ]
                refine wpAnyH_done (by kernel_rfl) ?_ _
                refine NoPanic.normal ?_
                go_wp2_with fail
                go_roundw
                case rel =>
                  refine ⟨i + 1, by omega, by go_num, fun j f' v' hj hf' hv' => ?_, HR.out.below HB1.out⟩
                  rcases Nat.lt_or_ge j i with h | h
                  · exact HP.out j f' v' h hf' hv'
                  · obtain rfl : j = i := by omega
                    rw [HFi.out] at hf'
                    rw [HVi.out] at hv'
                    injection hf' with hf'
                    injection hv' with hv'
                    rw [← hf', ← hv']
                    exact ⟨HGo.out, HKk.out⟩
                case measure => simp [intOf]; omega
              · have E := Lib.hid (show r = (zeroV, 1) by rw [E.out, if_neg (by rw [fitB_no HFi.out HVi.out (fun h => hkk h.2)]; decide)])
                have hkn : (v.kind == f.kind) = false := by simpa using hkk
                clear hkk hg
                refine Code.wp_mono (Q := fun ex a' w' => match ex with
                  | .panic ch => ch = [{ v := .iface 89 (.int .i64 1), recovered := false }] ∧ a'.tmps[6]? = some (.pointer (some ⟨w.heap.size + 1, 0, none⟩)) ∧ a'.tmps[7]? = some (.pointer (some ⟨w.heap.size + 1 + 1, 0, none⟩)) ∧ a'.defers = [{ target := .fn (.func 30) #[], args := #[.pointer (some ⟨w.heap.size + 1 + 1, 0, none⟩)] }] ∧ JR w #[.int .i64 e.op, .slice B e.kids.length d, .string ⟨e.name.toArray⟩, .int .i64 e.val.kind, .int .i64 e.val.int, .bool e.val.bool, .string ⟨e.val.text.toArray⟩, .float .f64 e.val.num] w'
                  | _ => False) ?_ ?_
                · intro ex a' w' hq
                  cases ex with
                  | panic ch =>
                    obtain ⟨rfl, h6, h7, hd, hJ⟩ := hq
                    show Leaves _ _ a'.tmps _ a'.defers _ w'
                    rw [hd, E.out]
                    exact ev_caught h6 h7 hJ 1
                  | _ => exact hq.elim
                refine wp_region_held_drew (S := fun W => W.cell? ⟨wr.heap.size, 0, none⟩ = some (.int .i64 v.kind) ∧ W.cell? ⟨wr.heap.size, 1, none⟩ = some (.int .i64 v.int) ∧ W.cell? ⟨wr.heap.size, 2, none⟩ = some (.bool v.bool) ∧ W.cell? ⟨wr.heap.size, 3, none⟩ = some (.string ⟨v.text.toArray⟩) ∧ W.cell? ⟨wr.heap.size, 4, none⟩ = some (.float .f64 v.num) ∧ W.cell? ⟨(bd.add (i * 8)).block, (bd.add (i * 8)).off + 1, none⟩ = some (.int .i64 f.kind)) (by kernel_rfl) (KK.out _ (Below.refl _ _).drew) (fun hHeld => ?_)
                refine wpAnyH_take (i := 0) (oi := { dst := some 29, op := Op.load 25 (Operand.tmp 9), type := 25, pos := "expr.go:191", after := #[], guard := none }) (v := .agg #[.int .i64 v.kind, .int .i64 v.int, .bool v.bool, .string ⟨v.text.toArray⟩, .float .f64 v.num]) rfl (by kernel_rfl) (by kernel_rfl) (by kernel_rfl) (by intro _ _ _ h; simpa [Act.put] using h) (Or.inl ⟨by rfl, by (intro wz hSw; (try dsimp only at hSw); go_simp)⟩) (by assumption) ?_
                try simp only [Act.put, List.setIfInBounds_toArray, List.set_cons_zero, List.set_cons_succ]
                refine wpAnyH_ready (rs := [1]) (by kernel_rfl) (by simp) ?_
                refine AllReadyH.cons (o := { dst := some 30, op := Op.call { callee := Callee.value (Operand.func 36), args := #[Operand.tmp 29], argTypes := #[25] }, type := 4, pos := "expr.go:191", after := #[{ on := 0, ground := Ground.data }], guard := none }) rfl (fun K hK => ?_) AllReadyH.nil
                go_simp
                refine (HG.out _).mono ?_
                rintro x9 w2 ⟨rfl, hb⟩
                have HB1 := Lib.hid (below_self (Below.refl wv.heap.size wv).drew hb)
                clear hb
                refine hK.out _ _ (KK.out _ HB1.out) (fun hHeld => ?_)
                clear hK K
                try simp only [Act.put, List.setIfInBounds_toArray, List.set_cons_zero, List.set_cons_succ]
                refine wpAnyH_take (i := 2) (oi := { dst := some 31, op := Op.move (Operand.tmp 30), type := 4, pos := "expr.go:191", after := #[{ on := 1, ground := Ground.data }, { on := 1, ground := Ground.chain }], guard := none }) (v := .bool true) rfl (by kernel_rfl) (by kernel_rfl) (by kernel_rfl) (by intro _ _ _ h; simpa [Act.put] using h) (Or.inl ⟨by rfl, by (intro wz hSw; (try dsimp only at hSw); go_simp)⟩) (by assumption) ?_
                try simp only [Act.put, List.setIfInBounds_toArray, List.set_cons_zero, List.set_cons_succ]
                refine wpAnyH_take (i := 3) (oi := { dst := some 32, op := Op.fieldAddr 25 (Operand.tmp 9) 0, type := 0, pos := "expr.go:191", after := #[{ on := 2, ground := Ground.guard }], guard := some (2, true) }) (v := .pointer (some ⟨wr.heap.size, 0, none⟩)) rfl (by kernel_rfl) (by kernel_rfl) (by kernel_rfl) (by intro _ _ _ h; simpa [Act.put] using h) (Or.inl ⟨by rfl, by (intro wz hSw; (try dsimp only at hSw); go_simp)⟩) (by assumption) ?_
                try simp only [Act.put, List.setIfInBounds_toArray, List.set_cons_zero, List.set_cons_succ]
                refine wpAnyH_take (i := 4) (oi := { dst := some 33, op := Op.load 3 (Operand.tmp 32), type := 3, pos := "expr.go:191", after := #[{ on := 3, ground := Ground.data }, { on := 2, ground := Ground.guard }], guard := some (2, true) }) (v := .int .i64 v.kind) rfl (by kernel_rfl) (by kernel_rfl) (by kernel_rfl) (by intro _ _ _ h; simpa [Act.put] using h) (Or.inl ⟨by rfl, by (intro wz hSw; (try dsimp only at hSw); go_simp)⟩) (by assumption) ?_
                try simp only [Act.put, List.setIfInBounds_toArray, List.set_cons_zero, List.set_cons_succ]
                refine wpAnyH_take (i := 5) (oi := { dst := some 34, op := Op.move (Operand.tmp 1), type := 28, pos := "expr.go:191", after := #[{ on := 2, ground := Ground.guard }], guard := some (2, true) }) (v := .slice (some bd) N c) rfl (by kernel_rfl) (by kernel_rfl) (by kernel_rfl) (by intro _ _ _ h; simpa [Act.put] using h) (Or.inl ⟨by rfl, by (intro wz hSw; (try dsimp only at hSw); go_simp)⟩) (by assumption) ?_
                try simp only [Act.put, List.setIfInBounds_toArray, List.set_cons_zero, List.set_cons_succ]
                refine wpAnyH_take (i := 6) (oi := { dst := some 35, op := Op.move (Operand.tmp 8), type := 3, pos := "expr.go:191", after := #[{ on := 2, ground := Ground.guard }], guard := some (2, true) }) (v := .int .i64 (i : Int)) rfl (by kernel_rfl) (by kernel_rfl) (by kernel_rfl) (by intro _ _ _ h; simpa [Act.put] using h) (Or.inl ⟨by rfl, by (intro wz hSw; (try dsimp only at hSw); go_simp)⟩) (by assumption) ?_
                try simp only [Act.put, List.setIfInBounds_toArray, List.set_cons_zero, List.set_cons_succ]
                refine wpAnyH_take (i := 7) (oi := { dst := some 36, op := Op.indexAddr 28 (Operand.tmp 34) (Operand.tmp 35), type := 0, pos := "expr.go:191", after := #[{ on := 5, ground := Ground.data }, { on := 6, ground := Ground.data }, { on := 2, ground := Ground.guard }], guard := some (2, true) }) (v := .pointer (some (bd.add (i * 8)))) rfl (by kernel_rfl) (by kernel_rfl) (by kernel_rfl) (by intro _ _ _ h; simpa [Act.put] using h) (Or.inl ⟨by rfl, by (intro wz hSw; (try dsimp only at hSw); go_simp)⟩) (by assumption) ?_
                try simp only [Act.put, List.setIfInBounds_toArray, List.set_cons_zero, List.set_cons_succ]
                refine wpAnyH_take (i := 8) (oi := { dst := some 37, op := Op.fieldAddr 50 (Operand.tmp 36) 1, type := 0, pos := "expr.go:191", after := #[{ on := 7, ground := Ground.data }, { on := 2, ground := Ground.guard }], guard := some (2, true) }) (v := .pointer (some ⟨(bd.add (i * 8)).block, (bd.add (i * 8)).off + 1, none⟩)) rfl (by kernel_rfl) (by kernel_rfl) (by kernel_rfl) (by intro _ _ _ h; simpa [Act.put] using h) (Or.inl ⟨by rfl, by (intro wz hSw; (try dsimp only at hSw); go_simp)⟩) (by assumption) ?_
                try simp only [Act.put, List.setIfInBounds_toArray, List.set_cons_zero, List.set_cons_succ]
                refine wpAnyH_take (i := 9) (oi := { dst := some 38, op := Op.load 3 (Operand.tmp 37), type := 3, pos := "expr.go:191", after := #[{ on := 8, ground := Ground.data }, { on := 2, ground := Ground.guard }], guard := some (2, true) }) (v := .int .i64 f.kind) rfl (by kernel_rfl) (by kernel_rfl) (by kernel_rfl) (by intro _ _ _ h; simpa [Act.put] using h) (Or.inl ⟨by rfl, by (intro wz hSw; (try dsimp only at hSw); go_simp)⟩) (by assumption) ?_
                try simp only [Act.put, List.setIfInBounds_toArray, List.set_cons_zero, List.set_cons_succ]
                refine wpAnyH_take (i := 10) (oi := { dst := some 39, op := Op.binOp BinOp.eql 3 (Operand.tmp 33) (Operand.tmp 38) 3, type := 4, pos := "expr.go:191", after := #[{ on := 4, ground := Ground.data }, { on := 9, ground := Ground.data }, { on := 2, ground := Ground.guard }], guard := some (2, true) }) (v := .bool false) rfl (by kernel_rfl) (by kernel_rfl) (by kernel_rfl) (by intro _ _ _ h; simpa [Act.put] using h) (Or.inl ⟨by rfl, by (intro wz hSw; (try dsimp only at hSw); go_simp)⟩) (by assumption) ?_
                try simp only [Act.put, List.setIfInBounds_toArray, List.set_cons_zero, List.set_cons_succ]
                refine wpAnyH_take (i := 11) (oi := { dst := some 40, op := Op.pick (Operand.tmp 31) (Operand.tmp 39) (Operand.const (Value.bool false)), type := 4, pos := "expr.go:191", after := #[{ on := 2, ground := Ground.data }, { on := 10, ground := Ground.data }], guard := none }) (v := .bool false) rfl (by kernel_rfl) (by kernel_rfl) (by kernel_rfl) (by intro _ _ _ h; simpa [Act.put] using h) (Or.inl ⟨by rfl, by (intro wz hSw; (try dsimp only at hSw); go_simp)⟩) (by assumption) ?_
                try simp only [Act.put, List.setIfInBounds_toArray, List.set_cons_zero, List.set_cons_succ]
                refine wpAnyH_ready (rs := [12]) (by kernel_rfl) (by simp) ?_
                refine AllReadyH.cons (o := { dst := some 41, op := Op.call { callee := Callee.value (Operand.func 31), args := #[Operand.tmp 40, Operand.const (Value.int IntKind.i64 1)], argTypes := #[4, 33] }, type := 0, pos := "expr.go:191", after := #[{ on := 11, ground := Ground.data }, { on := 2, ground := Ground.chain }], guard := none }) rfl (fun K hK => ?_) AllReadyH.nil
                go_simp
                refine (must_no 1).mono ?_
                rintro x9 w9 ⟨hbd, rfl⟩
                have hbd : x9 = .panicked [{ v := .iface 89 (.int .i64 1), recovered := false }] := hbd
                subst hbd
                exact ⟨rfl, HR.out.below HB1.out⟩
          · have E := Lib.hid (show r = match evE fl vs n e with
              | .error x => (zeroV, x)
              | .ok v => (v, 0) by rw [E.out, if_pos (fitB_of EL.out fun j f v hf hv => HP.out j f v (by have := (List.getElem?_eq_some_iff.1 hf).1; have := EF.out; omega) hf hv)])
            have HE := Lib.hid (eval_c (w := wr) n (HH.out _ JW.out.1) (HF.out _ JW.out.1) (HV.out _ JW.out.1) HKE.out)
            obtain ⟨e0, e1, e2, e3, e4, e5, e6, e7⟩ := cells8 JW.out.2.1
            go_wp2_with fail
            refine HE.out.mono ?_
            rintro x9 w3 ⟨hret, hb⟩
            have J3 := Lib.hid (JW.out.below hb)
            clear hb JW e0 e1 e2 e3 e4 e5 e6 e7 HE
            generalize evE fl vs n e = rv at *
            rcases rv with y | v
            · have hret : x9 = .panicked [{ v := .iface 89 (.int .i64 y), recovered := false }] := hret
              subst hret
              have E2 := Lib.hid (show r = (zeroV, y) from E.out)
              go_wp2_with fail
              rw [E2.out]
              exact ev_caught rfl rfl J3.out y
            · have hret : x9 = .returned (.agg #[.int .i64 v.kind, .int .i64 v.int, .bool v.bool, .string ⟨v.text.toArray⟩, .float .f64 v.num]) := hret
              subst hret
              have E2 := Lib.hid (show r = (v, 0) from E.out)
              obtain ⟨m0, m1, m2, m3, m4⟩ := cells5 J3.out.2.2.1
              obtain ⟨u0, u1, u2, u3, u4⟩ := frees5 J3.out.2.2.1
              have hzt := lt_of_heap J3.out.2.2.1
              have q0 := cell_of J3.out.2.2.2 0
              have q1 := free_of J3.out.2.2.2 0
              simp only [List.getElem?_toArray, List.getElem?_cons_zero] at q0
              have hzq := lt_of_heap J3.out.2.2.2
              go_wp21
              have X5 := set5_ext w3 (w.heap.size + 1) (.int .i64 v.kind) (.int .i64 v.int) (.bool v.bool) (.string ⟨v.text.toArray⟩) (.float .f64 v.num)
              have K5 := set5_heap (.int .i64 v.kind) (.int .i64 v.int) (.bool v.bool) (.string ⟨v.text.toArray⟩) (.float .f64 v.num) J3.out.2.2.1
              have K1 := J3.out.2.2.2.ext X5 (by omega)
              have B5 := below_ext_ne J3.out.1 X5 (by omega) (Nat.le_refl _)
              obtain ⟨q0, q1, q2, q3, q4⟩ := cells5 (heap_set_ne' K5 (show w.heap.size + 1 ≠ w.heap.size + 1 + 1 by omega) 0 (.int .i64 0))
              have KC := cell_of (heap_set K1 0 (.int .i64 0)) 0
              simp only [List.setIfInBounds_toArray, List.set_cons_zero, List.getElem?_toArray, List.getElem?_cons_zero] at KC
              have B6 := below_ext_ne B5 (ext_set_ne (Ext.refl (fun b => b ≠ w.heap.size + 1 + 1) _) 0 (.int .i64 0)) (by omega) (Nat.le_refl _)
              rw [E2.out]
              clear X5 K5 K1 B5
              change bodyPostD _ _ _ _ _ ((set5 w3 (w.heap.size + 1) (.int .i64 v.kind) (.int .i64 v.int) (.bool v.bool) (.string ⟨v.text.toArray⟩) (.float .f64 v.num)).setCell ⟨w.heap.size + 1 + 1, 0, none⟩ (.int .i64 0))
              generalize ((set5 w3 (w.heap.size + 1) (.int .i64 v.kind) (.int .i64 v.int) (.bool v.bool) (.string ⟨v.text.toArray⟩) (.float .f64 v.num)).setCell ⟨w.heap.size + 1 + 1, 0, none⟩ (.int .i64 0)) = w6 at *
              exact leaves_idle (v := .tuple #[.agg #[.int .i64 v.kind, .int .i64 v.int, .bool v.bool, .string ⟨v.text.toArray⟩, .float .f64 v.num], .int .i64 0]) (by simp [results, Try.results12, go_sem, q0, q1, q2, q3, q4, KC]) ⟨rfl, B6⟩
      · have E2 := Lib.hid (show r = (zeroV, 1) by rw [E.out, if_neg (by rw [fitB_ne (fl := fl) (vs := vs) (by omega)]; decide)])
        have hN' : ((N : Int) == (N2 : Int)) = false := by simpa using (show ¬ (N : Int) = N2 by omega)
        clear lf lv
        go_wp2_with fail
        refine (must_no 1).mono ?_
        rintro x9 w9 ⟨hbd, rfl⟩
        have hbd : x9 = .panicked [{ v := .iface 89 (.int .i64 1), recovered := false }] := hbd
        subst hbd
        go_wp2_with fail
        rw [E2.out]
        exact ev_caught rfl rfl J2.out 1
end
end Go.Proofs.Ytijlamajcdekkaa
