/- Expressions, values and fields that come in, opened. -/
import Derived.Test.YtjnhgfmjehaalaaTn
import Derived.Test.YtjnhgfmjehaalaaE1
namespace Go.Proofs.Ytjnhgfmjehaalaa
open Go.RowKit Go.ChangeShapes Go.WideShapes Go.ChangeAt Go.Deep
set_option linter.unusedVariables false
def i64 (x : Int) : Prop := -9223372036854775808 ≤ x ∧ x ≤ 9223372036854775807
theorem opens_i64 {N : Nat} {t : TypeId} (ht : Try.prog.underlying t = some (.int .i64)) : Opens Try.prog N t kI i64 := opens_int ht
theorem opens_wf {n : Int} (h : (Lit.int .i64 n).wf = true) : i64 n := by
  have hw : (decide ((-9223372036854775808 : Int) ≤ n) && decide (n ≤ 9223372036854775807)) = true := h
  rw [Bool.and_eq_true, decide_eq_true_iff, decide_eq_true_iff] at hw
  exact hw
theorem trod_f64 {H : Type} {enc : TypeId × Value → H} {P : Program} {w : World} {base : Nat} {spare : Nat → Bool} {held : Bool} {fuel : Nat} {t : TypeId} {cs : List Value} {x : DataW H × List MemPlace} {k : FloatKind} (ht : P.underlying t = some (.float k)) (h : DataW.trod enc P w base spare held fuel t cs = some x) : ∃ n, cs = [.float k n] ∧ x = (.lit (.float k n), []) ∧ (Lit.float k n).wf = true := by
  cases fuel with
  | zero => simp [DataW.trod] at h
  | succ n =>
    unfold DataW.trod at h
    rw [ht] at h
    split at h <;> simp_all
theorem opens_f64 {N : Nat} {t : TypeId} (ht : Try.prog.underlying t = some (.float .f64)) : Opens Try.prog N t kF64 (fun b => b < 2 ^ 64) := fun H enc w base spare held fuel cs x hN hx => by
  obtain ⟨b, rfl, _, hw⟩ := trod_f64 ht hx
  exact ⟨b, rfl, of_decide_eq_true hw⟩
/-- a value whose numbers are of their kind -/
structure ValI (v : Val) : Prop where
  kind : i64 v.kind
  int : i64 v.int
  num : v.num < 2 ^ 64
theorem opens_val {N : Nat} : Opens Try.prog N 36 kVal ValI := by
  cases N with
  | zero => exact opens_none
  | succ N =>
    exact (opens_iso (fun v : Val => (v.kind, v.int, v.bool, v.text, v.num)) (fun p => ⟨p.1, p.2.1, p.2.2.1, p.2.2.2.1, p.2.2.2.2⟩) (fun _ => rfl) (opens_struct Try.underlying36 (by kernel_rfl)
      (opensF_cons rfl (by kernel_rfl) (opens_i64 Try.underlying3) (opensF_cons rfl (by kernel_rfl) (opens_i64 Try.underlying2) (opensF_cons rfl (by kernel_rfl) (opens_bool Try.underlying4)
        (opensF_cons rfl (by kernel_rfl) (opens_str Try.underlying9) (opensF_one rfl (by kernel_rfl) (opens_f64 Try.underlying34)))))))).weak fun v h => ⟨h.1, h.2.1, h.2.2.2.2⟩
theorem opens_fld {N : Nat} : Opens Try.prog N 38 kFld (fun f => i64 f.kind ∧ ValI f.init) := by
  cases N with
  | zero => exact opens_none
  | succ N =>
    exact (opens_iso (fun f : Fld => (f.name, f.kind, f.enum, f.init)) (fun p => ⟨p.1, p.2.1, p.2.2.1, p.2.2.2⟩) (fun _ => rfl) (opens_struct Try.underlying38 (by kernel_rfl)
      (opensF_cons rfl (by kernel_rfl) (opens_str Try.underlying9) (opensF_cons rfl (by kernel_rfl) (opens_i64 Try.underlying3) (opensF_cons rfl (by kernel_rfl) (opens_slice Try.underlying33 (by kernel_rfl) (opens_str Try.underlying9))
        (opensF_one rfl (by kernel_rfl) opens_val)))))).weak fun f h => ⟨h.2.1, h.2.2.2⟩
theorem opens_flds {N : Nat} : Opens Try.prog N 22 (kSl kFld) (fun l => ∀ f ∈ l, i64 f.kind ∧ ValI f.init) := opens_slice Try.underlying22 (by kernel_rfl) opens_fld
/-- an expression whose numbers are of their kind -/
inductive ExpI : Exp → Prop where
  | mk {op : Int} {kids : List Exp} {name : List UInt8} {val : Val} : i64 op → (∀ k ∈ kids, ExpI k) → ValI val → ExpI (.mk op kids name val)
theorem opens_exp : ∀ N : Nat, Opens Try.prog N 44 (kExp N) ExpI
  | 0 => opens_none
  | N + 1 =>
    (opens_iso (d := kPair kI (kPair (kSl (kExp N)) (kPair kStr kVal))) (fun e : Exp => (e.op, e.kids, e.name, e.val)) (fun p => .mk p.1 p.2.1 p.2.2.1 p.2.2.2) (fun _ => rfl) (opens_struct Try.underlying44 (by show _ = 8; kernel_rfl)
      (opensF_cons rfl (by kernel_rfl) (opens_i64 Try.underlying3) (opensF_cons rfl (by kernel_rfl) (opens_slice Try.underlying42 (by rw [kExp_sz]; kernel_rfl) (opens_exp N))
        (opensF_cons rfl (by kernel_rfl) (opens_str Try.underlying9) (opensF_one rfl (by kernel_rfl) opens_val)))))).weak fun e h => by
      obtain ⟨op, kids, name, val⟩ := e
      exact .mk h.1 h.2.1 h.2.2.2
end Go.Proofs.Ytjnhgfmjehaalaa
