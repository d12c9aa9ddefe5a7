/- Expressions, scopes, values that come in, opened. -/
import Derived.Test.YtijlamajcdekkaaMA
namespace Go.Proofs.Ytijlamajcdekkaa
open Go.RowKit Go.ChangeShapes Go.WideShapes Go.ChangeAt Go.Deep
set_option linter.unusedVariables false
abbrev kScope : Kd (List Fld × List Val) := kPair (kSl kFld) (kSl kVal)
theorem opens_scope : ∀ N : Nat, Opens Try.prog N 31 kScope (fun s => (∀ f ∈ s.1, i64 f.kind ∧ ValI f.init) ∧ ∀ v ∈ s.2, ValI v)
  | 0 => opens_none
  | N + 1 => (opens_struct (d := kPair (kSl kFld) (kSl kVal)) Try.underlying31 (by kernel_rfl) (opensF_cons rfl (by kernel_rfl) opens_flds (opensF_one rfl (by kernel_rfl) opens_vals))).weak fun s h => h
/-- an argument's own cells -/
theorem Opens.arg {H : Type} {enc : TypeId × Value → H} {α : Type} {t : TypeId} {d : Nat → Kd α} {q : α → Prop} (h : ∀ N, Opens Try.prog N t (d N) q) {w : World} {base : Nat} {spare : Nat → Bool} {held : Bool} {v : Value} {x : DataW H} {p : List MemPlace} (hx : DataW.Trod enc Try.prog w base spare held t v x p) :
    ∃ N a, (d N).R (fun _ => True) w v.cells.toList a ∧ q a := by
  obtain ⟨fuel, hf⟩ := hx
  exact ⟨fuel, h fuel _ _ _ _ _ _ _ _ _ (Nat.le_refl _) hf⟩
theorem scope_open {w : World} {c : Array Value} {s : List Fld × List Val} (h : kScope.R (fun _ => True) w c.toList s) : ∃ A N d A2 N2 d2, c = #[.slice A N d, .slice A2 N2 d2] ∧ Sl kFld (fun _ => True) w (.slice A N d) s.1 ∧ Sl kVal (fun _ => True) w (.slice A2 N2 d2) s.2 := by
  obtain ⟨c1, c2, e, ⟨v1, rfl, h1⟩, ⟨v2, rfl, h2⟩⟩ := h
  have h1' := h1
  have h2' := h2
  obtain ⟨A, N, d, rfl, _⟩ := h1
  obtain ⟨A2, N2, d2, rfl, _⟩ := h2
  refine ⟨A, N, d, A2, N2, d2, ?_, h1', h2'⟩
  cases c
  simp at e
  rw [e]
end Go.Proofs.Ytijlamajcdekkaa
