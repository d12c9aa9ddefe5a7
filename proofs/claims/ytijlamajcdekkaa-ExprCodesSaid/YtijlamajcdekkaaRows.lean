/-
  NARROWER THAN 'FOR EVERY INPUT', by the rows' own cells (each row's printed sentence says how): ExprSound: loops · ExprLazy: loops · ExprFields: loops · ExprCodes: loops · ExprBack: loops.
  DERIVED. THE GIVEN ROWS OF THIS SEAT. 5 by the template 'for every input the law returns true; each argument reads behind the call as it read before'; 0 by the template 'total and deterministic' (their statements: YtijlamajcdekkaaTotals.lean).
  GIVEN WITH THE SEED: the statements are not yours to turn. If you find one false, say at which input.
  Laid BY PROGRAM, IN A SANDBOX (cutbox-rows.mjs): the forced cells as the released guide's own fill.sh prints them over the translation 3fd685eaaf3b59cc… (all of the seat's roots in one cut). By AI agents, Wed Nov 11 2026. No macro, syntax, notation, axiom, sorry.
-/
import Derived.Test.YtijlamajcdekkaaChecked
import GoSem.Claim
import GoSem.ClaimJoined
import GoSem.ClaimMapViews
import Derived.JoinedTies
import Derived.KernelRfl
namespace Go.Proofs.Ytijlamajcdekkaa
/- THE CELL 'sum', in the pinned program and in every row, IS THE sha256 OF THE DUMP (.gsa) THAT YtijlamajcdekkaaProg.lean LOADS. Nothing in Lean hashes anything: it is a label: what it is worth is what the hold of that sum in a sandbox is worth. -/
noncomputable def Try.pinned : Pinned := { name := "ytijlamajcdekkaa", sum := "3fd685eaaf3b59cce51987a745e7bc53f70fdf156e4945825675601afcf09181", checked := Try.checked }
namespace Rows
def none {H : Type} : Left H := { results := [], args := [] }

/-- 'quaestorlaw05.ExprSound': WHATEVER THE INPUT: true; the input reads as it did. -/
def exprSoundSpec : ChangeSpec := { name := "exprSound", fn := fun _ => fun
  | [d1, d2] => { results := [.lit (.bool true)], args := [d1, d2] }
  | _ => none }
def exprSoundRow : OpenClaim := { program := "ytijlamajcdekkaa", sum := "3fd685eaaf3b59cce51987a745e7bc53f70fdf156e4945825675601afcf09181", func := "quaestor/quaestorlaw05.ExprSound", spec := "exprSound", inPlace := ["math.Float64bits", "math.Float64frombits"], unfollowed := true, recurses := true, loops := true, apart := false }
def ExprSoundSaid : Prop := exprSoundRow.holds Try.pinned (OpenSpec.ofChange exprSoundSpec)

/-- ITS FALSE NEIGHBOUR: 'it returns false'. Refute it at one input. -/
def exprSoundWrong : ChangeSpec := { name := "exprSound", fn := fun _ => fun
  | [d1, d2] => { results := [.lit (.bool false)], args := [d1, d2] }
  | _ => none }
def ExprSoundWrongFalsely : Prop := exprSoundRow.holds Try.pinned (OpenSpec.ofChange exprSoundWrong)

/-- 'quaestorlaw05.ExprLazy': WHATEVER THE INPUT: true; the input reads as it did. -/
def exprLazySpec : ChangeSpec := { name := "exprLazy", fn := fun _ => fun
  | [d1, d2] => { results := [.lit (.bool true)], args := [d1, d2] }
  | _ => none }
def exprLazyRow : OpenClaim := { program := "ytijlamajcdekkaa", sum := "3fd685eaaf3b59cce51987a745e7bc53f70fdf156e4945825675601afcf09181", func := "quaestor/quaestorlaw05.ExprLazy", spec := "exprLazy", inPlace := ["math.Float64bits", "math.Float64frombits"], unfollowed := true, recurses := true, loops := true, apart := false }
def ExprLazySaid : Prop := exprLazyRow.holds Try.pinned (OpenSpec.ofChange exprLazySpec)

/-- ITS FALSE NEIGHBOUR: 'it returns false'. Refute it at one input. -/
def exprLazyWrong : ChangeSpec := { name := "exprLazy", fn := fun _ => fun
  | [d1, d2] => { results := [.lit (.bool false)], args := [d1, d2] }
  | _ => none }
def ExprLazyWrongFalsely : Prop := exprLazyRow.holds Try.pinned (OpenSpec.ofChange exprLazyWrong)

/-- 'quaestorlaw05.ExprFields': WHATEVER THE INPUT: true; the input reads as it did. -/
def exprFieldsSpec : ChangeSpec := { name := "exprFields", fn := fun _ => fun
  | [d1, d2, d3] => { results := [.lit (.bool true)], args := [d1, d2, d3] }
  | _ => none }
def exprFieldsRow : OpenClaim := { program := "ytijlamajcdekkaa", sum := "3fd685eaaf3b59cce51987a745e7bc53f70fdf156e4945825675601afcf09181", func := "quaestor/quaestorlaw05.ExprFields", spec := "exprFields", inPlace := ["math.Float64bits", "math.Float64frombits"], unfollowed := true, recurses := true, loops := true, apart := false }
def ExprFieldsSaid : Prop := exprFieldsRow.holds Try.pinned (OpenSpec.ofChange exprFieldsSpec)

/-- ITS FALSE NEIGHBOUR: 'it returns false'. Refute it at one input. -/
def exprFieldsWrong : ChangeSpec := { name := "exprFields", fn := fun _ => fun
  | [d1, d2, d3] => { results := [.lit (.bool false)], args := [d1, d2, d3] }
  | _ => none }
def ExprFieldsWrongFalsely : Prop := exprFieldsRow.holds Try.pinned (OpenSpec.ofChange exprFieldsWrong)

/-- 'quaestorlaw05.ExprCodes': WHATEVER THE INPUT: true; the input reads as it did. -/
def exprCodesSpec : ChangeSpec := { name := "exprCodes", fn := fun _ => fun
  | [d1, d2] => { results := [.lit (.bool true)], args := [d1, d2] }
  | _ => none }
def exprCodesRow : OpenClaim := { program := "ytijlamajcdekkaa", sum := "3fd685eaaf3b59cce51987a745e7bc53f70fdf156e4945825675601afcf09181", func := "quaestor/quaestorlaw05.ExprCodes", spec := "exprCodes", inPlace := ["math.Float64frombits", "math.Float64bits"], unfollowed := true, recurses := true, loops := true, apart := false }
def ExprCodesSaid : Prop := exprCodesRow.holds Try.pinned (OpenSpec.ofChange exprCodesSpec)

/-- ITS FALSE NEIGHBOUR: 'it returns false'. Refute it at one input. -/
def exprCodesWrong : ChangeSpec := { name := "exprCodes", fn := fun _ => fun
  | [d1, d2] => { results := [.lit (.bool false)], args := [d1, d2] }
  | _ => none }
def ExprCodesWrongFalsely : Prop := exprCodesRow.holds Try.pinned (OpenSpec.ofChange exprCodesWrong)

/-- 'quaestorlaw05.ExprBack': WHATEVER THE INPUT: true; the input reads as it did. -/
def exprBackSpec : ChangeSpec := { name := "exprBack", fn := fun _ => fun
  | [d1, d2, d3] => { results := [.lit (.bool true)], args := [d1, d2, d3] }
  | _ => none }
def exprBackRow : OpenClaim := { program := "ytijlamajcdekkaa", sum := "3fd685eaaf3b59cce51987a745e7bc53f70fdf156e4945825675601afcf09181", func := "quaestor/quaestorlaw05.ExprBack", spec := "exprBack", inPlace := ["math.Float64bits", "math.Float64frombits"], unfollowed := true, recurses := true, loops := true, apart := false }
def ExprBackSaid : Prop := exprBackRow.holds Try.pinned (OpenSpec.ofChange exprBackSpec)

/-- ITS FALSE NEIGHBOUR: 'it returns false'. Refute it at one input. -/
def exprBackWrong : ChangeSpec := { name := "exprBack", fn := fun _ => fun
  | [d1, d2, d3] => { results := [.lit (.bool false)], args := [d1, d2, d3] }
  | _ => none }
def ExprBackWrongFalsely : Prop := exprBackRow.holds Try.pinned (OpenSpec.ofChange exprBackWrong)

/- THE SECOND FORM. 'bulk': how many values and letters a reading holds, each counted each time it is reached (what is shared counts as often as it is met; a slice's spare places count too). A statement '..UptoSaid' is the law's where the arguments, and the package variables that the reading takes, are together of bulk at most 1048576: NARROWER than '..Said'. Prove '..Said' where nothing that the law and all that it calls make is longer than what came in: it says more and counts as full. Else prove '..UptoSaid'. A law counts once. -/
mutual
def uptoBulk {H : Type} : DataW H → Nat
  | .lit (.string bytes) => bytes.length + 1
  | .lit _ => 1
  | .nil => 1
  | .ptr d => uptoBulk d + 1
  | .slice elems spare => uptoBulkAll elems + uptoBulkAll spare + 1
  | .agg parts => uptoBulkAll parts + 1
  | .iface _ d => uptoBulk d + 1
  | .map entries => uptoBulkEntries entries + 1
  | .held _ => 1
def uptoBulkAll {H : Type} : List (DataW H) → Nat
  | [] => 0
  | d :: r => uptoBulk d + uptoBulkAll r
def uptoBulkEntries {H : Type} : List (Lit × DataW H) → Nat
  | [] => 0
  | x :: r => uptoBulkEntry x + uptoBulkEntries r
def uptoBulkEntry {H : Type} : Lit × DataW H → Nat
  | (.string bytes, d) => bytes.length + uptoBulk d + 1
  | (_, d) => uptoBulk d + 1
 end
def uptoSmall : (H : Type) → List (DataW H) → Bool := fun _ ds => decide (uptoBulkAll ds ≤ 1048576)
def OpenSpec.upto (s : _root_.Go.ChangeSpec) : _root_.Go.OpenSpec := { _root_.Go.OpenSpec.ofChange s with cond := some uptoSmall }

/-- 'quaestorlaw05.ExprSound', WHERE WHAT IT READS IS OF BULK AT MOST 1048576: true; the input reads as it did. -/
def exprSoundUptoRow : OpenClaim := { program := "ytijlamajcdekkaa", sum := "3fd685eaaf3b59cce51987a745e7bc53f70fdf156e4945825675601afcf09181", func := "quaestor/quaestorlaw05.ExprSound", spec := "exprSound", inPlace := ["math.Float64bits", "math.Float64frombits"], unfollowed := true, recurses := true, loops := true, apart := false, narrowed := true }
def ExprSoundUptoSaid : Prop := exprSoundUptoRow.holds Try.pinned (OpenSpec.upto exprSoundSpec)

/-- 'quaestorlaw05.ExprLazy', WHERE WHAT IT READS IS OF BULK AT MOST 1048576: true; the input reads as it did. -/
def exprLazyUptoRow : OpenClaim := { program := "ytijlamajcdekkaa", sum := "3fd685eaaf3b59cce51987a745e7bc53f70fdf156e4945825675601afcf09181", func := "quaestor/quaestorlaw05.ExprLazy", spec := "exprLazy", inPlace := ["math.Float64bits", "math.Float64frombits"], unfollowed := true, recurses := true, loops := true, apart := false, narrowed := true }
def ExprLazyUptoSaid : Prop := exprLazyUptoRow.holds Try.pinned (OpenSpec.upto exprLazySpec)

/-- 'quaestorlaw05.ExprFields', WHERE WHAT IT READS IS OF BULK AT MOST 1048576: true; the input reads as it did. -/
def exprFieldsUptoRow : OpenClaim := { program := "ytijlamajcdekkaa", sum := "3fd685eaaf3b59cce51987a745e7bc53f70fdf156e4945825675601afcf09181", func := "quaestor/quaestorlaw05.ExprFields", spec := "exprFields", inPlace := ["math.Float64bits", "math.Float64frombits"], unfollowed := true, recurses := true, loops := true, apart := false, narrowed := true }
def ExprFieldsUptoSaid : Prop := exprFieldsUptoRow.holds Try.pinned (OpenSpec.upto exprFieldsSpec)

/-- 'quaestorlaw05.ExprCodes', WHERE WHAT IT READS IS OF BULK AT MOST 1048576: true; the input reads as it did. -/
def exprCodesUptoRow : OpenClaim := { program := "ytijlamajcdekkaa", sum := "3fd685eaaf3b59cce51987a745e7bc53f70fdf156e4945825675601afcf09181", func := "quaestor/quaestorlaw05.ExprCodes", spec := "exprCodes", inPlace := ["math.Float64frombits", "math.Float64bits"], unfollowed := true, recurses := true, loops := true, apart := false, narrowed := true }
def ExprCodesUptoSaid : Prop := exprCodesUptoRow.holds Try.pinned (OpenSpec.upto exprCodesSpec)

/-- 'quaestorlaw05.ExprBack', WHERE WHAT IT READS IS OF BULK AT MOST 1048576: true; the input reads as it did. -/
def exprBackUptoRow : OpenClaim := { program := "ytijlamajcdekkaa", sum := "3fd685eaaf3b59cce51987a745e7bc53f70fdf156e4945825675601afcf09181", func := "quaestor/quaestorlaw05.ExprBack", spec := "exprBack", inPlace := ["math.Float64bits", "math.Float64frombits"], unfollowed := true, recurses := true, loops := true, apart := false, narrowed := true }
def ExprBackUptoSaid : Prop := exprBackUptoRow.holds Try.pinned (OpenSpec.upto exprBackSpec)

end Rows
end Go.Proofs.Ytijlamajcdekkaa
