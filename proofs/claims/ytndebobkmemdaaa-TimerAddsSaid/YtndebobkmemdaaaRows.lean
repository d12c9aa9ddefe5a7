/-
  No cell of these rows narrows 'for every input' (looked for: loops, veiled, ifaces, maps, wideKeys, modest, calm, conditions, laid).
  DERIVED. THE GIVEN ROWS OF THIS SEAT. 6 by the template 'for every input the law returns true; each argument reads behind the call as it read before'; 0 by the template 'total and deterministic' (their statements: YtndebobkmemdaaaTotals.lean).
  GIVEN WITH THE SEED: the statements are not yours to turn. If you find one false, say at which input.
  Laid BY PROGRAM, IN A SANDBOX (cutbox-rows.mjs): the forced cells as the released guide's own fill.sh prints them over the translation 28c67683f0d09db2… (all of the seat's roots in one cut). By AI agents, Wed Nov 11 2026. No macro, syntax, notation, axiom, sorry.
-/
import Derived.Test.YtndebobkmemdaaaChecked
import GoSem.Claim
import GoSem.ClaimJoined
import GoSem.ClaimMapViews
import Derived.JoinedTies
import Derived.KernelRfl
namespace Go.Proofs.Ytndebobkmemdaaa
/- THE CELL 'sum', in the pinned program and in every row, IS THE sha256 OF THE DUMP (.gsa) THAT YtndebobkmemdaaaProg.lean LOADS. Nothing in Lean hashes anything: it is a label: what it is worth is what the hold of that sum in a sandbox is worth. -/
noncomputable def Try.pinned : Pinned := { name := "ytndebobkmemdaaa", sum := "28c67683f0d09db2025add00b85c5cafe69eecdacec6e7cdeda8635142719d84", checked := Try.checked }
namespace Rows
def none {H : Type} : Left H := { results := [], args := [] }

/-- 'quaestorlaw16.TimerPlays': WHATEVER THE INPUT: true; the input reads as it did. -/
def timerPlaysSpec : ChangeSpec := { name := "timerPlays", fn := fun _ => fun
  | [d] => { results := [.lit (.bool true)], args := [d] }
  | _ => none }
def timerPlaysRow : OpenClaim := { program := "ytndebobkmemdaaa", sum := "28c67683f0d09db2025add00b85c5cafe69eecdacec6e7cdeda8635142719d84", func := "quaestor/quaestorlaw16.TimerPlays", spec := "timerPlays", apart := false }
def TimerPlaysSaid : Prop := timerPlaysRow.holds Try.pinned (OpenSpec.ofChange timerPlaysSpec)

/-- ITS FALSE NEIGHBOUR: 'it returns false'. Refute it at one input. -/
def timerPlaysWrong : ChangeSpec := { name := "timerPlays", fn := fun _ => fun
  | [d] => { results := [.lit (.bool false)], args := [d] }
  | _ => none }
def TimerPlaysWrongFalsely : Prop := timerPlaysRow.holds Try.pinned (OpenSpec.ofChange timerPlaysWrong)

/-- 'quaestorlaw16.TimerFires': WHATEVER THE INPUT: true; the input reads as it did. -/
def timerFiresSpec : ChangeSpec := { name := "timerFires", fn := fun _ => fun
  | [d1, d2] => { results := [.lit (.bool true)], args := [d1, d2] }
  | _ => none }
def timerFiresRow : OpenClaim := { program := "ytndebobkmemdaaa", sum := "28c67683f0d09db2025add00b85c5cafe69eecdacec6e7cdeda8635142719d84", func := "quaestor/quaestorlaw16.TimerFires", spec := "timerFires", apart := false }
def TimerFiresSaid : Prop := timerFiresRow.holds Try.pinned (OpenSpec.ofChange timerFiresSpec)

/-- ITS FALSE NEIGHBOUR: 'it returns false'. Refute it at one input. -/
def timerFiresWrong : ChangeSpec := { name := "timerFires", fn := fun _ => fun
  | [d1, d2] => { results := [.lit (.bool false)], args := [d1, d2] }
  | _ => none }
def TimerFiresWrongFalsely : Prop := timerFiresRow.holds Try.pinned (OpenSpec.ofChange timerFiresWrong)

/-- 'quaestorlaw16.TimerWaits': WHATEVER THE INPUT: true; the input reads as it did. -/
def timerWaitsSpec : ChangeSpec := { name := "timerWaits", fn := fun _ => fun
  | [d] => { results := [.lit (.bool true)], args := [d] }
  | _ => none }
def timerWaitsRow : OpenClaim := { program := "ytndebobkmemdaaa", sum := "28c67683f0d09db2025add00b85c5cafe69eecdacec6e7cdeda8635142719d84", func := "quaestor/quaestorlaw16.TimerWaits", spec := "timerWaits", apart := false }
def TimerWaitsSaid : Prop := timerWaitsRow.holds Try.pinned (OpenSpec.ofChange timerWaitsSpec)

/-- ITS FALSE NEIGHBOUR: 'it returns false'. Refute it at one input. -/
def timerWaitsWrong : ChangeSpec := { name := "timerWaits", fn := fun _ => fun
  | [d] => { results := [.lit (.bool false)], args := [d] }
  | _ => none }
def TimerWaitsWrongFalsely : Prop := timerWaitsRow.holds Try.pinned (OpenSpec.ofChange timerWaitsWrong)

/-- 'quaestorlaw16.TimerSoon': WHATEVER THE INPUT: true; the input reads as it did. -/
def timerSoonSpec : ChangeSpec := { name := "timerSoon", fn := fun _ => fun
  | [d] => { results := [.lit (.bool true)], args := [d] }
  | _ => none }
def timerSoonRow : OpenClaim := { program := "ytndebobkmemdaaa", sum := "28c67683f0d09db2025add00b85c5cafe69eecdacec6e7cdeda8635142719d84", func := "quaestor/quaestorlaw16.TimerSoon", spec := "timerSoon", apart := false }
def TimerSoonSaid : Prop := timerSoonRow.holds Try.pinned (OpenSpec.ofChange timerSoonSpec)

/-- ITS FALSE NEIGHBOUR: 'it returns false'. Refute it at one input. -/
def timerSoonWrong : ChangeSpec := { name := "timerSoon", fn := fun _ => fun
  | [d] => { results := [.lit (.bool false)], args := [d] }
  | _ => none }
def TimerSoonWrongFalsely : Prop := timerSoonRow.holds Try.pinned (OpenSpec.ofChange timerSoonWrong)

/-- 'quaestorlaw16.TimerNone': WHATEVER THE INPUT: true; the input reads as it did. -/
def timerNoneSpec : ChangeSpec := { name := "timerNone", fn := fun _ => fun
  | [d] => { results := [.lit (.bool true)], args := [d] }
  | _ => none }
def timerNoneRow : OpenClaim := { program := "ytndebobkmemdaaa", sum := "28c67683f0d09db2025add00b85c5cafe69eecdacec6e7cdeda8635142719d84", func := "quaestor/quaestorlaw16.TimerNone", spec := "timerNone", apart := false }
def TimerNoneSaid : Prop := timerNoneRow.holds Try.pinned (OpenSpec.ofChange timerNoneSpec)

/-- ITS FALSE NEIGHBOUR: 'it returns false'. Refute it at one input. -/
def timerNoneWrong : ChangeSpec := { name := "timerNone", fn := fun _ => fun
  | [d] => { results := [.lit (.bool false)], args := [d] }
  | _ => none }
def TimerNoneWrongFalsely : Prop := timerNoneRow.holds Try.pinned (OpenSpec.ofChange timerNoneWrong)

/-- 'quaestorlaw16.TimerAdds': WHATEVER THE INPUT: true; the input reads as it did. -/
def timerAddsSpec : ChangeSpec := { name := "timerAdds", fn := fun _ => fun
  | [d1, d2, d3] => { results := [.lit (.bool true)], args := [d1, d2, d3] }
  | _ => none }
def timerAddsRow : OpenClaim := { program := "ytndebobkmemdaaa", sum := "28c67683f0d09db2025add00b85c5cafe69eecdacec6e7cdeda8635142719d84", func := "quaestor/quaestorlaw16.TimerAdds", spec := "timerAdds", apart := false }
def TimerAddsSaid : Prop := timerAddsRow.holds Try.pinned (OpenSpec.ofChange timerAddsSpec)

/-- ITS FALSE NEIGHBOUR: 'it returns false'. Refute it at one input. -/
def timerAddsWrong : ChangeSpec := { name := "timerAdds", fn := fun _ => fun
  | [d1, d2, d3] => { results := [.lit (.bool false)], args := [d1, d2, d3] }
  | _ => none }
def TimerAddsWrongFalsely : Prop := timerAddsRow.holds Try.pinned (OpenSpec.ofChange timerAddsWrong)

/- THE SECOND FORM. 'bulk': how many values and letters a reading holds, each counted each time it is reached (what is shared counts as often as it is met; a slice's spare places count too). A statement '..UptoSaid' is the law's where the arguments, and the package variables that the reading takes, are together of bulk at most 1048576: NARROWER than '..Said'. Prove '..Said' where nothing that the law and all that it calls make is longer than what came in: it says more and counts as full. Else prove '..UptoSaid'. A law counts once. -/
mutual
def uptoBulk {H : Type} : DataW H → Nat
  | .lit (.string bytes) => bytes.length + 1
  | .lit _ => 1
  | .nil => 1
  | .ptr d => uptoBulk d + 1
  | .slice elems spare => uptoBulkAll elems + uptoBulkAll spare + 1
  | .agg parts => uptoBulkAll parts + 1
  | .iface _ d => uptoBulk d + 1
  | .map entries => uptoBulkEntries entries + 1
  | .held _ => 1
def uptoBulkAll {H : Type} : List (DataW H) → Nat
  | [] => 0
  | d :: r => uptoBulk d + uptoBulkAll r
def uptoBulkEntries {H : Type} : List (Lit × DataW H) → Nat
  | [] => 0
  | x :: r => uptoBulkEntry x + uptoBulkEntries r
def uptoBulkEntry {H : Type} : Lit × DataW H → Nat
  | (.string bytes, d) => bytes.length + uptoBulk d + 1
  | (_, d) => uptoBulk d + 1
 end
def uptoSmall : (H : Type) → List (DataW H) → Bool := fun _ ds => decide (uptoBulkAll ds ≤ 1048576)
def OpenSpec.upto (s : _root_.Go.ChangeSpec) : _root_.Go.OpenSpec := { _root_.Go.OpenSpec.ofChange s with cond := some uptoSmall }

/-- 'quaestorlaw16.TimerPlays', WHERE WHAT IT READS IS OF BULK AT MOST 1048576: true; the input reads as it did. -/
def timerPlaysUptoRow : OpenClaim := { program := "ytndebobkmemdaaa", sum := "28c67683f0d09db2025add00b85c5cafe69eecdacec6e7cdeda8635142719d84", func := "quaestor/quaestorlaw16.TimerPlays", spec := "timerPlays", apart := false, narrowed := true }
def TimerPlaysUptoSaid : Prop := timerPlaysUptoRow.holds Try.pinned (OpenSpec.upto timerPlaysSpec)

/-- 'quaestorlaw16.TimerFires', WHERE WHAT IT READS IS OF BULK AT MOST 1048576: true; the input reads as it did. -/
def timerFiresUptoRow : OpenClaim := { program := "ytndebobkmemdaaa", sum := "28c67683f0d09db2025add00b85c5cafe69eecdacec6e7cdeda8635142719d84", func := "quaestor/quaestorlaw16.TimerFires", spec := "timerFires", apart := false, narrowed := true }
def TimerFiresUptoSaid : Prop := timerFiresUptoRow.holds Try.pinned (OpenSpec.upto timerFiresSpec)

/-- 'quaestorlaw16.TimerWaits', WHERE WHAT IT READS IS OF BULK AT MOST 1048576: true; the input reads as it did. -/
def timerWaitsUptoRow : OpenClaim := { program := "ytndebobkmemdaaa", sum := "28c67683f0d09db2025add00b85c5cafe69eecdacec6e7cdeda8635142719d84", func := "quaestor/quaestorlaw16.TimerWaits", spec := "timerWaits", apart := false, narrowed := true }
def TimerWaitsUptoSaid : Prop := timerWaitsUptoRow.holds Try.pinned (OpenSpec.upto timerWaitsSpec)

/-- 'quaestorlaw16.TimerSoon', WHERE WHAT IT READS IS OF BULK AT MOST 1048576: true; the input reads as it did. -/
def timerSoonUptoRow : OpenClaim := { program := "ytndebobkmemdaaa", sum := "28c67683f0d09db2025add00b85c5cafe69eecdacec6e7cdeda8635142719d84", func := "quaestor/quaestorlaw16.TimerSoon", spec := "timerSoon", apart := false, narrowed := true }
def TimerSoonUptoSaid : Prop := timerSoonUptoRow.holds Try.pinned (OpenSpec.upto timerSoonSpec)

/-- 'quaestorlaw16.TimerNone', WHERE WHAT IT READS IS OF BULK AT MOST 1048576: true; the input reads as it did. -/
def timerNoneUptoRow : OpenClaim := { program := "ytndebobkmemdaaa", sum := "28c67683f0d09db2025add00b85c5cafe69eecdacec6e7cdeda8635142719d84", func := "quaestor/quaestorlaw16.TimerNone", spec := "timerNone", apart := false, narrowed := true }
def TimerNoneUptoSaid : Prop := timerNoneUptoRow.holds Try.pinned (OpenSpec.upto timerNoneSpec)

/-- 'quaestorlaw16.TimerAdds', WHERE WHAT IT READS IS OF BULK AT MOST 1048576: true; the input reads as it did. -/
def timerAddsUptoRow : OpenClaim := { program := "ytndebobkmemdaaa", sum := "28c67683f0d09db2025add00b85c5cafe69eecdacec6e7cdeda8635142719d84", func := "quaestor/quaestorlaw16.TimerAdds", spec := "timerAdds", apart := false, narrowed := true }
def TimerAddsUptoSaid : Prop := timerAddsUptoRow.holds Try.pinned (OpenSpec.upto timerAddsSpec)

end Rows
end Go.Proofs.Ytndebobkmemdaaa
