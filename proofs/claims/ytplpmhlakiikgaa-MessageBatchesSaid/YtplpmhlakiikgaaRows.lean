/-
  No cell of these rows narrows 'for every input' (looked for: loops, veiled, ifaces, maps, wideKeys, modest, calm, conditions, laid).
  DERIVED. THE GIVEN ROWS OF THIS SEAT. 5 by the template 'for every input the law returns true; each argument reads behind the call as it read before'; 0 by the template 'total and deterministic' (their statements: YtplpmhlakiikgaaTotals.lean).
  GIVEN WITH THE SEED: the statements are not yours to turn. If you find one false, say at which input.
  Laid BY PROGRAM, IN A SANDBOX (cutbox-rows.mjs): the forced cells as the released guide's own fill.sh prints them over the translation d028b1a9b985a9df… (all of the seat's roots in one cut). By AI agents, Wed Nov 11 2026. No macro, syntax, notation, axiom, sorry.
-/
import Derived.Test.YtplpmhlakiikgaaChecked
import GoSem.Claim
import GoSem.ClaimJoined
import GoSem.ClaimMapViews
import Derived.JoinedTies
import Derived.KernelRfl
namespace Go.Proofs.Ytplpmhlakiikgaa
/- THE CELL 'sum', in the pinned program and in every row, IS THE sha256 OF THE DUMP (.gsa) THAT YtplpmhlakiikgaaProg.lean LOADS. Nothing in Lean hashes anything: it is a label: what it is worth is what the hold of that sum in a sandbox is worth. -/
noncomputable def Try.pinned : Pinned := { name := "ytplpmhlakiikgaa", sum := "d028b1a9b985a9dffa7cab8e62f5c4a73ec53f9c0e9d584a2895cae4f2482846", checked := Try.checked }
namespace Rows
def none {H : Type} : Left H := { results := [], args := [] }

/-- 'quaestorlaw12.MessageBack': WHATEVER THE INPUT: true; the input reads as it did. -/
def messageBackSpec : ChangeSpec := { name := "messageBack", fn := fun _ => fun
  | [d1, d2] => { results := [.lit (.bool true)], args := [d1, d2] }
  | _ => none }
def messageBackRow : OpenClaim := { program := "ytplpmhlakiikgaa", sum := "d028b1a9b985a9dffa7cab8e62f5c4a73ec53f9c0e9d584a2895cae4f2482846", func := "quaestor/quaestorlaw12.MessageBack", spec := "messageBack", unfollowed := true, recurses := true, apart := false }
def MessageBackSaid : Prop := messageBackRow.holds Try.pinned (OpenSpec.ofChange messageBackSpec)

/-- ITS FALSE NEIGHBOUR: 'it returns false'. Refute it at one input. -/
def messageBackWrong : ChangeSpec := { name := "messageBack", fn := fun _ => fun
  | [d1, d2] => { results := [.lit (.bool false)], args := [d1, d2] }
  | _ => none }
def MessageBackWrongFalsely : Prop := messageBackRow.holds Try.pinned (OpenSpec.ofChange messageBackWrong)

/-- 'quaestorlaw12.MessageApart': WHATEVER THE INPUT: true; the input reads as it did. -/
def messageApartSpec : ChangeSpec := { name := "messageApart", fn := fun _ => fun
  | [d1, d2] => { results := [.lit (.bool true)], args := [d1, d2] }
  | _ => none }
def messageApartRow : OpenClaim := { program := "ytplpmhlakiikgaa", sum := "d028b1a9b985a9dffa7cab8e62f5c4a73ec53f9c0e9d584a2895cae4f2482846", func := "quaestor/quaestorlaw12.MessageApart", spec := "messageApart", unfollowed := true, recurses := true, apart := false }
def MessageApartSaid : Prop := messageApartRow.holds Try.pinned (OpenSpec.ofChange messageApartSpec)

/-- ITS FALSE NEIGHBOUR: 'it returns false'. Refute it at one input. -/
def messageApartWrong : ChangeSpec := { name := "messageApart", fn := fun _ => fun
  | [d1, d2] => { results := [.lit (.bool false)], args := [d1, d2] }
  | _ => none }
def MessageApartWrongFalsely : Prop := messageApartRow.holds Try.pinned (OpenSpec.ofChange messageApartWrong)

/-- 'quaestorlaw12.MessageShort': WHATEVER THE INPUT: true; the input reads as it did. -/
def messageShortSpec : ChangeSpec := { name := "messageShort", fn := fun _ => fun
  | [d1, d2, d3] => { results := [.lit (.bool true)], args := [d1, d2, d3] }
  | _ => none }
def messageShortRow : OpenClaim := { program := "ytplpmhlakiikgaa", sum := "d028b1a9b985a9dffa7cab8e62f5c4a73ec53f9c0e9d584a2895cae4f2482846", func := "quaestor/quaestorlaw12.MessageShort", spec := "messageShort", unfollowed := true, recurses := true, apart := false }
def MessageShortSaid : Prop := messageShortRow.holds Try.pinned (OpenSpec.ofChange messageShortSpec)

/-- ITS FALSE NEIGHBOUR: 'it returns false'. Refute it at one input. -/
def messageShortWrong : ChangeSpec := { name := "messageShort", fn := fun _ => fun
  | [d1, d2, d3] => { results := [.lit (.bool false)], args := [d1, d2, d3] }
  | _ => none }
def MessageShortWrongFalsely : Prop := messageShortRow.holds Try.pinned (OpenSpec.ofChange messageShortWrong)

/-- 'quaestorlaw12.MessageLong': WHATEVER THE INPUT: true; the input reads as it did. -/
def messageLongSpec : ChangeSpec := { name := "messageLong", fn := fun _ => fun
  | [] => { results := [.lit (.bool true)], args := [] }
  | _ => none }
def messageLongRow : OpenClaim := { program := "ytplpmhlakiikgaa", sum := "d028b1a9b985a9dffa7cab8e62f5c4a73ec53f9c0e9d584a2895cae4f2482846", func := "quaestor/quaestorlaw12.MessageLong", spec := "messageLong", unfollowed := true, recurses := true, apart := false }
def MessageLongSaid : Prop := messageLongRow.holds Try.pinned (OpenSpec.ofChange messageLongSpec)

/-- ITS FALSE NEIGHBOUR: 'it returns false'. Refute it at one input. -/
def messageLongWrong : ChangeSpec := { name := "messageLong", fn := fun _ => fun
  | [] => { results := [.lit (.bool false)], args := [] }
  | _ => none }
def MessageLongWrongFalsely : Prop := messageLongRow.holds Try.pinned (OpenSpec.ofChange messageLongWrong)

/-- 'quaestorlaw12.MessageBatches': WHATEVER THE INPUT: true; the input reads as it did. -/
def messageBatchesSpec : ChangeSpec := { name := "messageBatches", fn := fun _ => fun
  | [d1, d2] => { results := [.lit (.bool true)], args := [d1, d2] }
  | _ => none }
def messageBatchesRow : OpenClaim := { program := "ytplpmhlakiikgaa", sum := "d028b1a9b985a9dffa7cab8e62f5c4a73ec53f9c0e9d584a2895cae4f2482846", func := "quaestor/quaestorlaw12.MessageBatches", spec := "messageBatches", unfollowed := true, recurses := true, apart := false }
def MessageBatchesSaid : Prop := messageBatchesRow.holds Try.pinned (OpenSpec.ofChange messageBatchesSpec)

/-- ITS FALSE NEIGHBOUR: 'it returns false'. Refute it at one input. -/
def messageBatchesWrong : ChangeSpec := { name := "messageBatches", fn := fun _ => fun
  | [d1, d2] => { results := [.lit (.bool false)], args := [d1, d2] }
  | _ => none }
def MessageBatchesWrongFalsely : Prop := messageBatchesRow.holds Try.pinned (OpenSpec.ofChange messageBatchesWrong)

/- THE SECOND FORM. 'bulk': how many values and letters a reading holds, each counted each time it is reached (what is shared counts as often as it is met; a slice's spare places count too). A statement '..UptoSaid' is the law's where the arguments, and the package variables that the reading takes, are together of bulk at most 1048576: NARROWER than '..Said'. Prove '..Said' where nothing that the law and all that it calls make is longer than what came in: it says more and counts as full. Else prove '..UptoSaid'. A law counts once. -/
mutual
def uptoBulk {H : Type} : DataW H → Nat
  | .lit (.string bytes) => bytes.length + 1
  | .lit _ => 1
  | .nil => 1
  | .ptr d => uptoBulk d + 1
  | .slice elems spare => uptoBulkAll elems + uptoBulkAll spare + 1
  | .agg parts => uptoBulkAll parts + 1
  | .iface _ d => uptoBulk d + 1
  | .map entries => uptoBulkEntries entries + 1
  | .held _ => 1
def uptoBulkAll {H : Type} : List (DataW H) → Nat
  | [] => 0
  | d :: r => uptoBulk d + uptoBulkAll r
def uptoBulkEntries {H : Type} : List (Lit × DataW H) → Nat
  | [] => 0
  | x :: r => uptoBulkEntry x + uptoBulkEntries r
def uptoBulkEntry {H : Type} : Lit × DataW H → Nat
  | (.string bytes, d) => bytes.length + uptoBulk d + 1
  | (_, d) => uptoBulk d + 1
 end
def uptoSmall : (H : Type) → List (DataW H) → Bool := fun _ ds => decide (uptoBulkAll ds ≤ 1048576)
def OpenSpec.upto (s : _root_.Go.ChangeSpec) : _root_.Go.OpenSpec := { _root_.Go.OpenSpec.ofChange s with cond := some uptoSmall }

/-- 'quaestorlaw12.MessageBack', WHERE WHAT IT READS IS OF BULK AT MOST 1048576: true; the input reads as it did. -/
def messageBackUptoRow : OpenClaim := { program := "ytplpmhlakiikgaa", sum := "d028b1a9b985a9dffa7cab8e62f5c4a73ec53f9c0e9d584a2895cae4f2482846", func := "quaestor/quaestorlaw12.MessageBack", spec := "messageBack", unfollowed := true, recurses := true, apart := false, narrowed := true }
def MessageBackUptoSaid : Prop := messageBackUptoRow.holds Try.pinned (OpenSpec.upto messageBackSpec)

/-- 'quaestorlaw12.MessageApart', WHERE WHAT IT READS IS OF BULK AT MOST 1048576: true; the input reads as it did. -/
def messageApartUptoRow : OpenClaim := { program := "ytplpmhlakiikgaa", sum := "d028b1a9b985a9dffa7cab8e62f5c4a73ec53f9c0e9d584a2895cae4f2482846", func := "quaestor/quaestorlaw12.MessageApart", spec := "messageApart", unfollowed := true, recurses := true, apart := false, narrowed := true }
def MessageApartUptoSaid : Prop := messageApartUptoRow.holds Try.pinned (OpenSpec.upto messageApartSpec)

/-- 'quaestorlaw12.MessageShort', WHERE WHAT IT READS IS OF BULK AT MOST 1048576: true; the input reads as it did. -/
def messageShortUptoRow : OpenClaim := { program := "ytplpmhlakiikgaa", sum := "d028b1a9b985a9dffa7cab8e62f5c4a73ec53f9c0e9d584a2895cae4f2482846", func := "quaestor/quaestorlaw12.MessageShort", spec := "messageShort", unfollowed := true, recurses := true, apart := false, narrowed := true }
def MessageShortUptoSaid : Prop := messageShortUptoRow.holds Try.pinned (OpenSpec.upto messageShortSpec)

/-- 'quaestorlaw12.MessageLong', WHERE WHAT IT READS IS OF BULK AT MOST 1048576: true; the input reads as it did. -/
def messageLongUptoRow : OpenClaim := { program := "ytplpmhlakiikgaa", sum := "d028b1a9b985a9dffa7cab8e62f5c4a73ec53f9c0e9d584a2895cae4f2482846", func := "quaestor/quaestorlaw12.MessageLong", spec := "messageLong", unfollowed := true, recurses := true, apart := false, narrowed := true }
def MessageLongUptoSaid : Prop := messageLongUptoRow.holds Try.pinned (OpenSpec.upto messageLongSpec)

/-- 'quaestorlaw12.MessageBatches', WHERE WHAT IT READS IS OF BULK AT MOST 1048576: true; the input reads as it did. -/
def messageBatchesUptoRow : OpenClaim := { program := "ytplpmhlakiikgaa", sum := "d028b1a9b985a9dffa7cab8e62f5c4a73ec53f9c0e9d584a2895cae4f2482846", func := "quaestor/quaestorlaw12.MessageBatches", spec := "messageBatches", unfollowed := true, recurses := true, apart := false, narrowed := true }
def MessageBatchesUptoSaid : Prop := messageBatchesUptoRow.holds Try.pinned (OpenSpec.upto messageBatchesSpec)

end Rows
end Go.Proofs.Ytplpmhlakiikgaa
