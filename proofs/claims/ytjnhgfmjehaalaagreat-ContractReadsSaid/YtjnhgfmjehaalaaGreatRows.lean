/-
  NARROWER THAN 'FOR EVERY INPUT', by the rows' own cells (each row's printed sentence says how): ContractCodes: loops · ContractSound: loops · ContractBack: loops.
  DERIVED. THE GIVEN ROWS OF THIS SEAT. 4 by the template 'for every input the law returns true; each argument reads behind the call as it read before'; 0 by the template 'total and deterministic' (their statements: YtjnhgfmjehaalaaGreatTotals.lean).
  GIVEN WITH THE SEED: the statements are not yours to turn. If you find one false, say at which input.
  Laid BY PROGRAM, IN A SANDBOX (cutbox-rows.mjs): the forced cells as the released guide's own fill.sh prints them over the translation 3d3213294294d337… (all of the seat's roots in one cut). By AI agents, Wed Nov 11 2026. No macro, syntax, notation, axiom, sorry.
-/
import Derived.Test.YtjnhgfmjehaalaaGreatChecked
import GoSem.Claim
import GoSem.ClaimJoined
import GoSem.ClaimMapViews
import Derived.JoinedTies
import Derived.KernelRfl
namespace Go.Proofs.YtjnhgfmjehaalaaGreat
/- THE CELL 'sum', in the pinned program and in every row, IS THE sha256 OF THE DUMP (.gsa) THAT YtjnhgfmjehaalaaGreatProg.lean LOADS. Nothing in Lean hashes anything: it is a label: what it is worth is what the hold of that sum in a sandbox is worth. -/
noncomputable def Tryz.pinned : Pinned := { name := "ytjnhgfmjehaalaagreat", sum := "3d3213294294d337349219618e0dd41db25a4349dcdf5a97772883d2854cac3e", checked := Tryz.checked }
namespace Rows
def none {H : Type} : Left H := { results := [], args := [] }

/-- 'quaestorlaw06.ContractCodes': WHATEVER THE INPUT: true; the input reads as it did. -/
def contractCodesSpec : ChangeSpec := { name := "contractCodes", fn := fun _ => fun
  | [d] => { results := [.lit (.bool true)], args := [d] }
  | _ => none }
def contractCodesRow : OpenClaim := { program := "ytjnhgfmjehaalaagreat", sum := "3d3213294294d337349219618e0dd41db25a4349dcdf5a97772883d2854cac3e", func := "quaestor/quaestorlaw06.ContractCodes", spec := "contractCodes", inPlace := ["math.Float64bits"], unfollowed := true, recurses := true, loops := true, apart := false }
def ContractCodesSaid : Prop := contractCodesRow.holds Tryz.pinned (OpenSpec.ofChange contractCodesSpec)

/-- ITS FALSE NEIGHBOUR: 'it returns false'. Refute it at one input. -/
def contractCodesWrong : ChangeSpec := { name := "contractCodes", fn := fun _ => fun
  | [d] => { results := [.lit (.bool false)], args := [d] }
  | _ => none }
def ContractCodesWrongFalsely : Prop := contractCodesRow.holds Tryz.pinned (OpenSpec.ofChange contractCodesWrong)

/-- 'quaestorlaw06.ContractSound': WHATEVER THE INPUT: true; the input reads as it did. -/
def contractSoundSpec : ChangeSpec := { name := "contractSound", fn := fun _ => fun
  | [d1, d2] => { results := [.lit (.bool true)], args := [d1, d2] }
  | _ => none }
def contractSoundRow : OpenClaim := { program := "ytjnhgfmjehaalaagreat", sum := "3d3213294294d337349219618e0dd41db25a4349dcdf5a97772883d2854cac3e", func := "quaestor/quaestorlaw06.ContractSound", spec := "contractSound", inPlace := ["math.Float64bits", "math.Float64frombits"], unfollowed := true, recurses := true, loops := true, apart := false }
def ContractSoundSaid : Prop := contractSoundRow.holds Tryz.pinned (OpenSpec.ofChange contractSoundSpec)

/-- ITS FALSE NEIGHBOUR: 'it returns false'. Refute it at one input. -/
def contractSoundWrong : ChangeSpec := { name := "contractSound", fn := fun _ => fun
  | [d1, d2] => { results := [.lit (.bool false)], args := [d1, d2] }
  | _ => none }
def ContractSoundWrongFalsely : Prop := contractSoundRow.holds Tryz.pinned (OpenSpec.ofChange contractSoundWrong)

/-- 'quaestorlaw06.ContractReads': WHATEVER THE INPUT: true; the input reads as it did. -/
def contractReadsSpec : ChangeSpec := { name := "contractReads", fn := fun _ => fun
  | [d] => { results := [.lit (.bool true)], args := [d] }
  | _ => none }
def contractReadsRow : OpenClaim := { program := "ytjnhgfmjehaalaagreat", sum := "3d3213294294d337349219618e0dd41db25a4349dcdf5a97772883d2854cac3e", func := "quaestor/quaestorlaw06.ContractReads", spec := "contractReads", inPlace := ["math.Float64frombits", "math.Float64bits"], unfollowed := true, recurses := true, apart := false }
def ContractReadsSaid : Prop := contractReadsRow.holds Tryz.pinned (OpenSpec.ofChange contractReadsSpec)

/-- ITS FALSE NEIGHBOUR: 'it returns false'. Refute it at one input. -/
def contractReadsWrong : ChangeSpec := { name := "contractReads", fn := fun _ => fun
  | [d] => { results := [.lit (.bool false)], args := [d] }
  | _ => none }
def ContractReadsWrongFalsely : Prop := contractReadsRow.holds Tryz.pinned (OpenSpec.ofChange contractReadsWrong)

/-- 'quaestorlaw06.ContractBack': WHATEVER THE INPUT: true; the input reads as it did. -/
def contractBackSpec : ChangeSpec := { name := "contractBack", fn := fun _ => fun
  | [d1, d2] => { results := [.lit (.bool true)], args := [d1, d2] }
  | _ => none }
def contractBackRow : OpenClaim := { program := "ytjnhgfmjehaalaagreat", sum := "3d3213294294d337349219618e0dd41db25a4349dcdf5a97772883d2854cac3e", func := "quaestor/quaestorlaw06.ContractBack", spec := "contractBack", inPlace := ["math.Float64bits", "math.Float64frombits"], unfollowed := true, recurses := true, loops := true, apart := false }
def ContractBackSaid : Prop := contractBackRow.holds Tryz.pinned (OpenSpec.ofChange contractBackSpec)

/-- ITS FALSE NEIGHBOUR: 'it returns false'. Refute it at one input. -/
def contractBackWrong : ChangeSpec := { name := "contractBack", fn := fun _ => fun
  | [d1, d2] => { results := [.lit (.bool false)], args := [d1, d2] }
  | _ => none }
def ContractBackWrongFalsely : Prop := contractBackRow.holds Tryz.pinned (OpenSpec.ofChange contractBackWrong)

/- THE SECOND FORM. 'bulk': how many values and letters a reading holds, each counted each time it is reached (what is shared counts as often as it is met; a slice's spare places count too). A statement '..UptoSaid' is the law's where the arguments, and the package variables that the reading takes, are together of bulk at most 1048576: NARROWER than '..Said'. Prove '..Said' where nothing that the law and all that it calls make is longer than what came in: it says more and counts as full. Else prove '..UptoSaid'. A law counts once. -/
mutual
def uptoBulk {H : Type} : DataW H → Nat
  | .lit (.string bytes) => bytes.length + 1
  | .lit _ => 1
  | .nil => 1
  | .ptr d => uptoBulk d + 1
  | .slice elems spare => uptoBulkAll elems + uptoBulkAll spare + 1
  | .agg parts => uptoBulkAll parts + 1
  | .iface _ d => uptoBulk d + 1
  | .map entries => uptoBulkEntries entries + 1
  | .held _ => 1
def uptoBulkAll {H : Type} : List (DataW H) → Nat
  | [] => 0
  | d :: r => uptoBulk d + uptoBulkAll r
def uptoBulkEntries {H : Type} : List (Lit × DataW H) → Nat
  | [] => 0
  | x :: r => uptoBulkEntry x + uptoBulkEntries r
def uptoBulkEntry {H : Type} : Lit × DataW H → Nat
  | (.string bytes, d) => bytes.length + uptoBulk d + 1
  | (_, d) => uptoBulk d + 1
 end
def uptoSmall : (H : Type) → List (DataW H) → Bool := fun _ ds => decide (uptoBulkAll ds ≤ 1048576)
def OpenSpec.upto (s : _root_.Go.ChangeSpec) : _root_.Go.OpenSpec := { _root_.Go.OpenSpec.ofChange s with cond := some uptoSmall }

/-- 'quaestorlaw06.ContractCodes', WHERE WHAT IT READS IS OF BULK AT MOST 1048576: true; the input reads as it did. -/
def contractCodesUptoRow : OpenClaim := { program := "ytjnhgfmjehaalaagreat", sum := "3d3213294294d337349219618e0dd41db25a4349dcdf5a97772883d2854cac3e", func := "quaestor/quaestorlaw06.ContractCodes", spec := "contractCodes", inPlace := ["math.Float64bits"], unfollowed := true, recurses := true, loops := true, apart := false, narrowed := true }
def ContractCodesUptoSaid : Prop := contractCodesUptoRow.holds Tryz.pinned (OpenSpec.upto contractCodesSpec)

/-- 'quaestorlaw06.ContractSound', WHERE WHAT IT READS IS OF BULK AT MOST 1048576: true; the input reads as it did. -/
def contractSoundUptoRow : OpenClaim := { program := "ytjnhgfmjehaalaagreat", sum := "3d3213294294d337349219618e0dd41db25a4349dcdf5a97772883d2854cac3e", func := "quaestor/quaestorlaw06.ContractSound", spec := "contractSound", inPlace := ["math.Float64bits", "math.Float64frombits"], unfollowed := true, recurses := true, loops := true, apart := false, narrowed := true }
def ContractSoundUptoSaid : Prop := contractSoundUptoRow.holds Tryz.pinned (OpenSpec.upto contractSoundSpec)

/-- 'quaestorlaw06.ContractReads', WHERE WHAT IT READS IS OF BULK AT MOST 1048576: true; the input reads as it did. -/
def contractReadsUptoRow : OpenClaim := { program := "ytjnhgfmjehaalaagreat", sum := "3d3213294294d337349219618e0dd41db25a4349dcdf5a97772883d2854cac3e", func := "quaestor/quaestorlaw06.ContractReads", spec := "contractReads", inPlace := ["math.Float64frombits", "math.Float64bits"], unfollowed := true, recurses := true, apart := false, narrowed := true }
def ContractReadsUptoSaid : Prop := contractReadsUptoRow.holds Tryz.pinned (OpenSpec.upto contractReadsSpec)

/-- 'quaestorlaw06.ContractBack', WHERE WHAT IT READS IS OF BULK AT MOST 1048576: true; the input reads as it did. -/
def contractBackUptoRow : OpenClaim := { program := "ytjnhgfmjehaalaagreat", sum := "3d3213294294d337349219618e0dd41db25a4349dcdf5a97772883d2854cac3e", func := "quaestor/quaestorlaw06.ContractBack", spec := "contractBack", inPlace := ["math.Float64bits", "math.Float64frombits"], unfollowed := true, recurses := true, loops := true, apart := false, narrowed := true }
def ContractBackUptoSaid : Prop := contractBackUptoRow.holds Tryz.pinned (OpenSpec.upto contractBackSpec)

end Rows
end Go.Proofs.YtjnhgfmjehaalaaGreat
