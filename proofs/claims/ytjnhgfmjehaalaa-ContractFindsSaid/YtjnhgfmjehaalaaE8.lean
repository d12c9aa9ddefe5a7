/- Package value, walked: what is reckoned with values. -/
import Derived.Test.YtjnhgfmjehaalaaE7
namespace Go.Proofs.Ytjnhgfmjehaalaa
open Go.RowKit
set_option linter.unusedVariables false
def zeroV : Val := ⟨0, 0, false, [], 0⟩
def intV (n : Int) : Val := ⟨1, n, false, [], 0⟩
def numV (n : Nat) : Val := ⟨4, 0, false, [], n⟩
def truthV (b : Bool) : Val := ⟨2, 0, b, [], 0⟩
def bothV (a b : Val) : Bool := goodV a && goodV b && a.kind == b.kind
def Loc2 (N N1 : Nat) (t t1 : TypeId) (cm cs : Array Value) (W : World) : Prop := W.heap[N]? = some (.cells cm t (0, 0)) ∧ W.heap[N1]? = some (.cells cs t1 (0, 0))
theorem Loc2.below {N N1 : Nat} {t t1 : TypeId} {cm cs : Array Value} {W W' : World} (h : Loc2 N N1 t t1 cm cs W) (hb : Below W.heap.size W W') : Loc2 N N1 t t1 cm cs W' :=
  ⟨(hb.block _ (lt_of_heap h.1)).trans h.1, (hb.block _ (lt_of_heap h.2)).trans h.2⟩
section
variable {w : World}
def sameF (a b : Val) : Bool := a.kind == b.kind && a.int == b.int && a.bool == b.bool && a.text == b.text && Op.floatEq .f64 a.num b.num
def equalV (a b : Val) : Bool × Int := if bothV a b then (sameF a b, 0) else (false, 40)
end
end Go.Proofs.Ytjnhgfmjehaalaa
