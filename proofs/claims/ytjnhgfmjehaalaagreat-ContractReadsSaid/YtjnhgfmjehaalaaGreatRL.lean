/- Short words: an operation of a drawn region taken, or run, told by its place in the list. -/
import Derived.Test.YtjnhgfmjehaalaaGreatMA
namespace Go.Proofs.YtjnhgfmjehaalaaGreat
open Go.RowKit
set_option linter.unusedVariables false
section
variable {P : Program} {md : Region.Mode} {ops : Array Oper} {Q : Exit → Act → World → Prop} {S : World → Prop} {fuel : Nat} {listed : Array Bool} {a : Act} {w : World}
theorem takeL {oi : Oper} (i d : Nat) (v : Value) (hi : ops.toList[i]? = some oi) (hd : oi.dst = some d)
 (hs : (Region.noSelect ops && (Region.free md ops listed i && (Region.ready md ops listed).contains i)) = true)
 (hQ : ∀ c a w, Q (.panic c) (a.put (some d) v) w → Q (.panic c) a w)
 (hy : YieldsIf P ops S oi v a) (hS : S w)
 (h : wpAnyH P md ops Q S fuel (listed.setIfInBounds i true) (a.put (some d) v) w) : wpAnyH P md ops Q S (fuel + 1) listed a w :=
 takeG i d v (by rw [← Array.getElem?_toList]; exact hi) hd hs hQ hy hS h
theorem skipL {oi : Oper} (i : Nat) (hi : ops.toList[i]? = some oi)
 (hs : (Region.noSelect ops && (Region.free md ops listed i && (Region.ready md ops listed).contains i)) = true)
 (hQ : ∀ c a w, Q (.panic c) (a.put oi.dst undef) w → Q (.panic c) a w)
 (hy : YieldsIf P ops S oi undef a) (hS : S w)
 (h : wpAnyH P md ops Q S fuel (listed.setIfInBounds i true) (a.put oi.dst undef) w) : wpAnyH P md ops Q S (fuel + 1) listed a w := by
 simp only [Bool.and_eq_true] at hs
 exact wpAnyH_take (by rw [← Array.getElem?_toList]; exact hi) hs.1 hs.2.1 hs.2.2 hQ hy hS h
theorem rdL {o : Oper} (i : Nat) (ho : ops.toList[i]? = some o) (hr : Region.ready md ops listed = [i]) (h : Step P md ops Q S fuel listed a w i o) : wpAnyH P md ops Q S (fuel + 1) listed a w :=
 rd1 i (by rw [← Array.getElem?_toList]; exact ho) hr h
end
end Go.Proofs.YtjnhgfmjehaalaaGreat
