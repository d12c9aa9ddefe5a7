/- Chapter 6: the right contract 'One'. -/
import Derived.Test.YtjnhgfmjehaalaaC25
namespace Go.Proofs.Ytjnhgfmjehaalaa
open Go.RowKit
set_option linter.unusedVariables false
set_option linter.unusedSimpArgs false
def fN : Fld := ⟨[110], 1, [], ⟨1, 0, false, [], 0⟩⟩
def eYes : Exp := .mk 1 [] [] ⟨2, 0, true, [], 0⟩
def sS : Stg := ⟨[115], 0, []⟩
def sT : Stg := ⟨[116], 1, [0, 2]⟩
def mM : Mov := ⟨[109], 0, 1, eYes, [], -1⟩
def oneC : Con := ⟨[99], [fN], [sS, sT], [mM]⟩
def RetOne (w : World) (e : Ending) (w' : World) : Prop := ∃ A B D : Addr, e = .returned (.agg #[.string ⟨#[99]⟩, .slice (some A) 1 1, .slice (some B) 2 2, .slice (some D) 1 1]) ∧ Sl kFld (fun _ => True) w' (.slice (some A) 1 1) [fN] ∧ Sl kStg (fun _ => True) w' (.slice (some B) 2 2) [sS, sT] ∧
  Sl (kMov 2) (fun _ => True) w' (.slice (some D) 1 1) [mM] ∧ Below w.heap.size w w'
section
variable {w : World}
set_option maxRecDepth 20000 in
theorem one_c : Calls Try.prog 35 #[] w (RetOne w) := by
  have SF := store_f64
  go_enter Try.func35, Try.ntmps35
  go_wp2_with fail
  (try simp only [Exit.inBlock, Exit.then])
  refine bodyPost_ret (results_cell_row rfl _ _ w.heap.size 26 #[.string ⟨#[99]⟩, .slice (some ⟨w.heap.size + 1 + 1, 0, none⟩) 1 1, .slice (some ⟨w.heap.size + 1 + 1 + 1 + 1, 0, none⟩) 2 2, .slice (some ⟨w.heap.size + 1 + 1 + 1 + 1 + 1, 0, none⟩) 1 1] (0, 0) _ rfl (show Loc1 _ _ _ _ from (by (focus (repeat (first | with_reducible assumption | exact Loc1.newE _ _ _ (by simp) | with_reducible refine Loc1.al _ ?_ | with_reducible refine Loc1.dr ?_ | with_reducible refine Loc1.bel (by assumption) ?_))))) Try.underlying26 rfl (by kernel_rfl)) rfl ?_
  refine ⟨_, _, _, rfl, ?_, ?_, ?_, (by (focus (repeat (first | with_reducible exact Below.refl _ _ | with_reducible assumption | with_reducible refine bel_al _ ?_ | with_reducible refine bel_dr ?_ | with_reducible refine bel_dn _ ?_ | with_reducible refine bel_tr (by assumption) ?_))))⟩
  · exact sl_row (t := 38) (cs := [.string ⟨#[110]⟩, .int .i64 1, .slice none 0 0, .int .i64 1, .int .i64 0, .bool false, .string ⟨#[]⟩, .float .f64 0]) (by (focus (repeat (first | with_reducible assumption | exact Loc1.newE _ _ _ (by simp) | with_reducible refine Loc1.al _ ?_ | with_reducible refine Loc1.dr ?_ | with_reducible refine Loc1.bel (by assumption) ?_)))) trivial ⟨_, [], rfl, fld_mk (f := fN) (Sl.nil _ _ _), rfl⟩ rfl (by unfold maxLen; omega)
  · exact sl_row (t := 41) (cs := [.string ⟨#[115]⟩, .int .i64 0, .slice none 0 0, .string ⟨#[116]⟩, .int .i64 1, .slice (some ⟨w.heap.size + 1 + 1 + 1, 0, none⟩) 2 2]) (by (focus (repeat (first | with_reducible assumption | exact Loc1.newE _ _ _ (by simp) | with_reducible refine Loc1.al _ ?_ | with_reducible refine Loc1.dr ?_ | with_reducible refine Loc1.bel (by assumption) ?_)))) trivial ⟨[_, _, _], [_, _, _], rfl, stg_mk (s := sS) (Sl.nil _ _ _), [_, _, _], [], rfl, stg_mk (s := sT) (sl_row (t := 3) (cs := [.int .i64 0, .int .i64 2]) (by (focus (repeat (first | with_reducible assumption | exact Loc1.newE _ _ _ (by simp) | with_reducible refine Loc1.al _ ?_ | with_reducible refine Loc1.dr ?_ | with_reducible refine Loc1.bel (by assumption) ?_)))) trivial ⟨[_], [_], rfl, rfl, [_], [], rfl, rfl, rfl⟩ rfl (by unfold maxLen; omega)), rfl⟩ rfl (by unfold maxLen; omega)
  · exact sl_row (t := 47) (cs := [.string ⟨#[109]⟩, .int .i64 0, .int .i64 1, .int .i64 1, .slice none 0 0, .string ⟨#[]⟩, .int .i64 2, .int .i64 0, .bool true, .string ⟨#[]⟩, .float .f64 0, .slice none 0 0, .int .i64 (-1)]) (by (focus (repeat (first | with_reducible assumption | exact Loc1.newE _ _ _ (by simp) | with_reducible refine Loc1.al _ ?_ | with_reducible refine Loc1.dr ?_ | with_reducible refine Loc1.bel (by assumption) ?_)))) trivial ⟨_, [], rfl, mov_mk (m := mM) (Sl.nil _ _ _) (Sl.nil _ _ _), rfl⟩ rfl (by unfold maxLen; omega)
end
end Go.Proofs.Ytjnhgfmjehaalaa
