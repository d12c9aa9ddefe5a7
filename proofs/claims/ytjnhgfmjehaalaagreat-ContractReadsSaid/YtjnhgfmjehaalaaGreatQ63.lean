/- Chapter 6: the law ContractCodes, walked. -/
import Derived.Test.YtjnhgfmjehaalaaGreatMM
import Derived.Test.YtjnhgfmjehaalaaGreatRC
import Derived.Test.YtjnhgfmjehaalaaGreatMN
namespace Go.Proofs.YtjnhgfmjehaalaaGreat
open Go.RowKit
set_option linter.unusedVariables false
set_option linter.unusedSimpArgs false
section
variable {ok ok2 : Nat → Prop} {w : World} {A B : Option Addr} {n c n' c' : Nat}
theorem conv_bs {P : Program} {ok : Nat → Prop} {w : World} {A : Option Addr} {n c : Nat} {l : List UInt8} (h : Sl kU8 ok w (.slice A n c) l) (src dst e : TypeId) (hs : P.underlying src = some (.slice e)) (he : P.underlying e = some (.int .u8)) (hd : P.underlying dst = some .string) : (convert src dst (.slice A n c)).run P w = .ok (.string ⟨l.toArray⟩) w := by
 have hl := h.len
 obtain ⟨rfl, h2, h3, h4⟩ := hl
 cases A with
 | some ad =>
  exact run_convert_bytes_back w src dst e ad c l hs he hd fun j hj => by
   obtain ⟨ad', x, hA, hx, hc⟩ := Sl.at1 (f := fun x : UInt8 => Value.int .u8 (x.toNat : Int)) (h1 := fun _ => rfl) h hj
   injection hA with hA
   subst hA
   rw [hc]
   have := (List.getElem?_eq_some_iff.1 hx).2
   rw [← this]
 | none =>
  have := h4 rfl
  have hl0 : l = [] := List.eq_nil_of_length_eq_zero (by omega)
  subst hl0
  rw [run_convert_bytes_string w src dst e none _ c hs he hd]
  simp [Conv.bytesToString]
  rfl
theorem same_u8 {xs ys : List UInt8} (h : Sl kU8 ok w (.slice A n c) xs) (h2 : Sl kU8 ok2 w (.slice B n' c') ys) : Calls Tryz.prog 8 #[.slice A n c, .slice B n' c'] w (Ret w (.bool (xs == ys))) := by
 have C1 := conv_bs (P := Tryz.prog) h 29 9 5 Tryz.underlying29 Tryz.underlying5 Tryz.underlying9
 have C2 := conv_bs (P := Tryz.prog) h2 29 9 5 Tryz.underlying29 Tryz.underlying5 Tryz.underlying9
 clear h h2
 go_enter Tryz.func8, Tryz.ntmps8
 go_wp2_with fail
 go_ret
 exact ⟨rfl, Below.refl _ _⟩
end
section
variable {w : World}
end
end Go.Proofs.YtjnhgfmjehaalaaGreat
