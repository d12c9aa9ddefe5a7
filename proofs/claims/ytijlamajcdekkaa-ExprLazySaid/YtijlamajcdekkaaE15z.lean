/- Package expr, walked: eval, whole. -/
import Derived.Test.YtijlamajcdekkaaE15a
import Derived.Test.YtijlamajcdekkaaE15b
import Derived.Test.YtijlamajcdekkaaE15c
import Derived.Test.YtijlamajcdekkaaE15d
import Derived.Test.YtijlamajcdekkaaE15e
import Derived.Test.YtijlamajcdekkaaE15f
import Derived.Test.YtijlamajcdekkaaE15g
namespace Go.Proofs.Ytijlamajcdekkaa
open Go.RowKit
theorem eval_all {A A2 : Option Addr} {N c c2 : Nat} {fl : List Fld} {vs : List Val} : ∀ n : Nat, EvalOk A A2 N c c2 fl vs n
  | 0 => fun _ _ _ _ h => h.elim
  | n + 1 => fun w cs e k h hf hv hk => by
    have ih := eval_all (A := A) (A2 := A2) (N := N) (c := c) (c2 := c2) (fl := fl) (vs := vs) n
    have ha := kE_ari hk
    by_cases h1 : e.op = 1
    · exact eval_const ih h hf hv hk h1
    by_cases h2 : e.op = 2
    · exact eval_field ih h hf hv hk h2
    by_cases h3 : e.op = 3
    · exact eval_neg ih h hf hv hk h3
    by_cases h8 : e.op = 8
    · exact eval_eq ih h hf hv hk h8
    by_cases h9 : e.op = 9
    · exact eval_less ih h hf hv hk h9
    by_cases h10 : e.op = 10
    · exact eval_and ih h hf hv hk h10
    by_cases h11 : e.op = 11
    · exact eval_or ih h hf hv hk h11
    by_cases h12 : e.op = 12
    · exact eval_not ih h hf hv hk h12
    by_cases h13 : e.op = 13
    · exact eval_if ih h hf hv hk h13
    by_cases h16 : e.op = 16
    · exact eval_num ih h hf hv hk h16
    · refine eval_reck ih h hf hv hk ?_
      unfold ariF at ha
      unfold isR
      omega
theorem eval_c {A A2 : Option Addr} {N c c2 : Nat} {fl : List Fld} {vs : List Val} (n : Nat) {w : World} {cs : List Value} {e : Exp} {k : Int} (h : (kExp n).R (fun _ => True) w cs e) (hf : Sl kFld (fun _ => True) w (.slice A N c) fl) (hv : Sl kVal (fun _ => True) w (.slice A2 N c2) vs) (hk : kE fl n e = .ok k) :
    Calls Try.prog 37 #[.agg #[.slice A N c, .slice A2 N c2], .agg cs.toArray] w (RetV w (evE fl vs n e)) := eval_all n w cs e k h hf hv hk
end Go.Proofs.Ytijlamajcdekkaa
