/- What comes in, opened: from the row's reading to the kinds (with a bound of the reading's depth, for types that hold themselves). -/
import Derived.Test.YtjnhgfmjehaalaaK
import Derived.Test.YtjnhgfmjehaalaaRows
import Derived.ProofKit
import Derived.OpenShut
import Derived.ChangeOld
import Derived.Below
import Derived.Deep.Slices
import Derived.Deep.Fields
import Derived.ChangeSame
import Derived.SizedLaws
import Derived.ShutString
namespace Go.Proofs.Ytjnhgfmjehaalaa
open Go.RowKit Go.ChangeShapes Go.WideShapes Go.ChangeAt Go.Deep
set_option linter.unusedVariables false
theorem own : ownKnob Try.prog.godebug = none := by kernel_rfl
theorem laidOut : laidOutB Try.prog = true := by kernel_rfl
theorem list_of {α : Type} {p : Nat → α → Prop} : ∀ n, (∀ i, i < n → ∃ y, p i y) → ∃ l : List α, l.length = n ∧ ∀ i y, l[i]? = some y → p i y
  | 0, _ => ⟨[], rfl, fun i y hy => by simp at hy⟩
  | n + 1, ex => by
    obtain ⟨l, hl, hh⟩ := list_of n (fun i hil => ex i (by omega))
    obtain ⟨y, hy⟩ := ex n (by omega)
    refine ⟨l ++ [y], by simp [hl], fun i z hz => ?_⟩
    by_cases hil : i < l.length
    · rw [List.getElem?_append_left hil] at hz
      exact hh i z hz
    · rw [List.getElem?_append_right (by omega)] at hz
      have h0 : i - l.length = 0 := by
        have := (List.getElem?_eq_some_iff.1 hz).1
        simp at this
        omega
      rw [h0] at hz
      simp at hz
      have hil2 : i = n := by omega
      subst hz
      rw [hil2]
      exact hy
section
variable {α β γ : Type} {P : Program} {N : Nat}
/-- whatever reads as type t is of the kind d, and q -/
def Opens (P : Program) (N : Nat) (t : TypeId) (d : Kd α) (q : α → Prop) : Prop :=
  ∀ (H : Type) (enc : TypeId × Value → H) (w : World) (base : Nat) (spare : Nat → Bool) (held : Bool) (fuel : Nat) (cs : List Value) (x : DataW H × List MemPlace), fuel ≤ N →
    DataW.trod enc P w base spare held fuel t cs = some x → ∃ a, d.R (fun _ => True) w cs a ∧ q a
theorem Opens.weak {t : TypeId} {d : Kd α} {q q' : α → Prop} (h : Opens P N t d q) (hq : ∀ a, q a → q' a) : Opens P N t d q' := fun H enc w base spare held fuel cs x hN hx => by
  obtain ⟨a, h1, h2⟩ := h H enc w base spare held fuel cs x hN hx
  exact ⟨a, h1, hq a h2⟩
theorem opens_int {t : TypeId} {k : IntKind} (ht : P.underlying t = some (.int k)) : Opens P N t (kInt k) (fun n => k.min ≤ n ∧ n ≤ k.max) := fun H enc w base spare held fuel cs x hN hx => by
  obtain ⟨n, rfl, _, hw⟩ := DataW.trod_int ht hx
  have hw' : (decide (k.min ≤ n) && decide (n ≤ k.max)) = true := hw
  rw [Bool.and_eq_true, decide_eq_true_iff, decide_eq_true_iff] at hw'
  exact ⟨n, rfl, hw'⟩
theorem opens_u8 {t : TypeId} (ht : P.underlying t = some (.int .u8)) : Opens P N t kU8 (fun _ => True) := fun H enc w base spare held fuel cs x hN hx => by
  obtain ⟨n, rfl, _, hw⟩ := DataW.trod_int ht hx
  have hw' : (decide ((0 : Int) ≤ n) && decide (n ≤ 255)) = true := hw
  rw [Bool.and_eq_true, decide_eq_true_iff, decide_eq_true_iff] at hw'
  refine ⟨UInt8.ofNat n.toNat, ?_, trivial⟩
  show [Value.int .u8 n] = [Value.int .u8 ((UInt8.ofNat n.toNat).toNat : Int)]
  have : ((UInt8.ofNat n.toNat).toNat : Int) = n := by simp; omega
  rw [this]
theorem opens_bool {t : TypeId} (ht : P.underlying t = some .bool) : Opens P N t kBool (fun _ => True) := fun H enc w base spare held fuel cs x hN hx => by
  obtain ⟨b, rfl, _⟩ := DataW.trod_bool ht hx
  exact ⟨b, rfl, trivial⟩
theorem opens_str {t : TypeId} (ht : P.underlying t = some .string) : Opens P N t kStr (fun l => l.length ≤ 9223372036854775807) := fun H enc w base spare held fuel cs x hN hx => by
  obtain ⟨s, rfl, _, hs⟩ := DataW.trod_string ht hx
  refine ⟨s.data.toList, by show _ = [_]; simp, ?_⟩
  show s.data.toList.length ≤ _
  rw [Array.length_toList]
  exact hs
theorem Opens.le {t : TypeId} {d : Kd α} {q : α → Prop} {M : Nat} (h : Opens P N t d q) (hm : M ≤ N) : Opens P M t d q := fun H enc w base spare held fuel cs x hN hx => h H enc w base spare held fuel cs x (Nat.le_trans hN hm) hx
theorem opens_slice {t e : TypeId} {d : Kd α} {q : α → Prop} (ht : P.underlying t = some (.slice e)) (hc : P.cellsOf e = d.sz) (h : Opens P N e d q) : Opens P N t (kSl d) (fun l => ∀ a ∈ l, q a) := fun H enc w base spare held fuel cs x hN hx => by
  rcases DataW.trod_slice ht hx with ⟨rfl, _⟩ | ⟨a, len, cap, elems, rest, n, hf, rfl, rfl, hb, hl, hm, hlen, hel, hsp, hns⟩
  · exact ⟨[], ⟨_, rfl, Sl.nil _ _ _⟩, fun a ha => by cases ha⟩
  · have ex : ∀ i, i < len → ∃ y : α, q y ∧ ∃ cs', d.R (fun _ => True) w cs' y ∧ ∀ j u, cs'[j]? = some u → w.cell? (a.add (i * d.sz + j)) = some u := fun i hil => by
      have h0 := hel i hil
      rw [List.getElem?_eq_getElem (show i < elems.length by omega)] at h0
      obtain ⟨cs', h1, h2⟩ := Option.bind_eq_some_iff.1 h0
      obtain ⟨y, hy, hq⟩ := h H enc w base spare held n cs' _ (by omega) h2
      refine ⟨y, hq, cs', hy, fun j u hu => ?_⟩
      obtain ⟨_, hlen, hat⟩ := World.cells?_some h1
      have hj : j < cs'.length := (List.getElem?_eq_some_iff.1 hu).1
      have := hat j (by omega)
      rw [← Go.Deep.add_add, ← hc, this]
      exact hu
    have hk := list_of len ex
    obtain ⟨l, hll, hh⟩ := hk
    refine ⟨l, ⟨_, rfl, some a, len, cap, rfl, hll, hl, hm, fun e => (nomatch e), fun i y hy => ?_⟩, fun y hy => ?_⟩
    · obtain ⟨_, cs', hr, hcell⟩ := hh i y hy
      exact ⟨a, cs', rfl, trivial, hr, hcell⟩
    · obtain ⟨i, hi', rfl⟩ := List.getElem_of_mem hy
      exact (hh i _ (List.getElem?_eq_getElem hi')).1
/-- fields from a place on -/
def OpensF (P : Program) (N : Nat) (fs : List Field) (off : Nat) (d : Kd α) (q : α → Prop) : Prop :=
  ∀ (H : Type) (enc : TypeId × Value → H) (w : World) (base : Nat) (spare : Nat → Bool) (held : Bool) (fuel : Nat) (cs : List Value), fuel ≤ N →
    (∀ f ∈ fs, ∃ x, DataW.trod enc P w base spare held fuel f.type ((cs.drop f.offset).take (P.cellsOf f.type)) = some x) → cs.length = off + d.sz → ∃ a, d.R (fun _ => True) w (cs.drop off) a ∧ q a
theorem opensF_one {f : Field} {off : Nat} {d : Kd α} {q : α → Prop} (ho : f.offset = off) (hc : P.cellsOf f.type = d.sz) (h : Opens P N f.type d q) : OpensF P N [f] off d q := fun H enc w base spare held fuel cs hN hf hlen => by
  obtain ⟨x, hx⟩ := hf f (by simp)
  obtain ⟨a, h1, h2⟩ := h H enc w base spare held fuel _ x hN hx
  rw [ho, hc, List.take_of_length_le (by rw [List.length_drop]; omega)] at h1
  exact ⟨a, h1, h2⟩
theorem opensF_cons {f : Field} {fs : List Field} {off : Nat} {d : Kd α} {d2 : Kd β} {q : α → Prop} {q2 : β → Prop} (ho : f.offset = off) (hc : P.cellsOf f.type = d.sz) (h : Opens P N f.type d q) (h2 : OpensF P N fs (off + d.sz) d2 q2) :
    OpensF P N (f :: fs) off (kPair d d2) (fun a => q a.1 ∧ q2 a.2) := fun H enc w base spare held fuel cs hN hf hlen => by
  have hlen' : cs.length = off + (d.sz + d2.sz) := hlen
  obtain ⟨x, hx⟩ := hf f (by simp)
  obtain ⟨a, h1, hq⟩ := h H enc w base spare held fuel _ x hN hx
  obtain ⟨b, h3, hq2⟩ := h2 H enc w base spare held fuel cs hN (fun g hg => hf g (by simp [hg])) (by omega)
  rw [ho, hc] at h1
  refine ⟨(a, b), ⟨_, _, ?_, h1, h3⟩, hq, hq2⟩
  rw [← List.drop_drop, List.take_append_drop]
theorem opensF_cons2 {f : Field} {fs : List Field} {off : Nat} {d : Kd α} {d' : Kd γ} {d2 : Kd β} {q : α × γ → Prop} {q2 : β → Prop} (ho : f.offset = off) (hc : P.cellsOf f.type = d.sz + d'.sz) (h : Opens P N f.type (kPair d d') q) (h2 : OpensF P N fs (off + (d.sz + d'.sz)) d2 q2) :
    OpensF P N (f :: fs) off (kPair d (kPair d' d2)) (fun a => q (a.1, a.2.1) ∧ q2 a.2.2) := fun H enc w base spare held fuel cs hN hf hlen => by
  have hlen' : cs.length = off + (d.sz + (d'.sz + d2.sz)) := hlen
  obtain ⟨⟨⟨a, a'⟩, b⟩, ⟨c1, c2, e, ⟨c3, c4, e2, r1, r2⟩, r3⟩, hq⟩ := opensF_cons (d := kPair d d') ho hc h h2 H enc w base spare held fuel cs hN hf (by show cs.length = off + (d.sz + d'.sz + d2.sz); omega)
  exact ⟨(a, a', b), ⟨c3, c4 ++ c2, by rw [e, e2, List.append_assoc], r1, c4, c2, rfl, r2, r3⟩, hq⟩
theorem opens_struct {t : TypeId} {fs : Array Field} {d : Kd α} {q : α → Prop} (ht : P.underlying t = some (.struct fs)) (hc : P.cellsOf t = d.sz) (h : OpensF P N fs.toList 0 d q) : Opens P (N + 1) t d q := fun H enc w base spare held fuel cs x hN hx => by
  obtain ⟨xs, n, hn, _, hlen, hxl, hf⟩ := DataW.trod_struct ht hx
  obtain ⟨a, h1, h2⟩ := h H enc w base spare held n cs (by omega) (fun f hfm => by
    obtain ⟨i, hi, rfl⟩ := List.getElem_of_mem hfm
    have hi' : i < fs.size := by simpa using hi
    have := hf i fs[i] (Array.getElem?_eq_getElem hi')
    rw [List.getElem?_eq_getElem (by omega)] at this
    exact ⟨_, by simpa using this⟩) (by rw [hlen, hc, Nat.zero_add])
  exact ⟨a, by simpa using h1, h2⟩
theorem opens_none {t : TypeId} {d : Kd α} {q : α → Prop} : Opens P 0 t d q := fun H enc w base spare held fuel cs x hN hx => by
  have : fuel = 0 := by omega
  subst this
  simp [DataW.trod] at hx
theorem opens_iso {t : TypeId} {d : Kd β} {q : β → Prop} (f : α → β) (g : β → α) (hfg : ∀ b, f (g b) = b) (h : Opens P N t d q) : Opens P N t (kIso d f) (fun a => q (f a)) := fun H enc w base spare held fuel cs x hN hx => by
  obtain ⟨b, h1, h2⟩ := h H enc w base spare held fuel cs x hN hx
  exact ⟨g b, by show d.R _ w cs (f (g b)); rw [hfg]; exact h1, by show q (f (g b)); rw [hfg]; exact h2⟩
end
end Go.Proofs.Ytjnhgfmjehaalaa
