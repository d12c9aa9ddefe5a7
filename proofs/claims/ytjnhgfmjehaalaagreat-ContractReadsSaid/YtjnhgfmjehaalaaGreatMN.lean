/- Texts that go together. -/
import Derived.Test.YtjnhgfmjehaalaaGreatMA
import Derived.Test.YtjnhgfmjehaalaaGreatMD
import Derived.Test.YtjnhgfmjehaalaaGreatMM
import Derived.Test.YtjnhgfmjehaalaaGreatP60
/- Contracts that come in, opened. -/
namespace Go.Proofs.YtjnhgfmjehaalaaGreat
open Go.RowKit Go.ChangeShapes Go.WideShapes Go.ChangeAt Go.Deep
set_option linter.unusedVariables false
structure StgI (s : Stg) : Prop where
 need : i64 s.need
 orgs : ∀ o ∈ s.orgs, i64 o
structure MovI (m : Mov) : Prop where
 frm : i64 m.frm
 tgt : i64 m.tgt
 guard : ExpI m.guard
 effects : ∀ e ∈ m.effects, ExpI e.expr
 org : i64 m.org
structure ConI (c : Con) : Prop where
 fields : ∀ f ∈ c.fields, i64 f.kind ∧ ValI f.init
 stages : ∀ s ∈ c.stages, StgI s
 moves : ∀ m ∈ c.moves, MovI m
/-- an argument's own cells -/
theorem Opens.arg {H : Type} {enc : TypeId × Value → H} {α : Type} {t : TypeId} {d : Nat → Kd α} {q : α → Prop} (h : ∀ N, Opens Tryz.prog N t (d N) q) {w : World} {base : Nat} {spare : Nat → Bool} {held : Bool} {v : Value} {x : DataW H} {p : List MemPlace} (hx : DataW.Trod enc Tryz.prog w base spare held t v x p) :
 ∃ N a, (d N).R (fun _ => True) w v.cells.toList a ∧ q a := by
 obtain ⟨fuel, hf⟩ := hx
 exact ⟨fuel, h fuel _ _ _ _ _ _ _ _ _ (Nat.le_refl _) hf⟩
end Go.Proofs.YtjnhgfmjehaalaaGreat
/- A right contract may be put: its numbers and texts are small. -/
namespace Go.Proofs.YtjnhgfmjehaalaaGreat
open Go.RowKit
set_option linter.unusedVariables false
set_option linter.unusedSimpArgs false
theorem isE_ok {fl : List Fld} {n : Nat} {e : Exp} {k : Int} (hf : ∀ f ∈ fl, f.name.length ≤ 16) (hi : ExpI e) (hd : Dp n e) (h : isE fl n e k = true) : small e = true ∧ ExpOk n e := by
 unfold isE chkE at h
 cases hs : small e with
 | false => rw [hs] at h; simp at h
 | true =>
  rw [hs] at h
  cases hk : kE fl n e with
  | ok k' => exact ⟨rfl, kE_okN hf n hi hk⟩
  | error x =>
   exfalso
   rw [hk] at h
   simp at h
   exact kE_err n e hd (by rw [hk, h.1])
theorem flat_le {α : Type} {f : α → List UInt8} {K : Nat} : ∀ {l : List α}, (∀ x ∈ l, (f x).length ≤ K) → ((l.map f).flatten).length ≤ K * l.length
 | [], _ => by simp
 | x :: l, h => by
  have h1 := flat_le (l := l) (f := f) fun y hy => h y (by simp [hy])
  have h2 := h x (by simp)
  rw [List.map_cons, List.flatten_cons, List.length_append, List.length_cons, Nat.mul_add]
  omega
theorem once_named {α : Type} {of : α → List UInt8} {l : List α} (h : onceB of l = true) : ∀ x ∈ l, named (of x) = true := fun x hx => by
 unfold onceB at h
 obtain ⟨i, hi, rfl⟩ := List.getElem_of_mem hx
 have := allI_iff.1 h i _ (List.getElem?_eq_getElem hi)
 rw [Bool.and_eq_true] at this
 exact this.1
theorem named_le {s : List UInt8} (h : named s = true) : s.length ≤ 16 := by
 unfold named at h
 simp only [Bool.and_eq_true, decide_eq_true_eq] at h
 exact h.2
theorem any_no {α : Type} {p : α → Bool} {l : List α} (h : (l.any fun x => !p x) = false) : ∀ x ∈ l, p x = true := fun x hx => by
 have := List.any_eq_false.1 h x hx
 simpa using this
structure ConR (n : Nat) (c : Con) : Prop where
 name : c.name.length ≤ 16
 nf : c.fields.length ≤ 6
 fnames : ∀ f ∈ c.fields, f.name.length ≤ 16
 fields : ∀ f ∈ c.fields, gField f = true
 ns : c.stages.length ≤ 6
 ns0 : 0 < c.stages.length
 snames : ∀ f ∈ c.stages, f.name.length ≤ 16
 stages : ∀ f ∈ c.stages, gStage f = true
 nm : c.moves.length ≤ 8
 mnames : ∀ f ∈ c.moves, f.name.length ≤ 16
 moves : ∀ f ∈ c.moves, gMove c n f = true
theorem chkC_ok {c : Con} {n : Nat} (h : chkC c n = 0) : ConR n c := by
 unfold chkC at h
 cases h1 : named c.name
 ·rw [h1] at h; simp at h
 rw [h1] at h
 cases h2 : (decide (6 < c.fields.length) || !onceF c.fields || badF c.fields)
 rotate_left
 ·rw [h2] at h; simp at h
 rw [h2] at h
 cases h3 : ((c.stages.length : Int) == 0 || decide (6 < c.stages.length) || !onceS c.stages || badS c.stages)
 rotate_left
 ·rw [h3] at h; simp at h
 rw [h3] at h
 cases h4 : (decide (8 < c.moves.length) || !onceM c.moves || badM c n c.moves)
 rotate_left
 ·rw [h4] at h; simp at h
 simp only [Bool.or_eq_false_iff, decide_eq_false_iff_not, Bool.not_eq_false'] at h2 h3 h4
 have h5 : ¬ (c.stages.length : Int) = 0 := by have := h3.1.1.1; simpa using this
 exact ⟨named_le h1, by omega, fun f hf => named_le (once_named h2.1.2 f hf), any_no h2.2, by omega, by omega, fun f hf => named_le (once_named h3.1.2 f hf), any_no h3.2, by omega, fun f hf => named_le (once_named h4.1.2 f hf), any_no h4.2⟩
theorem gField_ok {f : Fld} (h : gField f = true) : f.enum.length ≤ 4 ∧ (∀ s ∈ f.enum, s.length ≤ 32) ∧ goodV f.init = true ∧ f.init.kind = f.kind := by
 unfold gField at h
 simp only [Bool.and_eq_true, decide_eq_true_eq, beq_iff_eq] at h
 obtain ⟨⟨⟨⟨h1, h2⟩, _⟩, _⟩, h5⟩ := h
 refine ⟨h1, fun s hs => ?_, fits0 h5⟩
 have h2 : longS f.enum = false := by simpa using h2
 have := List.any_eq_false.1 h2 s hs
 simpa using this
theorem gStage_ok {s : Stg} (h : gStage s = true) : s.orgs.length ≤ 4 := by
 unfold gStage at h
 simp only [Bool.and_eq_true, Bool.not_eq_true', Bool.or_eq_false_iff, decide_eq_false_iff_not] at h
 omega
structure MovR (c : Con) (n : Nat) (m : Mov) : Prop where
 few : m.effects.length ≤ 4
 guard : isE c.fields n m.guard 2 = true
 effects : ∀ x ∈ m.effects, 0 ≤ idx (fun e => e.name == x.field) c.fields ∧ isE c.fields n x.expr (kindAt c.fields (idx (fun e => e.name == x.field) c.fields)) = true
theorem gMove_ok {c : Con} {n : Nat} {m : Mov} (h : gMove c n m = true) : MovR c n m := by
 unfold gMove gHead at h
 simp only [Bool.and_eq_true, decide_eq_true_eq, List.all_eq_true] at h
 obtain ⟨⟨⟨_, h1⟩, h2⟩, h3, _⟩ := h
 refine ⟨h1, h2, fun x hx => ?_⟩
 have := h3 x hx
 unfold gEff at this
 simpa only [Bool.and_eq_true, decide_eq_true_eq] using this
/-- how deep a contract's expressions lie -/
def DpC (n : Nat) (c : Con) : Prop := ∀ m ∈ c.moves, Dp n m.guard ∧ (∀ x ∈ m.effects, Dp n x.expr) ∧ 0 < n
theorem con_dp {n : Nat} {ok : Nat → Prop} {w : World} {v : Value} {l : List Mov} (h : Sl (kMov n) ok w v l) : ∀ m ∈ l, Dp n m.guard ∧ (∀ x ∈ m.effects, Dp n x.expr) ∧ 0 < n := fun m hm => by
 obtain ⟨i, hi, rfl⟩ := List.getElem_of_mem hm
 obtain ⟨A, c, rfl, _⟩ := h.form
 obtain ⟨_, cs, _, _, hr, _⟩ := h.at_ (List.getElem?_eq_getElem hi)
 obtain ⟨_, _, rfl, rfl, _, _, rfl, rfl, _, _, rfl, rfl, _, _, rfl, hg, _, _, rfl, ⟨u, rfl, hs⟩, rfl⟩ := hr
 refine ⟨kR_dp hg, fun x hx => ?_, ?_⟩
 ·obtain ⟨j, hj, rfl⟩ := List.getElem_of_mem hx
  obtain ⟨B, d, rfl, _⟩ := hs.form
  obtain ⟨_, cs, _, _, hr2, _⟩ := hs.at_ (List.getElem?_eq_getElem hj)
  obtain ⟨_, _, rfl, rfl, hr3⟩ := hr2
  exact kR_dp hr3
 ·cases n with
  | zero => exact hg.elim
  | succ n => omega
theorem eff_ok {c : Con} {n : Nat} (hf : ∀ f ∈ c.fields, f.name.length ≤ 16) {x : Eff} (hn : 0 < n) (hi : ExpI x.expr) (hd : Dp n x.expr) (h : 0 ≤ idx (fun e => e.name == x.field) c.fields ∧ isE c.fields n x.expr (kindAt c.fields (idx (fun e => e.name == x.field) c.fields)) = true) :
 EffW (n - 1) x ∧ (bEff (n - 1) x).length ≤ 1844 := by
 obtain ⟨h1, h2⟩ := isE_ok hf hi hd h.2
 obtain ⟨k, rfl⟩ : ∃ k, n = k + 1 := ⟨n - 1, by omega⟩
 have h3 : x.field.length ≤ 16 := find_name hf (name := x.field) h.1
 refine ⟨⟨by omega, fun _ => ExpOk.w _ h2⟩, ?_⟩
 have h4 := bE_le (n := k) h1 h2
 unfold bEff
 rw [List.length_append, bBytes_len]
 show _ + (bE k x.expr).length ≤ _
 omega
theorem mov_ok {c : Con} {n : Nat} {m : Mov} (hf : ∀ f ∈ c.fields, f.name.length ≤ 16) (hm : m.name.length ≤ 16) (hd : Dp n m.guard ∧ (∀ x ∈ m.effects, Dp n x.expr) ∧ 0 < n) (hi : MovI m) (h : gMove c n m = true) : MovW (n - 1) m ∧ (bMov (n - 1) m).length ≤ 10000 := by
 obtain ⟨g1, g2, g3⟩ := gMove_ok h
 obtain ⟨d1, d2, hn⟩ := hd
 obtain ⟨h1, h2⟩ := isE_ok hf hi.guard d1 g2
 have he := fun x hx => eff_ok hf hn (hi.effects x hx) (d2 x hx) (g3 x hx)
 obtain ⟨k, rfl⟩ : ∃ k, n = k + 1 := ⟨n - 1, by omega⟩
 refine ⟨⟨by omega, hi.frm, hi.tgt, hi.org, fun _ => ExpOk.w _ h2, by omega, fun x hx => (he x hx).1⟩, ?_⟩
 have h4 := bE_le (n := k) h1 h2
 have h5 := flat_le (l := m.effects) (f := bEff (k + 1 - 1)) (K := 1844) fun x hx => (he x hx).2
 unfold bMov
 simp only [List.length_append, bBytes_len, bInt_len, bCount_len]
 have h6 : (bE (k + 1 - 1) m.guard).length ≤ 1824 := h4
 omega
theorem conW_of {c : Con} {n : Nat} (hi : ConI c) (hd : DpC n c) (h : chkC c n = 0) : ConW n c ∧ (bCon n c).length ≤ 100000 := by
 have r := chkC_ok h
 have hF : ∀ f ∈ c.fields, FldW f ∧ (bFld f).length ≤ 300 := fun f hf => by
  obtain ⟨a, b, g, k⟩ := gField_ok (r.fields f hf)
  have hn := r.fnames f hf
  have hv := hi.fields f hf
  have ht := good_text g
  refine ⟨⟨by omega, hv.1, by omega, fun s hs => by have := b s hs; omega, ⟨hv.2.kind, hv.2.int, hv.2.num, by omega⟩⟩, ?_⟩
  have h5 := flat_le (l := f.enum) (f := bBytes) (K := 36) fun s hs => by have := b s hs; rw [bBytes_len]; omega
  have h6 := bVal_le ht
  unfold bFld
  simp only [List.length_append, bBytes_len, bInt_len, bCount_len]
  omega
 have hS : ∀ s ∈ c.stages, StgW s ∧ (bStg s).length ≤ 80 := fun s hs => by
  have a := gStage_ok (r.stages s hs)
  have hn := r.snames s hs
  have hv := hi.stages s hs
  refine ⟨⟨by omega, hv.need, by omega, hv.orgs⟩, ?_⟩
  have h5 := flat_le (l := s.orgs) (f := bInt) (K := 8) fun s hs => by rw [bInt_len]; omega
  unfold bStg
  simp only [List.length_append, bBytes_len, bInt_len, bCount_len]
  omega
 have hM := fun m hm => mov_ok r.fnames (r.mnames m hm) (hd m hm) (hi.moves m hm) (r.moves m hm)
 have a1 := r.name
 have a2 := r.nf
 have a3 := r.ns
 have a4 := r.nm
 refine ⟨⟨by omega, by omega, by omega, by omega, fun f hf => (hF f hf).1, fun s hs => (hS s hs).1, fun m hm => (hM m hm).1⟩, ?_⟩
 have b1 := flat_le (l := c.fields) (f := bFld) (K := 300) fun s hs => (hF s hs).2
 have b2 := flat_le (l := c.stages) (f := bStg) (K := 80) fun s hs => (hS s hs).2
 have b3 := flat_le (l := c.moves) (f := bMov (n - 1)) (K := 10000) fun s hs => (hM s hs).2
 unfold bCon
 simp only [List.length_append, bBytes_len, bCount_len]
 omega
theorem bC_le {c : Con} {n : Nat} (hi : ConI c) (hd : DpC n c) : (chkC c n = 0 → ConW n c) ∧ (bC n c).length ≤ 100000 := by
 refine ⟨fun h => (conW_of hi hd h).1, ?_⟩
 unfold bC
 by_cases h : chkC c n = 0
 ·rw [if_pos h]; exact (conW_of hi hd h).2
 ·rw [if_neg h]; simp
end Go.Proofs.YtjnhgfmjehaalaaGreat
