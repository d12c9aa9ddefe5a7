/- Contracts that come in, opened. -/
import Derived.Test.YtjnhgfmjehaalaaE2
import Derived.Test.YtjnhgfmjehaalaaC1
namespace Go.Proofs.Ytjnhgfmjehaalaa
open Go.RowKit Go.ChangeShapes Go.WideShapes Go.ChangeAt Go.Deep
set_option linter.unusedVariables false
theorem eff_up {n : Nat} {ok : Nat → Prop} {w : World} {cs : List Value} {e : Eff} (h : (kEff n).R ok w cs e) : (kEff (n + 1)).R ok w cs e := by
  obtain ⟨_, _, rfl, rfl, h⟩ := h
  exact ⟨[_], _, rfl, rfl, exp_up n h⟩
theorem mov_up {n : Nat} {ok : Nat → Prop} {w : World} {cs : List Value} {m : Mov} (h : (kMov n).R ok w cs m) : (kMov (n + 1)).R ok w cs m := by
  obtain ⟨_, _, rfl, rfl, _, _, rfl, rfl, _, _, rfl, rfl, _, _, rfl, hg, _, _, rfl, ⟨v, rfl, hs⟩, rfl⟩ := h
  exact ⟨[_], _, rfl, rfl, [_], _, rfl, rfl, [_], _, rfl, rfl, _, _, rfl, exp_up n hg, [_], _, rfl, ⟨v, rfl, hs.kind (by rw [kEff_sz, kEff_sz]) (fun hr => eff_up hr)⟩, rfl⟩
theorem con_up {n : Nat} {ok : Nat → Prop} {w : World} {cs : List Value} {c : Con} (h : (kCon n).R ok w cs c) : (kCon (n + 1)).R ok w cs c := by
  obtain ⟨_, _, rfl, rfl, _, _, rfl, ⟨v, rfl, h1⟩, _, _, rfl, ⟨u, rfl, h2⟩, t, rfl, h3⟩ := h
  exact ⟨[_], _, rfl, rfl, [_], _, rfl, ⟨v, rfl, h1⟩, [_], _, rfl, ⟨u, rfl, h2⟩, ⟨t, rfl, h3.kind (by rw [kMov_sz, kMov_sz]) (fun hr => mov_up hr)⟩⟩
theorem Opens.up {α : Type} {P : Program} {N : Nat} {t : TypeId} {d d' : Kd α} {q : α → Prop} (h : Opens P N t d q) (hd : ∀ {ok : Nat → Prop} {w : World} {cs : List Value} {a : α}, d.R ok w cs a → d'.R ok w cs a) : Opens P N t d' q := fun H enc w base spare held fuel cs x hN hx => by
  obtain ⟨a, h1, h2⟩ := h H enc w base spare held fuel cs x hN hx
  exact ⟨a, hd h1, h2⟩
structure StgI (s : Stg) : Prop where
  need : i64 s.need
  orgs : ∀ o ∈ s.orgs, i64 o
structure MovI (m : Mov) : Prop where
  frm : i64 m.frm
  tgt : i64 m.tgt
  guard : ExpI m.guard
  effects : ∀ e ∈ m.effects, ExpI e.expr
  org : i64 m.org
structure ConI (c : Con) : Prop where
  fields : ∀ f ∈ c.fields, i64 f.kind ∧ ValI f.init
  stages : ∀ s ∈ c.stages, StgI s
  moves : ∀ m ∈ c.moves, MovI m
theorem opens_stg {N : Nat} : Opens Try.prog N 41 kStg StgI := by
  cases N with
  | zero => exact opens_none
  | succ N =>
    exact (opens_iso (fun s : Stg => (s.name, s.need, s.orgs)) (fun p => ⟨p.1, p.2.1, p.2.2⟩) (fun _ => rfl) (opens_struct Try.underlying41 (by kernel_rfl)
      (opensF_cons rfl (by kernel_rfl) (opens_str Try.underlying9) (opensF_cons rfl (by kernel_rfl) (opens_i64 Try.underlying3)
        (opensF_one rfl (by kernel_rfl) (opens_slice Try.underlying39 (by kernel_rfl) (opens_i64 Try.underlying3))))))).weak fun s h => ⟨h.2.1, h.2.2⟩
theorem opens_eff : ∀ N : Nat, Opens Try.prog N 71 (kEff N) (fun e => ExpI e.expr)
  | 0 => opens_none
  | N + 1 =>
    (((opens_iso (d := kPair kStr (kExp N)) (fun e : Eff => (e.field, e.expr)) (fun p => ⟨p.1, p.2⟩) (fun _ => rfl) (opens_struct Try.underlying71 (by show _ = 1 + (kExp N).sz; rw [kExp_sz]; kernel_rfl)
      (opensF_cons rfl (by kernel_rfl) (opens_str Try.underlying9) (opensF_one rfl (by rw [kExp_sz]; kernel_rfl) (opens_exp N))))).weak fun e h => h.2).up (d := kEff N) (d' := kEff (N + 1)) fun h => eff_up h)
theorem opens_mov : ∀ N : Nat, Opens Try.prog N 47 (kMov N) MovI
  | 0 => opens_none
  | N + 1 =>
    (((opens_iso (d := kPair kStr (kPair kI (kPair kI (kPair (kExp N) (kPair (kSl (kEff N)) kI))))) (fun m : Mov => (m.name, m.frm, m.tgt, m.guard, m.effects, m.org)) (fun p => ⟨p.1, p.2.1, p.2.2.1, p.2.2.2.1, p.2.2.2.2.1, p.2.2.2.2.2⟩) (fun _ => rfl)
      (opens_struct Try.underlying47 (by show _ = 1 + (1 + (1 + ((kExp N).sz + (1 + 1)))); rw [kExp_sz]; kernel_rfl)
      (opensF_cons rfl (by kernel_rfl) (opens_str Try.underlying9) (opensF_cons rfl (by kernel_rfl) (opens_i64 Try.underlying3) (opensF_cons rfl (by kernel_rfl) (opens_i64 Try.underlying3)
        (opensF_cons rfl (by rw [kExp_sz]; kernel_rfl) (opens_exp N) (opensF_cons (by show _ = 0 + 1 + 1 + 1 + (kExp N).sz; rw [kExp_sz]) (by kernel_rfl) (opens_slice Try.underlying45 (by rw [kEff_sz]; kernel_rfl) (opens_eff N))
          (opensF_one (by show _ = 0 + 1 + 1 + 1 + (kExp N).sz + 1; rw [kExp_sz]) (by kernel_rfl) (opens_i64 Try.underlying3))))))))).weak (q' := MovI) fun m h => ⟨h.2.1, h.2.2.1, h.2.2.2.1, h.2.2.2.2.1, h.2.2.2.2.2⟩).up (d := kMov N) (d' := kMov (N + 1)) fun h => mov_up h)
theorem opens_con : ∀ N : Nat, Opens Try.prog N 26 (kCon N) ConI
  | 0 => opens_none
  | N + 1 =>
    (((opens_iso (d := kPair kStr (kPair (kSl kFld) (kPair (kSl kStg) (kSl (kMov N))))) (fun c : Con => (c.name, c.fields, c.stages, c.moves)) (fun p => ⟨p.1, p.2.1, p.2.2.1, p.2.2.2⟩) (fun _ => rfl)
      (opens_struct Try.underlying26 (by kernel_rfl)
      (opensF_cons rfl (by kernel_rfl) (opens_str Try.underlying9) (opensF_cons rfl (by kernel_rfl) opens_flds (opensF_cons rfl (by kernel_rfl) (opens_slice Try.underlying23 (by kernel_rfl) opens_stg)
        (opensF_one rfl (by kernel_rfl) (opens_slice Try.underlying24 (by rw [kMov_sz]; kernel_rfl) (opens_mov N)))))))).weak (q' := ConI) fun m h => ⟨h.2.1, h.2.2.1, h.2.2.2⟩).up (d := kCon N) (d' := kCon (N + 1)) fun h => con_up h)
/-- an argument's own cells -/
theorem Opens.arg {H : Type} {enc : TypeId × Value → H} {α : Type} {t : TypeId} {d : Nat → Kd α} {q : α → Prop} (h : ∀ N, Opens Try.prog N t (d N) q) {w : World} {base : Nat} {spare : Nat → Bool} {held : Bool} {v : Value} {x : DataW H} {p : List MemPlace} (hx : DataW.Trod enc Try.prog w base spare held t v x p) :
    ∃ N a, (d N).R (fun _ => True) w v.cells.toList a ∧ q a := by
  obtain ⟨fuel, hf⟩ := hx
  exact ⟨fuel, h fuel _ _ _ _ _ _ _ _ _ (Nat.le_refl _) hf⟩
theorem con_arg {n : Nat} {w : World} {v : Array Value} {c : Con} (h : (kCon n).R (fun _ => True) w (Value.agg v).cells.toList c) : ∃ A a B b D d, (Value.agg v) = .agg #[.string ⟨c.name.toArray⟩, .slice A c.fields.length a, .slice B c.stages.length b, .slice D c.moves.length d] ∧
    Sl kFld (fun _ => True) w (.slice A c.fields.length a) c.fields ∧ Sl kStg (fun _ => True) w (.slice B c.stages.length b) c.stages ∧ Sl (kMov n) (fun _ => True) w (.slice D c.moves.length d) c.moves := by
  obtain ⟨A, a, B, b, D, d, e, h1, h2, h3⟩ := con_open h
  refine ⟨A, a, B, b, D, d, ?_, h1, h2, h3⟩
  have e' : v.toList = _ := e
  rw [← Array.toArray_toList (xs := v), e']
end Go.Proofs.Ytjnhgfmjehaalaa
