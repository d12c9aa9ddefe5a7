/- Texts that go together. -/
import Derived.Test.YtjnhgfmjehaalaaGreatMA
import Derived.Test.YtjnhgfmjehaalaaGreatMD
import Derived.Test.YtjnhgfmjehaalaaGreatMM
/- Contracts that come in, opened. -/
namespace Go.Proofs.YtjnhgfmjehaalaaGreat
open Go.RowKit Go.ChangeShapes Go.WideShapes Go.ChangeAt Go.Deep
set_option linter.unusedVariables false
theorem eff_up {n : Nat} {ok : Nat → Prop} {w : World} {cs : List Value} {e : Eff} (h : (kEff n).R ok w cs e) : (kEff (n + 1)).R ok w cs e := by
  obtain ⟨_, _, rfl, rfl, h⟩ := h
  exact ⟨[_], _, rfl, rfl, exp_up n h⟩
theorem mov_up {n : Nat} {ok : Nat → Prop} {w : World} {cs : List Value} {m : Mov} (h : (kMov n).R ok w cs m) : (kMov (n + 1)).R ok w cs m := by
  obtain ⟨_, _, rfl, rfl, _, _, rfl, rfl, _, _, rfl, rfl, _, _, rfl, hg, _, _, rfl, ⟨v, rfl, hs⟩, rfl⟩ := h
  exact ⟨[_], _, rfl, rfl, [_], _, rfl, rfl, [_], _, rfl, rfl, _, _, rfl, exp_up n hg, [_], _, rfl, ⟨v, rfl, hs.kind (by rw [kEff_sz, kEff_sz]) (fun hr => eff_up hr)⟩, rfl⟩
theorem con_up {n : Nat} {ok : Nat → Prop} {w : World} {cs : List Value} {c : Con} (h : (kCon n).R ok w cs c) : (kCon (n + 1)).R ok w cs c := by
  obtain ⟨_, _, rfl, rfl, _, _, rfl, ⟨v, rfl, h1⟩, _, _, rfl, ⟨u, rfl, h2⟩, t, rfl, h3⟩ := h
  exact ⟨[_], _, rfl, rfl, [_], _, rfl, ⟨v, rfl, h1⟩, [_], _, rfl, ⟨u, rfl, h2⟩, ⟨t, rfl, h3.kind (by rw [kMov_sz, kMov_sz]) (fun hr => mov_up hr)⟩⟩
theorem Opens.up {α : Type} {P : Program} {N : Nat} {t : TypeId} {d d' : Kd α} {q : α → Prop} (h : Opens P N t d q) (hd : ∀ {ok : Nat → Prop} {w : World} {cs : List Value} {a : α}, d.R ok w cs a → d'.R ok w cs a) : Opens P N t d' q := fun H enc w base spare held fuel cs x hN hx => by
  obtain ⟨a, h1, h2⟩ := h H enc w base spare held fuel cs x hN hx
  exact ⟨a, hd h1, h2⟩
structure StgI (s : Stg) : Prop where
  need : i64 s.need
  orgs : ∀ o ∈ s.orgs, i64 o
structure MovI (m : Mov) : Prop where
  frm : i64 m.frm
  tgt : i64 m.tgt
  guard : ExpI m.guard
  effects : ∀ e ∈ m.effects, ExpI e.expr
  org : i64 m.org
structure ConI (c : Con) : Prop where
  fields : ∀ f ∈ c.fields, i64 f.kind ∧ ValI f.init
  stages : ∀ s ∈ c.stages, StgI s
  moves : ∀ m ∈ c.moves, MovI m
theorem opens_stg {N : Nat} : Opens Tryz.prog N 68 kStg StgI := by
  cases N with
  | zero => exact opens_none
  | succ N =>
    exact (opens_iso (fun s : Stg => (s.name, s.need, s.orgs)) (fun p => ⟨p.1, p.2.1, p.2.2⟩) (fun _ => rfl) (opens_struct Tryz.underlying68 (by kernel_rfl)
      (opensF_cons rfl (by kernel_rfl) (opens_str Tryz.underlying9) (opensF_cons rfl (by kernel_rfl) (opens_i64 Tryz.underlying3)
        (opensF_one rfl (by kernel_rfl) (opens_slice Tryz.underlying66 (by kernel_rfl) (opens_i64 Tryz.underlying3))))))).weak fun s h => ⟨h.2.1, h.2.2⟩
theorem opens_eff : ∀ N : Nat, Opens Tryz.prog N 51 (kEff N) (fun e => ExpI e.expr)
  | 0 => opens_none
  | N + 1 =>
    (((opens_iso (d := kPair kStr (kExp N)) (fun e : Eff => (e.field, e.expr)) (fun p => ⟨p.1, p.2⟩) (fun _ => rfl) (opens_struct Tryz.underlying51 (by show _ = 1 + (kExp N).sz; rw [kExp_sz]; kernel_rfl)
      (opensF_cons rfl (by kernel_rfl) (opens_str Tryz.underlying9) (opensF_one rfl (by rw [kExp_sz]; kernel_rfl) (opens_exp N))))).weak fun e h => h.2).up (d := kEff N) (d' := kEff (N + 1)) fun h => eff_up h)
theorem opens_mov : ∀ N : Nat, Opens Tryz.prog N 47 (kMov N) MovI
  | 0 => opens_none
  | N + 1 =>
    (((opens_iso (d := kPair kStr (kPair kI (kPair kI (kPair (kExp N) (kPair (kSl (kEff N)) kI))))) (fun m : Mov => (m.name, m.frm, m.tgt, m.guard, m.effects, m.org)) (fun p => ⟨p.1, p.2.1, p.2.2.1, p.2.2.2.1, p.2.2.2.2.1, p.2.2.2.2.2⟩) (fun _ => rfl)
      (opens_struct Tryz.underlying47 (by show _ = 1 + (1 + (1 + ((kExp N).sz + (1 + 1)))); rw [kExp_sz]; kernel_rfl)
      (opensF_cons rfl (by kernel_rfl) (opens_str Tryz.underlying9) (opensF_cons rfl (by kernel_rfl) (opens_i64 Tryz.underlying3) (opensF_cons rfl (by kernel_rfl) (opens_i64 Tryz.underlying3)
        (opensF_cons rfl (by rw [kExp_sz]; kernel_rfl) (opens_exp N) (opensF_cons (by show _ = 0 + 1 + 1 + 1 + (kExp N).sz; rw [kExp_sz]) (by kernel_rfl) (opens_slice Tryz.underlying45 (by rw [kEff_sz]; kernel_rfl) (opens_eff N))
          (opensF_one (by show _ = 0 + 1 + 1 + 1 + (kExp N).sz + 1; rw [kExp_sz]) (by kernel_rfl) (opens_i64 Tryz.underlying3))))))))).weak (q' := MovI) fun m h => ⟨h.2.1, h.2.2.1, h.2.2.2.1, h.2.2.2.2.1, h.2.2.2.2.2⟩).up (d := kMov N) (d' := kMov (N + 1)) fun h => mov_up h)
theorem opens_con : ∀ N : Nat, Opens Tryz.prog N 26 (kCon N) ConI
  | 0 => opens_none
  | N + 1 =>
    (((opens_iso (d := kPair kStr (kPair (kSl kFld) (kPair (kSl kStg) (kSl (kMov N))))) (fun c : Con => (c.name, c.fields, c.stages, c.moves)) (fun p => ⟨p.1, p.2.1, p.2.2.1, p.2.2.2⟩) (fun _ => rfl)
      (opens_struct Tryz.underlying26 (by kernel_rfl)
      (opensF_cons rfl (by kernel_rfl) (opens_str Tryz.underlying9) (opensF_cons rfl (by kernel_rfl) opens_flds (opensF_cons rfl (by kernel_rfl) (opens_slice Tryz.underlying23 (by kernel_rfl) opens_stg)
        (opensF_one rfl (by kernel_rfl) (opens_slice Tryz.underlying24 (by rw [kMov_sz]; kernel_rfl) (opens_mov N)))))))).weak (q' := ConI) fun m h => ⟨h.2.1, h.2.2.1, h.2.2.2⟩).up (d := kCon N) (d' := kCon (N + 1)) fun h => con_up h)
/-- an argument's own cells -/
theorem Opens.arg {H : Type} {enc : TypeId × Value → H} {α : Type} {t : TypeId} {d : Nat → Kd α} {q : α → Prop} (h : ∀ N, Opens Tryz.prog N t (d N) q) {w : World} {base : Nat} {spare : Nat → Bool} {held : Bool} {v : Value} {x : DataW H} {p : List MemPlace} (hx : DataW.Trod enc Tryz.prog w base spare held t v x p) :
    ∃ N a, (d N).R (fun _ => True) w v.cells.toList a ∧ q a := by
  obtain ⟨fuel, hf⟩ := hx
  exact ⟨fuel, h fuel _ _ _ _ _ _ _ _ _ (Nat.le_refl _) hf⟩
theorem con_arg {n : Nat} {w : World} {v : Array Value} {c : Con} (h : (kCon n).R (fun _ => True) w (Value.agg v).cells.toList c) : ∃ A a B b D d, (Value.agg v) = .agg #[.string ⟨c.name.toArray⟩, .slice A c.fields.length a, .slice B c.stages.length b, .slice D c.moves.length d] ∧
    Sl kFld (fun _ => True) w (.slice A c.fields.length a) c.fields ∧ Sl kStg (fun _ => True) w (.slice B c.stages.length b) c.stages ∧ Sl (kMov n) (fun _ => True) w (.slice D c.moves.length d) c.moves := by
  obtain ⟨A, a, B, b, D, d, e, h1, h2, h3⟩ := con_open h
  refine ⟨A, a, B, b, D, d, ?_, h1, h2, h3⟩
  have e' : v.toList = _ := e
  rw [← Array.toArray_toList (xs := v), e']
end Go.Proofs.YtjnhgfmjehaalaaGreat

/- A right contract may be put: its numbers and texts are small. -/
namespace Go.Proofs.YtjnhgfmjehaalaaGreat
open Go.RowKit
set_option linter.unusedVariables false
set_option linter.unusedSimpArgs false
/-- a part that may be put -/
structure NodeOk (e : Exp) : Prop where
  op : i64 e.op
  val : ValW e.val
  text : e.val.text.length ≤ 32
  name : e.name.length ≤ 16
  kids : e.kids.length ≤ 3
def ExpOk : Nat → Exp → Prop
  | 0, _ => True
  | n + 1, e => NodeOk e ∧ ∀ k ∈ e.kids, ExpOk n k
theorem ExpOk.w : ∀ (n : Nat) {e : Exp}, ExpOk n e → ExpW n e
  | 0, _, _ => trivial
  | n + 1, e, h => ⟨h.1.op, h.1.val, by have := h.1.name; omega, by have := h.1.kids; omega, fun k hk => ExpOk.w n (h.2 k hk)⟩
theorem manyK_mem {p : Exp → Except Int Int} : ∀ {l : List Exp} {ks : List Int}, manyK p l = .ok ks → ∀ e ∈ l, ∃ k, p e = .ok k
  | [], _, _, e, he => by cases he
  | a :: l, ks, h, e, he => by
    rw [manyK] at h
    cases ha : p a with
    | error x => rw [ha] at h; cases h
    | ok k =>
      rw [ha] at h
      simp only at h
      rcases List.mem_cons.1 he with rfl | he
      · exact ⟨k, ha⟩
      · cases hl : manyK p l with
        | error x => rw [hl] at h; cases h
        | ok ks' => exact manyK_mem hl e he
theorem good_text {v : Val} (h : goodV v = true) : v.text.length ≤ 32 := by
  unfold goodV at h
  simp only [Bool.and_eq_true, decide_eq_true_eq, Bool.or_eq_true] at h
  omega
theorem sameV_text {v : Val} (h : sameV v ⟨0, 0, false, [], 0⟩ = true) : v.text = [] := by
  unfold sameV at h
  simp only [Bool.and_eq_true, beq_iff_eq] at h
  exact h.1.2
theorem ariF_le (o : Int) : ariF o ≤ 3 := by
  unfold ariF
  split
  · omega
  split
  · omega
  split
  · omega
  split <;> omega
theorem find_name {name : List UInt8} {fl : List Fld} (hf : ∀ f ∈ fl, f.name.length ≤ 16) (h : 0 ≤ findF name fl) : name.length ≤ 16 := by
  obtain ⟨i, f, _, hx, hp⟩ := idx_lt h
  have hp' : f.name = name := by simpa [isF] using hp
  rw [← hp']
  exact hf f (List.mem_of_getElem? hx)
theorem kindOf_head {fl : List Fld} {e : Exp} {ks : List Int} {k : Int} (h : kindOf fl e ks = .ok k) : ariF e.op = e.kids.length ∧ (e.op = 2 ∨ e.name = []) ∧ (e.op = 1 ∨ sameV e.val ⟨0, 0, false, [], 0⟩ = true) ∧ (e.op = 1 → goodV e.val = true) ∧ (e.op = 2 → 0 ≤ findF e.name fl) := by
  unfold kindOf kind3 at h
  by_cases g1 : ariF e.op = e.kids.length
  rotate_left
  · rw [if_pos g1] at h; cases h
  rw [if_neg (by simpa using g1)] at h
  by_cases g2 : e.op = 2 ∨ e.name = []
  rotate_left
  · rw [if_pos g2] at h; cases h
  rw [if_neg (fun hn => hn g2)] at h
  by_cases g3 : e.op = 1 ∨ sameV e.val ⟨0, 0, false, [], 0⟩ = true
  rotate_left
  · rw [if_pos g3] at h; cases h
  rw [if_neg (fun hn => hn g3)] at h
  refine ⟨g1, g2, g3, fun g => ?_, fun g => ?_⟩
  · rw [if_pos g] at h
    by_cases g4 : goodV e.val = true
    · exact g4
    · rw [if_neg g4] at h; cases h
  · rw [if_neg (by rw [g]; decide), if_pos g] at h
    by_cases g5 : 0 ≤ findF e.name fl
    · exact g5
    · split at h
      · rw [if_neg g5] at h; cases h
      · cases h
theorem kindOf_node {fl : List Fld} {e : Exp} {ks : List Int} {k : Int} (hf : ∀ f ∈ fl, f.name.length ≤ 16) (hi : ExpI e) (h : kindOf fl e ks = .ok k) : NodeOk e := by
  obtain ⟨g1, g2, g3, g4, g5⟩ := kindOf_head h
  have hk : e.kids.length ≤ 3 := by have := ariF_le e.op; omega
  have ht : e.val.text.length ≤ 32 := by
    rcases g3 with g | g
    · exact good_text (g4 g)
    · rw [sameV_text g]; simp
  have hn : e.name.length ≤ 16 := by
    rcases g2 with g | g
    · exact find_name hf (g5 g)
    · rw [g]; simp
  cases hi with
  | mk a b c => exact ⟨a, ⟨c.kind, c.int, c.num, by have : _ ≤ 32 := ht; omega⟩, ht, hn, hk⟩
theorem kE_okN {fl : List Fld} (hf : ∀ f ∈ fl, f.name.length ≤ 16) : ∀ (n : Nat) {e : Exp} {k : Int}, ExpI e → kE fl n e = .ok k → ExpOk n e
  | 0, _, _, _, _ => trivial
  | n + 1, e, k, hi, h => by
    rw [kE] at h
    cases hm : manyK (kE fl n) e.kids with
    | error x => rw [hm] at h; cases h
    | ok ks =>
      rw [hm] at h
      refine ⟨kindOf_node hf hi h, fun x hx => ?_⟩
      obtain ⟨k', hk'⟩ := manyK_mem hm x hx
      cases hi with
      | mk a b c => exact kE_okN hf n (b x hx) hk'
theorem isE_ok {fl : List Fld} {n : Nat} {e : Exp} {k : Int} (hf : ∀ f ∈ fl, f.name.length ≤ 16) (hi : ExpI e) (hd : Dp n e) (h : isE fl n e k = true) : small e = true ∧ ExpOk n e := by
  unfold isE chkE at h
  cases hs : small e with
  | false => rw [hs] at h; simp at h
  | true =>
    rw [hs] at h
    cases hk : kE fl n e with
    | ok k' => exact ⟨rfl, kE_okN hf n hi hk⟩
    | error x =>
      exfalso
      rw [hk] at h
      simp at h
      exact kE_err n e hd (by rw [hk, h.1])
theorem bVal_le {v : Val} (h : v.text.length ≤ 32) : (bVal v).length ≤ 44 := by
  unfold bVal
  rw [List.length_append, bInt_len]
  repeat' split
  all_goals first | (rw [bInt_len]; omega) | (rw [bBytes_len]; omega) | (rw [be_len]; omega) | simp
theorem bX_le : ∀ (d n : Nat) (e : Exp) (N M : Int), ExpOk n e → spD d e N = (true, M) → ((bX n e).length : Int) ≤ 76 * (N - M)
  | 0, n, e, N, M, h, hs => by simp [spD] at hs
  | d + 1, 0, e, N, M, h, hs => by
    have := spD_le (d + 1) e N M hs
    show (([] : List UInt8).length : Int) ≤ _
    simp
    omega
  | d + 1, n + 1, e, N, M, h, hs => by
    obtain ⟨hn, hk⟩ := h
    rw [spD] at hs
    by_cases hN : N - 1 < 0
    · rw [if_pos hN] at hs; simp at hs
    rw [if_neg hN] at hs
    have key : ∀ (l : List Exp) (a b : Int), 0 ≤ a → (∀ x ∈ l, ExpOk n x) → l.foldl (spF d) (true, a) = (true, b) → (((l.map (bX n)).flatten).length : Int) ≤ 76 * (a - b) := by
      intro l
      induction l with
      | nil => intro a b h0 _ h; simp at h; simp [h]
      | cons x l ih =>
        intro a b h0 hx h
        rw [List.foldl_cons] at h
        have e1 : spF d (true, a) x = spD d x a := rfl
        rw [e1] at h
        cases hq : spD d x a with
        | mk t q =>
          rw [hq] at h
          cases t with
          | false => rw [spF_no] at h; simp at h
          | true =>
            have h1 := bX_le d n x a q (hx x (by simp)) hq
            have h2 := spD_le d x a q hq
            have h3 := ih q b h2.1 (fun y hy => hx y (by simp [hy])) h
            rw [List.map_cons, List.flatten_cons, List.length_append]
            omega
    have h1 := key e.kids (N - 1) M (by omega) hk hs
    show ((bInt e.op ++ (bCount e.kids.length ++ (bBytes e.name ++ (bVal e.val ++ (e.kids.map (bX n)).flatten)))).length : Int) ≤ _
    have h2 := bVal_le hn.text
    have h3 := hn.name
    simp only [List.length_append, bInt_len, bCount_len, bBytes_len]
    omega
theorem bE_le {n : Nat} {e : Exp} (h : small e = true) (ho : ExpOk (n + 1) e) : (bE n e).length ≤ 1824 := by
  unfold bE
  rw [h]
  have h' := h
  unfold small at h'
  cases hr : spD 6 e 24 with
  | mk b M =>
    rw [hr] at h'
    have h' : b = true := h'
    subst h'
    have h1 := bX_le 6 (n + 1) e 24 M ho hr
    have h2 := spD_le 6 e 24 M hr
    show (bX (n + 1) e).length ≤ _
    omega
theorem flat_le {α : Type} {f : α → List UInt8} {K : Nat} : ∀ {l : List α}, (∀ x ∈ l, (f x).length ≤ K) → ((l.map f).flatten).length ≤ K * l.length
  | [], _ => by simp
  | x :: l, h => by
    have h1 := flat_le (l := l) (f := f) fun y hy => h y (by simp [hy])
    have h2 := h x (by simp)
    rw [List.map_cons, List.flatten_cons, List.length_append, List.length_cons, Nat.mul_add]
    omega
theorem once_named {α : Type} {of : α → List UInt8} {l : List α} (h : onceB of l = true) : ∀ x ∈ l, named (of x) = true := fun x hx => by
  unfold onceB at h
  obtain ⟨i, hi, rfl⟩ := List.getElem_of_mem hx
  have := allI_iff.1 h i _ (List.getElem?_eq_getElem hi)
  rw [Bool.and_eq_true] at this
  exact this.1
theorem named_le {s : List UInt8} (h : named s = true) : s.length ≤ 16 := by
  unfold named at h
  simp only [Bool.and_eq_true, decide_eq_true_eq] at h
  exact h.2
theorem any_no {α : Type} {p : α → Bool} {l : List α} (h : (l.any fun x => !p x) = false) : ∀ x ∈ l, p x = true := fun x hx => by
  have := List.any_eq_false.1 h x hx
  simpa using this
structure ConR (n : Nat) (c : Con) : Prop where
  name : c.name.length ≤ 16
  nf : c.fields.length ≤ 6
  fnames : ∀ f ∈ c.fields, f.name.length ≤ 16
  fields : ∀ f ∈ c.fields, gField f = true
  ns : c.stages.length ≤ 6
  ns0 : 0 < c.stages.length
  snames : ∀ f ∈ c.stages, f.name.length ≤ 16
  stages : ∀ f ∈ c.stages, gStage f = true
  nm : c.moves.length ≤ 8
  mnames : ∀ f ∈ c.moves, f.name.length ≤ 16
  moves : ∀ f ∈ c.moves, gMove c n f = true
theorem chkC_ok {c : Con} {n : Nat} (h : chkC c n = 0) : ConR n c := by
  unfold chkC at h
  cases h1 : named c.name
  · rw [h1] at h; simp at h
  rw [h1] at h
  cases h2 : (decide (6 < c.fields.length) || !onceF c.fields || badF c.fields)
  rotate_left
  · rw [h2] at h; simp at h
  rw [h2] at h
  cases h3 : ((c.stages.length : Int) == 0 || decide (6 < c.stages.length) || !onceS c.stages || badS c.stages)
  rotate_left
  · rw [h3] at h; simp at h
  rw [h3] at h
  cases h4 : (decide (8 < c.moves.length) || !onceM c.moves || badM c n c.moves)
  rotate_left
  · rw [h4] at h; simp at h
  simp only [Bool.or_eq_false_iff, decide_eq_false_iff_not, Bool.not_eq_false'] at h2 h3 h4
  have h5 : ¬ (c.stages.length : Int) = 0 := by have := h3.1.1.1; simpa using this
  exact ⟨named_le h1, by omega, fun f hf => named_le (once_named h2.1.2 f hf), any_no h2.2, by omega, by omega, fun f hf => named_le (once_named h3.1.2 f hf), any_no h3.2, by omega, fun f hf => named_le (once_named h4.1.2 f hf), any_no h4.2⟩
theorem gField_ok {f : Fld} (h : gField f = true) : f.enum.length ≤ 4 ∧ (∀ s ∈ f.enum, s.length ≤ 32) ∧ goodV f.init = true ∧ f.init.kind = f.kind := by
  unfold gField at h
  simp only [Bool.and_eq_true, decide_eq_true_eq, beq_iff_eq] at h
  obtain ⟨⟨⟨⟨h1, h2⟩, _⟩, _⟩, h5⟩ := h
  refine ⟨h1, fun s hs => ?_, fits0 h5⟩
  have h2 : longS f.enum = false := by simpa using h2
  have := List.any_eq_false.1 h2 s hs
  simpa using this
theorem gStage_ok {s : Stg} (h : gStage s = true) : s.orgs.length ≤ 4 := by
  unfold gStage at h
  simp only [Bool.and_eq_true, Bool.not_eq_true', Bool.or_eq_false_iff, decide_eq_false_iff_not] at h
  omega
structure MovR (c : Con) (n : Nat) (m : Mov) : Prop where
  few : m.effects.length ≤ 4
  guard : isE c.fields n m.guard 2 = true
  effects : ∀ x ∈ m.effects, 0 ≤ idx (fun e => e.name == x.field) c.fields ∧ isE c.fields n x.expr (kindAt c.fields (idx (fun e => e.name == x.field) c.fields)) = true
theorem gMove_ok {c : Con} {n : Nat} {m : Mov} (h : gMove c n m = true) : MovR c n m := by
  unfold gMove gHead at h
  simp only [Bool.and_eq_true, decide_eq_true_eq, List.all_eq_true] at h
  obtain ⟨⟨⟨_, h1⟩, h2⟩, h3, _⟩ := h
  refine ⟨h1, h2, fun x hx => ?_⟩
  have := h3 x hx
  unfold gEff at this
  simpa only [Bool.and_eq_true, decide_eq_true_eq] using this
/-- how deep a contract's expressions lie -/
def DpC (n : Nat) (c : Con) : Prop := ∀ m ∈ c.moves, Dp n m.guard ∧ (∀ x ∈ m.effects, Dp n x.expr) ∧ 0 < n
theorem con_dp {n : Nat} {ok : Nat → Prop} {w : World} {v : Value} {l : List Mov} (h : Sl (kMov n) ok w v l) : ∀ m ∈ l, Dp n m.guard ∧ (∀ x ∈ m.effects, Dp n x.expr) ∧ 0 < n := fun m hm => by
  obtain ⟨i, hi, rfl⟩ := List.getElem_of_mem hm
  obtain ⟨A, c, rfl, _⟩ := h.form
  obtain ⟨_, cs, _, _, hr, _⟩ := h.at_ (List.getElem?_eq_getElem hi)
  obtain ⟨_, _, rfl, rfl, _, _, rfl, rfl, _, _, rfl, rfl, _, _, rfl, hg, _, _, rfl, ⟨u, rfl, hs⟩, rfl⟩ := hr
  refine ⟨kR_dp hg, fun x hx => ?_, ?_⟩
  · obtain ⟨j, hj, rfl⟩ := List.getElem_of_mem hx
    obtain ⟨B, d, rfl, _⟩ := hs.form
    obtain ⟨_, cs, _, _, hr2, _⟩ := hs.at_ (List.getElem?_eq_getElem hj)
    obtain ⟨_, _, rfl, rfl, hr3⟩ := hr2
    exact kR_dp hr3
  · cases n with
    | zero => exact hg.elim
    | succ n => omega
theorem eff_ok {c : Con} {n : Nat} (hf : ∀ f ∈ c.fields, f.name.length ≤ 16) {x : Eff} (hn : 0 < n) (hi : ExpI x.expr) (hd : Dp n x.expr) (h : 0 ≤ idx (fun e => e.name == x.field) c.fields ∧ isE c.fields n x.expr (kindAt c.fields (idx (fun e => e.name == x.field) c.fields)) = true) :
    EffW (n - 1) x ∧ (bEff (n - 1) x).length ≤ 1844 := by
  obtain ⟨h1, h2⟩ := isE_ok hf hi hd h.2
  obtain ⟨k, rfl⟩ : ∃ k, n = k + 1 := ⟨n - 1, by omega⟩
  have h3 : x.field.length ≤ 16 := find_name hf (name := x.field) h.1
  refine ⟨⟨by omega, fun _ => ExpOk.w _ h2⟩, ?_⟩
  have h4 := bE_le (n := k) h1 h2
  unfold bEff
  rw [List.length_append, bBytes_len]
  show _ + (bE k x.expr).length ≤ _
  omega
theorem mov_ok {c : Con} {n : Nat} {m : Mov} (hf : ∀ f ∈ c.fields, f.name.length ≤ 16) (hm : m.name.length ≤ 16) (hd : Dp n m.guard ∧ (∀ x ∈ m.effects, Dp n x.expr) ∧ 0 < n) (hi : MovI m) (h : gMove c n m = true) : MovW (n - 1) m ∧ (bMov (n - 1) m).length ≤ 10000 := by
  obtain ⟨g1, g2, g3⟩ := gMove_ok h
  obtain ⟨d1, d2, hn⟩ := hd
  obtain ⟨h1, h2⟩ := isE_ok hf hi.guard d1 g2
  have he := fun x hx => eff_ok hf hn (hi.effects x hx) (d2 x hx) (g3 x hx)
  obtain ⟨k, rfl⟩ : ∃ k, n = k + 1 := ⟨n - 1, by omega⟩
  refine ⟨⟨by omega, hi.frm, hi.tgt, hi.org, fun _ => ExpOk.w _ h2, by omega, fun x hx => (he x hx).1⟩, ?_⟩
  have h4 := bE_le (n := k) h1 h2
  have h5 := flat_le (l := m.effects) (f := bEff (k + 1 - 1)) (K := 1844) fun x hx => (he x hx).2
  unfold bMov
  simp only [List.length_append, bBytes_len, bInt_len, bCount_len]
  have h6 : (bE (k + 1 - 1) m.guard).length ≤ 1824 := h4
  omega
theorem conW_of {c : Con} {n : Nat} (hi : ConI c) (hd : DpC n c) (h : chkC c n = 0) : ConW n c ∧ (bCon n c).length ≤ 100000 := by
  have r := chkC_ok h
  have hF : ∀ f ∈ c.fields, FldW f ∧ (bFld f).length ≤ 300 := fun f hf => by
    obtain ⟨a, b, g, k⟩ := gField_ok (r.fields f hf)
    have hn := r.fnames f hf
    have hv := hi.fields f hf
    have ht := good_text g
    refine ⟨⟨by omega, hv.1, by omega, fun s hs => by have := b s hs; omega, ⟨hv.2.kind, hv.2.int, hv.2.num, by omega⟩⟩, ?_⟩
    have h5 := flat_le (l := f.enum) (f := bBytes) (K := 36) fun s hs => by have := b s hs; rw [bBytes_len]; omega
    have h6 := bVal_le ht
    unfold bFld
    simp only [List.length_append, bBytes_len, bInt_len, bCount_len]
    omega
  have hS : ∀ s ∈ c.stages, StgW s ∧ (bStg s).length ≤ 80 := fun s hs => by
    have a := gStage_ok (r.stages s hs)
    have hn := r.snames s hs
    have hv := hi.stages s hs
    refine ⟨⟨by omega, hv.need, by omega, hv.orgs⟩, ?_⟩
    have h5 := flat_le (l := s.orgs) (f := bInt) (K := 8) fun s hs => by rw [bInt_len]; omega
    unfold bStg
    simp only [List.length_append, bBytes_len, bInt_len, bCount_len]
    omega
  have hM := fun m hm => mov_ok r.fnames (r.mnames m hm) (hd m hm) (hi.moves m hm) (r.moves m hm)
  have a1 := r.name
  have a2 := r.nf
  have a3 := r.ns
  have a4 := r.nm
  refine ⟨⟨by omega, by omega, by omega, by omega, fun f hf => (hF f hf).1, fun s hs => (hS s hs).1, fun m hm => (hM m hm).1⟩, ?_⟩
  have b1 := flat_le (l := c.fields) (f := bFld) (K := 300) fun s hs => (hF s hs).2
  have b2 := flat_le (l := c.stages) (f := bStg) (K := 80) fun s hs => (hS s hs).2
  have b3 := flat_le (l := c.moves) (f := bMov (n - 1)) (K := 10000) fun s hs => (hM s hs).2
  unfold bCon
  simp only [List.length_append, bBytes_len, bCount_len]
  omega
theorem bC_le {c : Con} {n : Nat} (hi : ConI c) (hd : DpC n c) : (chkC c n = 0 → ConW n c) ∧ (bC n c).length ≤ 100000 := by
  refine ⟨fun h => (conW_of hi hd h).1, ?_⟩
  unfold bC
  by_cases h : chkC c n = 0
  · rw [if_pos h]; exact (conW_of hi hd h).2
  · rw [if_neg h]; simp
end Go.Proofs.YtjnhgfmjehaalaaGreat
