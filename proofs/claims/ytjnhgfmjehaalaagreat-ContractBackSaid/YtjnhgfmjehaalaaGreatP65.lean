/- Bytes put are read again: contracts: the plain law. -/
import Derived.Test.YtjnhgfmjehaalaaGreatP64
namespace Go.Proofs.YtjnhgfmjehaalaaGreat
open Go.RowKit
set_option linter.unusedVariables false
set_option linter.unusedSimpArgs false
/-! ### the normal form -/
def nEf (n : Nat) (x : Eff) : Eff := ⟨x.field, nE n x.expr⟩
def nM (n : Nat) (m : Mov) : Mov := ⟨m.name, m.frm, m.tgt, nE n m.guard, m.effects.map (nEf n), m.org⟩
def nC (n : Nat) (c : Con) : Con := ⟨c.name, c.fields.map nF, c.stages, c.moves.map (nM n)⟩
theorem allI_map {α β : Type} (f : α → β) (p : Nat → β → Bool) (l : List α) : allI p (l.map f) = allI (fun i x => p i (f x)) l := by
  rw [Bool.eq_iff_iff, allI_iff, allI_iff]
  constructor
  · intro h j x hx
    exact h j (f x) (by rw [List.getElem?_map, hx]; rfl)
  · intro h j y hy
    rw [List.getElem?_map] at hy
    cases hx : l[j]? with
    | none => rw [hx] at hy; cases hy
    | some x =>
      rw [hx] at hy
      injection hy with hy
      subst hy
      exact h j x hx
theorem onceB_map {α : Type} {of : α → List UInt8} (f : α → α) (hf : ∀ x, of (f x) = of x) (l : List α) : onceB of (l.map f) = onceB of l := by
  unfold onceB
  rw [allI_map]
  simp only [idx_map, hf]
theorem gField_nF (f : Fld) : gField (nF f) = gField f := by
  unfold gField fitsF nF
  simp only [goodV_nV]
  rfl
theorem kindAt_nF (fl : List Fld) (i : Int) : kindAt (fl.map nF) i = kindAt fl i := by
  unfold kindAt
  rw [List.getElem?_map]
  cases fl[i.toNat]? <;> rfl
structure MovN (n : Nat) (c : Con) (m : Mov) : Prop where
  right : gMove (nC n c) 6 (nM n m) = true
  bytes : bMov 5 (nM n m) = bMov (n - 1) m
  guard : small m.guard = true ∧ Vd n m.guard
  effects : ∀ x ∈ m.effects, small x.expr = true ∧ Vd n x.expr ∧ x.field.length ≤ 16
  few : m.effects.length ≤ 4
theorem mov_nM {c : Con} {n : Nat} {m : Mov} (hf : ∀ f ∈ c.fields, f.name.length ≤ 16) (hd : Dp n m.guard ∧ (∀ x ∈ m.effects, Dp n x.expr) ∧ 0 < n) (hi : MovI m) (h : gMove c n m = true) : MovN n c m := by
  obtain ⟨r1, r2, r3⟩ := gMove_ok h
  obtain ⟨d1, d2, hn⟩ := hd
  obtain ⟨g1, g2, g3, g4⟩ := isE_nE hf hi.guard d1 r2
  have he := fun x hx => isE_nE hf (hi.effects x hx) (d2 x hx) (r3 x hx).2
  obtain ⟨k, rfl⟩ : ∃ k, n = k + 1 := ⟨n - 1, by omega⟩
  have be : ∀ e : Exp, small e = true → bX (k + 1) e = bE k e := fun e h => by unfold bE; rw [h]; rfl
  refine ⟨?_, ?_, ⟨g3, g4⟩, fun x hx => ⟨(he x hx).2.2.1, (he x hx).2.2.2, find_name hf (name := x.field) (r3 x hx).1⟩, r1⟩
  · unfold gMove gHead at h ⊢
    simp only [Bool.and_eq_true, List.all_eq_true] at h ⊢
    obtain ⟨⟨⟨⟨⟨⟨h1, h2⟩, h3⟩, h4⟩, h5⟩, _⟩, h7, h8⟩ := h
    refine ⟨⟨⟨⟨⟨⟨h1, h2⟩, h3⟩, h4⟩, ?_⟩, g1⟩, fun y hy => ?_, ?_⟩
    · show decide ((m.effects.map (nEf (k + 1))).length ≤ 4) = true
      rw [List.length_map]
      exact h5
    · obtain ⟨x, hx, rfl⟩ := List.mem_map.1 (show y ∈ m.effects.map (nEf (k + 1)) from hy)
      have h9 := (he x hx).1
      have h10 := (r3 x hx).1
      show gEff (c.fields.map nF) 6 (nEf (k + 1) x) = true
      unfold gEff
      have e1 : idx (fun e => e.name == (nEf (k + 1) x).field) (c.fields.map nF) = idx (fun e => e.name == x.field) c.fields := by rw [idx_map]; rfl
      rw [e1, kindAt_nF, Bool.and_eq_true, decide_eq_true_eq]
      exact ⟨h10, h9⟩
    · show apartB ((m.effects.map (nEf (k + 1))).map fun x => x.field) = true
      rw [List.map_map]
      exact h8
  · unfold bMov
    show bBytes m.name ++ (bInt m.frm ++ (bInt m.tgt ++ (bInt m.org ++ (bE 5 (nE (k + 1) m.guard) ++ (bCount (m.effects.map (nEf (k + 1))).length ++ ((m.effects.map (nEf (k + 1))).map (bEff 5)).flatten))))) = _
    have e2 : m.effects.map (bEff 5 ∘ nEf (k + 1)) = m.effects.map (bEff (k + 1 - 1)) := List.map_congr_left fun x hx => by
      show bBytes x.field ++ bE 5 (nE (k + 1) x.expr) = bBytes x.field ++ bE k x.expr
      rw [(he x hx).2.1, be _ (he x hx).2.2.1]
    rw [g2, be _ g3, List.length_map, List.map_map, e2]
    rfl
/-- a right contract's normal form is right, and has its bytes -/
theorem con_nC {c : Con} {n : Nat} (hi : ConI c) (hd : DpC n c) (h : chkC c n = 0) : chkC (nC n c) 6 = 0 ∧ bCon 6 (nC n c) = bCon n c ∧ ConI (nC n c) ∧ ∀ m ∈ c.moves, MovN n c m := by
  have r := chkC_ok h
  have hM := fun m hm => mov_nM r.fnames (hd m hm) (hi.moves m hm) (r.moves m hm)
  refine ⟨?_, ?_, ⟨fun f hf => ?_, hi.stages, fun m hm => ?_⟩, hM⟩
  · rw [chkC_eq] at h ⊢
    have e1 : badF (c.fields.map nF) = badF c.fields := by
      unfold badF
      rw [List.any_map]
      congr 1
      funext f
      show (!gField (nF f)) = _
      rw [gField_nF]
    have e2 : onceF (c.fields.map nF) = onceF c.fields := onceB_map nF (fun _ => rfl) _
    have e3 : onceM (c.moves.map (nM n)) = onceM c.moves := onceB_map (nM n) (fun _ => rfl) _
    have e4 : badM (nC n c) 6 (c.moves.map (nM n)) = false := by
      unfold badM
      rw [List.any_map, List.any_eq_false]
      intro m hm
      show ¬ (!gMove (nC n c) 6 (nM n m)) = true
      rw [(hM m hm).right]
      simp
    have e5 : badM c n c.moves = false := by
      unfold badM
      rw [List.any_eq_false]
      intro m hm
      rw [r.moves m hm]
      simp
    rw [e5] at h
    show (if (!named c.name) = true then (50 : Int) else if (decide (6 < (c.fields.map nF).length) || !onceF (c.fields.map nF) || badF (c.fields.map nF)) = true then 60
      else if ((c.stages.length : Int) == 0 || decide (6 < c.stages.length) || !onceS c.stages || badS c.stages) = true then 61
      else if (decide (8 < (c.moves.map (nM n)).length) || !onceM (c.moves.map (nM n)) || badM (nC n c) 6 (c.moves.map (nM n))) = true then 62 else 0) = 0
    rw [e1, e2, e3, e4, List.length_map, List.length_map]
    exact h
  · unfold bCon
    show bBytes c.name ++ ((bCount (c.fields.map nF).length ++ ((c.fields.map nF).map bFld).flatten) ++ ((bCount c.stages.length ++ (c.stages.map bStg).flatten) ++ (bCount (c.moves.map (nM n)).length ++ ((c.moves.map (nM n)).map (bMov 5)).flatten))) = _
    have e1 : c.fields.map (bFld ∘ nF) = c.fields.map bFld := List.map_congr_left fun f _ => by
      show bFld (nF f) = bFld f
      unfold bFld nF
      simp only [bVal_nV]
    have e2 : c.moves.map (bMov 5 ∘ nM n) = c.moves.map (bMov (n - 1)) := List.map_congr_left fun m hm => (hM m hm).bytes
    rw [List.length_map, List.length_map, List.map_map, List.map_map, e1, e2]
  · obtain ⟨x, hx, rfl⟩ := List.mem_map.1 (show f ∈ c.fields.map nF from hf)
    exact ⟨(hi.fields x hx).1, valI_nV (hi.fields x hx).2⟩
  · obtain ⟨x, hx, rfl⟩ := List.mem_map.1 (show m ∈ c.moves.map (nM n) from hm)
    have hx' := hi.moves x hx
    refine ⟨hx'.frm, hx'.tgt, expI_nE n hx'.guard, fun y hy => ?_, hx'.org⟩
    obtain ⟨z, hz, rfl⟩ := List.mem_map.1 (show y ∈ x.effects.map (nEf n) from hy)
    exact expI_nE n (hx'.effects z hz)
/-! ### what is put is read -/
abbrev Gets {α : Type} (f : CS → α × CS) (b : List UInt8) (x : α) : Prop := ∀ t : List UInt8, f ((b ++ t, 0), 0) = (x, ((t, 0), 0))
theorem cText_put {m : Int} {x : List UInt8} (h : (x.length : Int) ≤ m) (h2 : x.length < 4294967296) : Gets (cText m) (bBytes x) x := fun t => by
  unfold cText
  rw [if_neg (fun h => h rfl), rBytes_put m x h h2]
theorem cNum_put {x : Int} (h : i64 x) : Gets cNum (bInt x) x := fun t => by
  unfold cNum
  rw [if_neg (fun h => h rfl), rInt_put x h]
theorem cVal_put {v : Val} (h : goodV v = true) (hw : ValW v) : Gets cVal (bVal v) (nV v) := fun t => by
  unfold cVal
  rw [if_neg (fun h => h rfl), gVal_put h hw]
theorem cExp_put {n : Nat} {e : Exp} (h : small e = true) (hv : Vd n e) : Gets cExp (bX n e) (nE n e) := fun t => by
  unfold cExp
  rw [if_neg (fun h => h rfl), gE_put hv h]
theorem cN_put {α : Type} {f : CS → α × CS} {b : α → List UInt8} {g : α → α} {l : List α} (t : List UInt8) (h : ∀ x ∈ l, Gets f (b x) (g x)) : ∀ i, i ≤ l.length → cN f (((l.map b).flatten ++ t, 0), 0) i = ((l.take i).map g, ((((l.drop i).map b).flatten ++ t, 0), 0))
  | 0, _ => rfl
  | i + 1, hi => by
    have ih := cN_put t h i (by omega)
    have hx := List.getElem?_eq_getElem (show i < l.length by omega)
    have h3 : ((l.drop i).map b).flatten ++ t = b l[i] ++ (((l.drop (i + 1)).map b).flatten ++ t) := by
      rw [List.drop_eq_getElem_cons (show i < l.length by omega), List.map_cons, List.flatten_cons, List.append_assoc]
    have h4 : (l.take (i + 1)).map g = (l.take i).map g ++ [g l[i]] := by
      rw [List.take_add_one, hx, List.map_append]
      rfl
    rw [cN, ih, if_neg (fun h => h rfl)]
    simp only
    rw [h3, h l[i] (List.getElem_mem _), h4]
theorem cMany_put {α : Type} {f : CS → α × CS} {b : α → List UInt8} {g : α → α} {l : List α} {m : Int} (hm : (l.length : Int) ≤ m) (hm2 : l.length < 4294967296) (h : ∀ x ∈ l, Gets f (b x) (g x)) : Gets (cMany m f) (bCount l.length ++ (l.map b).flatten) (l.map g) := fun t => by
  unfold cMany
  rw [if_neg (fun h => h rfl), List.append_assoc, rCount_put m l.length hm hm2]
  have h0 := cN_put t h l.length (Nat.le_refl _)
  rw [List.take_length, List.drop_length, List.map_nil, List.flatten_nil, List.nil_append] at h0
  exact h0
theorem cField_put {f : Fld} (hi : i64 f.kind ∧ ValI f.init) (hn : f.name.length ≤ 16) (h : gField f = true) : Gets cField (bFld f) (nF f) := fun t => by
  obtain ⟨a, b, g, k⟩ := gField_ok h
  have ht := good_text g
  have hw : ValW f.init := ⟨hi.2.kind, hi.2.int, hi.2.num, by omega⟩
  have e : bFld f ++ t = bBytes f.name ++ (bInt f.kind ++ ((bCount f.enum.length ++ (f.enum.map bBytes).flatten) ++ (bVal f.init ++ t))) := by unfold bFld; simp only [List.append_assoc]
  have r3 := cMany_put (f := cText 32) (b := bBytes) (g := id) (l := f.enum) (m := 4) (by omega) (by omega) (fun s hs => cText_put (by have := b s hs; omega) (by have := b s hs; omega)) (bVal f.init ++ t)
  unfold cField
  rw [e, cText_put (by omega) (by omega)]
  unfold cFld0
  simp only
  rw [cNum_put hi.1]
  unfold cFld1
  simp only
  rw [r3]
  unfold cFld2
  simp only
  rw [cVal_put g hw]
  unfold cFld3
  rw [List.map_id]
  rfl
theorem cStage_put {s : Stg} (hi : StgI s) (hn : s.name.length ≤ 16) (h : gStage s = true) : Gets cStage (bStg s) s := fun t => by
  have a := gStage_ok h
  have e : bStg s ++ t = bBytes s.name ++ (bInt s.need ++ ((bCount s.orgs.length ++ (s.orgs.map bInt).flatten) ++ t)) := by unfold bStg; simp only [List.append_assoc]
  have r3 := cMany_put (f := cNum) (b := bInt) (g := id) (l := s.orgs) (m := 4) (by omega) (by omega) (fun o ho => cNum_put (hi.orgs o ho)) t
  unfold cStage
  rw [e, cText_put (by omega) (by omega)]
  unfold cStg0
  simp only
  rw [cNum_put hi.need]
  unfold cStg1
  simp only
  rw [r3]
  unfold cStg2
  rw [List.map_id]
theorem bE_vd {n : Nat} {e : Exp} (h : small e = true) (hv : Vd n e) : bE (n - 1) e = bX n e := by
  cases n with
  | zero => exact hv.elim
  | succ n => unfold bE; rw [h]; rfl
theorem cEffect_put {n : Nat} {x : Eff} (hn : x.field.length ≤ 16) (h : small x.expr = true) (hv : Vd n x.expr) : Gets cEffect (bEff (n - 1) x) (nEf n x) := fun t => by
  have e : bEff (n - 1) x ++ t = bBytes x.field ++ (bX n x.expr ++ t) := by unfold bEff; rw [bE_vd h hv, List.append_assoc]
  unfold cEffect
  rw [e, cText_put (by omega) (by omega)]
  unfold cEff0
  simp only
  rw [cExp_put h hv]
  rfl
theorem cMove_put {n : Nat} {c : Con} {m : Mov} (hi : MovI m) (hn : m.name.length ≤ 16) (h : MovN n c m) : Gets cMove (bMov (n - 1) m) (nM n m) := fun t => by
  have hf := h.few
  have e : bMov (n - 1) m ++ t = bBytes m.name ++ (bInt m.frm ++ (bInt m.tgt ++ (bInt m.org ++ (bX n m.guard ++ ((bCount m.effects.length ++ (m.effects.map (bEff (n - 1))).flatten) ++ t))))) := by unfold bMov; rw [bE_vd h.guard.1 h.guard.2]; simp only [List.append_assoc]
  have r3 := cMany_put (f := cEffect) (b := bEff (n - 1)) (g := nEf n) (l := m.effects) (m := 4) (by omega) (by omega) (fun x hx => cEffect_put (h.effects x hx).2.2 (h.effects x hx).1 (h.effects x hx).2.1) t
  unfold cMove
  rw [e, cText_put (by omega) (by omega)]
  unfold cMov0
  simp only
  rw [cNum_put hi.frm]
  unfold cMov1
  simp only
  rw [cNum_put hi.tgt]
  unfold cMov2
  simp only
  rw [cNum_put hi.org]
  unfold cMov3
  simp only
  rw [cExp_put h.guard.1 h.guard.2]
  unfold cMov4
  simp only
  rw [r3]
  rfl
theorem cCon_put {n : Nat} {c : Con} (hi : ConI c) (hd : DpC n c) (h : chkC c n = 0) : Gets cCon (bCon n c) (nC n c) := fun t => by
  have r := chkC_ok h
  have hM := (con_nC hi hd h).2.2.2
  have a1 := r.name
  have a2 := r.nf
  have a3 := r.ns
  have a4 := r.nm
  have e : bCon n c ++ t = bBytes c.name ++ ((bCount c.fields.length ++ (c.fields.map bFld).flatten) ++ ((bCount c.stages.length ++ (c.stages.map bStg).flatten) ++ ((bCount c.moves.length ++ (c.moves.map (bMov (n - 1))).flatten) ++ t))) := by unfold bCon; simp only [List.append_assoc]
  have r1 := cMany_put (f := cField) (b := bFld) (g := nF) (l := c.fields) (m := 6) (by omega) (by omega) (fun f hf => cField_put (hi.fields f hf) (r.fnames f hf) (r.fields f hf)) ((bCount c.stages.length ++ (c.stages.map bStg).flatten) ++ ((bCount c.moves.length ++ (c.moves.map (bMov (n - 1))).flatten) ++ t))
  have r2 := cMany_put (f := cStage) (b := bStg) (g := id) (l := c.stages) (m := 6) (by omega) (by omega) (fun f hf => cStage_put (hi.stages f hf) (r.snames f hf) (r.stages f hf)) ((bCount c.moves.length ++ (c.moves.map (bMov (n - 1))).flatten) ++ t)
  have r3 := cMany_put (f := cMove) (b := bMov (n - 1)) (g := nM n) (l := c.moves) (m := 8) (by omega) (by omega) (fun f hf => cMove_put (hi.moves f hf) (r.mnames f hf) (hM f hf)) t
  unfold cCon
  rw [e, cText_put (by omega) (by omega)]
  unfold cCon0
  simp only
  rw [r1]
  unfold cCon1
  simp only
  rw [r2]
  unfold cCon2
  simp only
  rw [r3]
  unfold cCon3
  rw [List.map_id]
  rfl
/-- a right contract is read as it was put -/
theorem gC_put {n : Nat} {c : Con} (hi : ConI c) (hd : DpC n c) (h : chkC c n = 0) (t : List UInt8) : gC (bCon n c ++ t, 0) = .ok (nC n c, (t, 0)) := by
  unfold gC
  rw [cCon_put hi hd h t]
  unfold gCon
  rw [if_neg (fun h => h rfl)]
  simp only
  rw [if_neg (by rw [(con_nC hi hd h).1]; simp)]
theorem bC_nC {n : Nat} {c : Con} (hi : ConI c) (hd : DpC n c) (h : chkC c n = 0) : bC 6 (nC n c) = bC n c ∧ bC n c = bCon n c ∧ 0 < (bC n c).length := by
  obtain ⟨h1, h2, _⟩ := con_nC hi hd h
  have e1 : bC 6 (nC n c) = bCon 6 (nC n c) := by unfold bC; rw [if_pos h1]
  have e2 : bC n c = bCon n c := by unfold bC; rw [if_pos h]
  refine ⟨by rw [e1, e2, h2], e2, ?_⟩
  rw [e2]
  unfold bCon
  rw [List.length_append, bBytes_len]
  omega
end Go.Proofs.YtjnhgfmjehaalaaGreat
