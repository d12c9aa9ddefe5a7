/- Texts that go together. -/
import Derived.Test.YtjnhgfmjehaalaaGreatC15
/- Chapter 6: the program's Check and the reference's are one: the plain law. -/
namespace Go.Proofs.YtjnhgfmjehaalaaGreat
open Go.RowKit
set_option linter.unusedVariables false
set_option linter.unusedSimpArgs false
theorem fits0 {v : Val} {f : Fld} (h : fitsF v f = 0) : goodV v = true ∧ v.kind = f.kind := by
 unfold fitsF at h
 cases hg : goodV v
 ·rw [hg] at h; simp at h
 ·by_cases hk : v.kind = f.kind
  ·exact ⟨rfl, hk⟩
  ·rw [hg] at h; simp [hk] at h
theorem good_kind {v : Val} (h : goodV v = true) : 1 ≤ v.kind ∧ v.kind ≤ 4 := by
 obtain ⟨k, i, b, t, n⟩ := v
 rw [goodV_eq] at h
 simp only [Bool.and_eq_true, decide_eq_true_eq] at h
 exact ⟨h.1.1.1, h.1.1.2.1⟩
theorem pEnum_eq (l : List (List UInt8)) : allI (pEnum l) l = (!longS l && apartB l) := by
 rw [Bool.eq_iff_iff, allI_iff, Bool.and_eq_true, Bool.not_eq_true']
 unfold longS apartB
 rw [allI_iff, List.any_eq_false]
 constructor
 ·intro h
  refine ⟨fun s hs => ?_, fun j s hs => ?_⟩
  ·obtain ⟨j, hj, rfl⟩ := List.getElem_of_mem hs
   have := h j _ (List.getElem?_eq_getElem hj)
   unfold pEnum at this
   simp only [Bool.and_eq_true, decide_eq_true_eq] at this
   simp only [decide_eq_true_eq]
   omega
  ·have := h j s hs
   unfold pEnum at this
   rw [Bool.and_eq_true] at this
   exact this.2
 ·rintro ⟨h1, h2⟩ j s hs
  unfold pEnum
  rw [Bool.and_eq_true]
  refine ⟨?_, h2 j s hs⟩
  have := h1 s (List.mem_of_getElem? hs)
  simp only [decide_eq_true_eq] at this ⊢
  omega
theorem gField_eq (f : Fld) : gField f = (decide (1 ≤ f.kind) && decide (f.kind ≤ 4) && enumR f && fitsF f.init f == 0) := by
 unfold gField enumR
 rw [pEnum_eq]
 by_cases h0 : fitsF f.init f = 0
 ·obtain ⟨h1, h2⟩ := fits0 h0
  obtain ⟨h3, h4⟩ := good_kind h1
  rw [h0, decide_eq_true (show 1 ≤ f.kind by omega), decide_eq_true (show f.kind ≤ 4 by omega)]
  have e1 : (((f.enum.length : Int) == 0) || f.kind == 3) = !(decide (0 < (f.enum.length : Int)) && f.kind != 3) := by
   rw [Bool.eq_iff_iff]
   simp only [Bool.or_eq_true, beq_iff_eq, Bool.not_eq_true', Bool.and_eq_false_imp, decide_eq_true_eq, bne_eq_false_iff_eq]
   constructor
   ·rintro (h | h) h'
    ·omega
    ·exact h
   ·intro h
    by_cases hp : 0 < (f.enum.length : Int)
    ·exact .inr (h hp)
    ·exact .inl (by omega)
  have e2 : decide (f.enum.length ≤ 4) = decide ((f.enum.length : Int) ≤ 4) := by rw [Bool.eq_iff_iff]; simp only [decide_eq_true_eq]; omega
  rw [e1, e2]
  cases decide ((f.enum.length : Int) ≤ 4) <;> cases longS f.enum <;> cases apartB f.enum <;> cases (decide (0 < (f.enum.length : Int)) && f.kind != 3) <;> rfl
 ·rw [show (fitsF f.init f == 0) = false by simpa using h0]
  simp
theorem fieldsR_eq (c : Con) : fieldsR c = !(decide (6 < c.fields.length) || !onceF c.fields || badF c.fields) := by
 rw [Bool.eq_iff_iff]
 unfold fieldsR onceF badF onceB
 rw [Bool.and_eq_true, allI_iff, Bool.not_eq_true', Bool.or_eq_false_iff, Bool.or_eq_false_iff, Bool.not_eq_false', allI_iff, List.any_eq_false]
 simp only [decide_eq_true_eq, decide_eq_false_iff_not]
 constructor
 ·rintro ⟨h1, h2⟩
  refine ⟨⟨by omega, fun j x hx => ?_⟩, fun x hx => ?_⟩
  ·have := h2 j x hx
   unfold pField at this
   simp only [Bool.and_eq_true] at this ⊢
   exact this.1.1.1.1
  ·obtain ⟨j, hj, rfl⟩ := List.getElem_of_mem hx
   have := h2 j _ (List.getElem?_eq_getElem hj)
   unfold pField at this
   rw [gField_eq]
   simp only [Bool.and_eq_true] at this
   rw [this.1.1.1.2, this.1.1.2, this.1.2, this.2]; decide
 ·rintro ⟨⟨h1, h2⟩, h3⟩
  refine ⟨by omega, fun j x hx => ?_⟩
  have h4 := h2 j x hx
  have h5 := h3 x (List.mem_of_getElem? hx)
  rw [gField_eq] at h5
  simp only [Bool.not_eq_true, Bool.not_eq_false'] at h5
  unfold pField
  simp only [Bool.and_eq_true] at h4 h5 ⊢
  exact ⟨⟨⟨⟨h4, h5.1.1.1⟩, h5.1.1.2⟩, h5.1.2⟩, h5.2⟩
theorem rises_iff : ∀ (l : List Int) (last : Int), -1 ≤ last → (risesF last l = true ↔ ∀ (k : Nat) (o : Int), l[k]? = some o → 0 ≤ o ∧ o < 4 ∧ (k = 0 → last < o) ∧ (k ≠ 0 → l.getD (k - 1) 0 < o))
 | [], last, _ => by simp [risesF]
 | o :: l, last, hl => by
  rw [risesF, Bool.and_eq_true]
  simp only [Bool.not_eq_true', Bool.or_eq_false_iff, decide_eq_false_iff_not]
  constructor
  ·rintro ⟨⟨h1, h2⟩, h3⟩ k x hx
   rw [rises_iff l o (by omega)] at h3
   cases k with
   | zero =>
    injection hx with hx
    subst hx
    exact ⟨by omega, by omega, fun _ => by omega, fun h => absurd rfl h⟩
   | succ k =>
    have hx' : l[k]? = some x := hx
    obtain ⟨a, b, c, d⟩ := h3 k x hx'
    refine ⟨a, b, fun h => by omega, fun _ => ?_⟩
    cases k with
    | zero => exact c rfl
    | succ k => have := d (by omega); simpa using this
  ·intro h
   obtain ⟨a, b, c, _⟩ := h 0 o rfl
   refine ⟨⟨by have := c rfl; omega, by omega⟩, ?_⟩
   rw [rises_iff l o (by omega)]
   intro k x hx
   obtain ⟨a', b', c', d'⟩ := h (k + 1) x hx
   have d2 := d' (by omega)
   refine ⟨a', b', fun hk => ?_, fun hk => ?_⟩
   ·subst hk; simpa using d2
   ·obtain ⟨k', rfl⟩ : ∃ k', k = k' + 1 := ⟨k - 1, by omega⟩
    simpa using d2
theorem pOrg_eq (l : List Int) : allI (pOrg l) l = risesF (-1) l := by
 rw [Bool.eq_iff_iff, allI_iff, rises_iff l (-1) (by omega)]
 constructor
 ·intro h k o ho
  have := h k o ho
  unfold pOrg at this
  simp only [Bool.and_eq_true, decide_eq_true_eq, Bool.or_eq_true, beq_iff_eq] at this
  obtain ⟨⟨a, b⟩, c⟩ := this
  exact ⟨a, b, fun _ => by omega, fun hk => by rcases c with c | c; exact absurd c hk; exact c⟩
 ·intro h k o ho
  obtain ⟨a, b, c, d⟩ := h k o ho
  unfold pOrg
  simp only [Bool.and_eq_true, decide_eq_true_eq, Bool.or_eq_true, beq_iff_eq]
  refine ⟨⟨a, b⟩, ?_⟩
  by_cases hk : k = 0
  ·exact .inl hk
  ·exact .inr (d hk)
theorem stagesR_eq (c : Con) : stagesR c = !((c.stages.length : Int) == 0 || decide (6 < c.stages.length) || !onceS c.stages || badS c.stages) := by
 rw [Bool.eq_iff_iff]
 unfold stagesR onceS badS onceB
 rw [Bool.and_eq_true, allI_iff, Bool.not_eq_true', Bool.or_eq_false_iff, Bool.or_eq_false_iff, Bool.or_eq_false_iff, Bool.not_eq_false', allI_iff, List.any_eq_false]
 simp only [decide_eq_true_eq, decide_eq_false_iff_not, Bool.and_eq_true, beq_eq_false_iff_ne]
 constructor
 ·rintro ⟨⟨h0, h1⟩, h2⟩
  refine ⟨⟨⟨by omega, by omega⟩, fun j x hx => ?_⟩, fun x hx => ?_⟩
  ·have := h2 j x hx
   unfold pStage hStage at this
   simp only [Bool.and_eq_true] at this ⊢
   exact this.1.1.1.1
  ·obtain ⟨j, hj, rfl⟩ := List.getElem_of_mem hx
   have := h2 j _ (List.getElem?_eq_getElem hj)
   unfold pStage hStage at this
   rw [pOrg_eq] at this
   simp only [Bool.and_eq_true, decide_eq_true_eq] at this
   unfold gStage
   rw [this.2, decide_eq_false (by omega), decide_eq_false (by omega), decide_eq_false (by omega)]; decide
 ·rintro ⟨⟨⟨h0, h1⟩, h2⟩, h3⟩
  refine ⟨⟨by omega, by omega⟩, fun j x hx => ?_⟩
  have h4 := h2 j x hx
  have h5 : gStage x = true := by simpa using h3 x (List.mem_of_getElem? hx)
  unfold gStage at h5
  simp only [Bool.and_eq_true, Bool.not_eq_true', Bool.or_eq_false_iff, decide_eq_false_iff_not] at h5
  unfold pStage hStage
  rw [pOrg_eq]
  simp only [Bool.and_eq_true, decide_eq_true_eq] at h4 ⊢
  exact ⟨⟨⟨⟨h4, by omega⟩, by omega⟩, by omega⟩, h5.2⟩
theorem movesR_eq (c : Con) (n : Nat) : (decide (8 < (c.moves.length : Int)) || !allI (pMove c n) c.moves) = (decide (8 < c.moves.length) || !onceM c.moves || badM c n c.moves) := by
 rw [show decide (8 < (c.moves.length : Int)) = decide (8 < c.moves.length) by rw [Bool.eq_iff_iff]; simp only [decide_eq_true_eq]; omega, Bool.or_assoc]
 congr 1
 rw [← Bool.not_not (!onceM c.moves || badM c n c.moves)]
 congr 1
 rw [Bool.eq_iff_iff]
 unfold onceM badM onceB
 rw [allI_iff, Bool.not_eq_true', Bool.or_eq_false_iff, Bool.not_eq_false', allI_iff, List.any_eq_false]
 constructor
 ·intro h2
  refine ⟨fun j x hx => ?_, fun x hx => ?_⟩
  ·have := h2 j x hx
   unfold pMove at this
   simp only [Bool.and_eq_true] at this ⊢
   exact this.1
  ·obtain ⟨j, hj, rfl⟩ := List.getElem_of_mem hx
   have := h2 j _ (List.getElem?_eq_getElem hj)
   unfold pMove at this
   simp only [Bool.and_eq_true] at this
   rw [this.2]; decide
 ·rintro ⟨h2, h3⟩ j x hx
  have h4 := h2 j x hx
  have h5 := h3 x (List.mem_of_getElem? hx)
  unfold pMove
  simp only [Bool.and_eq_true, Bool.not_eq_true, Bool.not_eq_false'] at h4 h5 ⊢
  exact ⟨h4, h5⟩
theorem chk_eq (c : Con) (n : Nat) : chkR c n = chkC c n := by
 unfold chkR chkC
 rw [fieldsR_eq, stagesR_eq, Bool.not_not, Bool.not_not, ← movesR_eq]
 cases named c.name
 ·rfl
 cases (decide (6 < c.fields.length) || !onceF c.fields || badF c.fields)
 ·cases ((c.stages.length : Int) == 0 || decide (6 < c.stages.length) || !onceS c.stages || badS c.stages)
  ·cases decide (8 < (c.moves.length : Int)) <;> cases allI (pMove c n) c.moves <;> rfl
  ·rfl
 ·rfl
end Go.Proofs.YtjnhgfmjehaalaaGreat
/- Chapter 6: few enough parts. -/
namespace Go.Proofs.YtjnhgfmjehaalaaGreat
open Go.RowKit
set_option linter.unusedVariables false
set_option linter.unusedSimpArgs false
section
variable {w : World}
end
end Go.Proofs.YtjnhgfmjehaalaaGreat
/- Bytes put: truths, floats, texts, values. -/
namespace Go.Proofs.YtjnhgfmjehaalaaGreat
open Go.RowKit
set_option linter.unusedVariables false
set_option linter.unusedSimpArgs false
/-- '[]byte(s)' -/
theorem conv_sb {P : Program} {ok : Nat → Prop} (w : World) (src dst e : TypeId) (l : List UInt8) (hs : P.underlying src = some .string) (hd : P.underlying dst = some (.slice e)) (he : P.underlying e = some (.int .u8)) (hok : ∀ k, w.heap.size ≤ k → ok k) (hl : l.length ≤ 274877906944) :
 ∃ A c w', (convert src dst (.string ⟨l.toArray⟩)).run P w = .ok (.slice A l.length c) w' ∧ Sl kU8 ok w' (.slice A l.length c) l ∧ Below w.heap.size w w' := by
 have hz : (⟨l.toArray⟩ : ByteArray).size = l.length := by show l.toArray.size = _; simp
 have hr := run_bytes_of_string (P := P) w src dst e ⟨l.toArray⟩ hs hd he
 rw [hz] at hr
 have hcap := grownCap_le w l.length 0 e (by omega)
 generalize grownCap w l.length 0 e = cap at *
 refine ⟨_, _, _, hr, ⟨_, _, _, rfl, rfl, hcap.1, hcap.2, fun h => (nomatch h), fun i x hi => ⟨⟨w.heap.size, 0, none⟩, [.int .u8 (x.toNat : Int)], rfl, hok _ (Nat.le_refl _), rfl, fun j u hj => ?_⟩⟩, ?_⟩
 ·have hi' := List.getElem?_eq_some_iff.1 hi
  obtain ⟨hi', hx⟩ := hi'
  match j, hj with
  | 0, hj =>
   have hj : Value.int .u8 (x.toNat : Int) = u := by simpa using hj
   subst hj
   have h0 : (w.drew.alloc (.cells (bytesRow ⟨l.toArray⟩ cap) e ((bytesRow ⟨l.toArray⟩ cap).size, (bytesRow ⟨l.toArray⟩ cap).size + 1))).heap[w.heap.size]? = some (.cells (bytesRow ⟨l.toArray⟩ cap) e ((bytesRow ⟨l.toArray⟩ cap).size, (bytesRow ⟨l.toArray⟩ cap).size + 1)) := heap_new w.drew _
   have h1 : ((⟨w.heap.size, 0, none⟩ : Addr).add (i * kU8.sz + 0)) = ⟨w.heap.size, i, none⟩ := by
    show Addr.add _ (i * 1 + 0) = _
    unfold Addr.add
    by_cases h : i = 0 <;> simp [h]
   rw [h1, cell_of h0]
   unfold bytesRow
   rw [Array.getElem?_append_left (by simpa using hi')]
   simp [hi', hx]
  | j + 1, hj => simp at hj
 ·exact ((Below.refl _ w).drew).alloc (Nat.le_refl _) _
section
variable {w : World}
theorem number6_c {ok : Nat → Prop} {xs : List UInt8} {A : Option Addr} {n c : Nat} (h : Sl kU8 ok w (.slice A n c) xs) (x : Int) (hx : i64 x) (hn : n ≤ 1099511627776) :
 Calls Tryz.prog 28 #[.slice A n c, .int .i64 x] w (RetOwn kU8 5 ok w (xs ++ bInt x)) := by
 have H := Lib.hid (putInt_c h x hx.1 hx.2 hn)
 clear h
 go_enter Tryz.func28, Tryz.ntmps28
 go_wp2_with fail
 refine H.out.mono ?_
 rintro x9 w1 ⟨v, rfl, ho⟩
 have HO := Lib.hid ho
 clear ho
 go_wp2_with fail
 go_ret
 exact ⟨v, rfl, HO.out⟩
theorem putBool_c {ok : Nat → Prop} {xs : List UInt8} {A : Option Addr} {n c : Nat} (h : Sl kU8 ok w (.slice A n c) xs) (b : Bool) (hn : n ≤ 1099511627776) :
 Calls Tryz.prog 86 #[.slice A n c, .bool b] w (RetOwn kU8 5 ok w (xs ++ [if b then 1 else 0])) := by
 have HC := Lib.hid (clip_u8 h)
 have hl := h.len.1
 have H := Lib.hid (show Clp kU8 5 ok w w.heap.size (.slice A n n) xs from .inl ⟨A, n, rfl, h.clip⟩)
 have HL := Lib.hid hl
 clear h hl
 cases b
 all_goals
  go_enter Tryz.func86, Tryz.ntmps86
  go_wp2_with fail
  refine HC.out.mono ?_
  rintro x9 w1 ⟨rfl, rfl⟩
 ·go_wp2_with (at_builtin; refine at_append rfl (.tmp 8) (.tmp 10) 29 29 rfl rfl rfl (run_append_clp1 Tryz.underlying29 Tryz.underlying29 infoU8 rfl H.out (Nat.le_refl _) (0 : UInt8) (by have := HL.out; omega) (by have := HL.out; omega)) ?_; rintro v' w' ⟨ho, hb⟩; have HO := Lib.hid ho; have HB := Lib.hid hb; clear ho hb)
  go_ret
  exact ⟨_, rfl, HO.out, HB.out⟩
 ·go_wp2_with (at_builtin; refine at_append rfl (.tmp 8) (.tmp 10) 29 29 rfl rfl rfl (run_append_clp1 Tryz.underlying29 Tryz.underlying29 infoU8 rfl H.out (Nat.le_refl _) (1 : UInt8) (by have := HL.out; omega) (by have := HL.out; omega)) ?_; rintro v' w' ⟨ho, hb⟩; have HO := Lib.hid ho; have HB := Lib.hid hb; clear ho hb)
  go_ret
  exact ⟨_, rfl, HO.out, HB.out⟩
theorem putNum_c {ok : Nat → Prop} {xs : List UInt8} {A : Option Addr} {n c : Nat} (h : Sl kU8 ok w (.slice A n c) xs) (x : Nat) (hx : x < 18446744073709551616) (hn : n ≤ 1099511627776) :
 Calls Tryz.prog 87 #[.slice A n c, .float .f64 x] w (RetOwn kU8 5 ok w (xs ++ be 8 (codeB x))) := by
 have FB := f64bits_run
 have E := Lib.hid (show codeB x = if nanB x then 9221120237041090561 else x from rfl)
 have H := Lib.hid h
 clear h
 cases hnb : nanB x
 ·have H1 := Lib.hid (show Calls Tryz.prog 142 #[.slice A n c, .int .u64 (x : Int), .int .i64 8] w (RetOwn kU8 5 ok w (xs ++ be 8 (codeB x))) by
   have h1 := spell8_u8 H.out (x : Int) (by omega) (by omega) hn
   rw [E.out, hnb]
   exact h1)
  go_enter Tryz.func87, Tryz.ntmps87
  go_wp2_with (go_at_call 145; refine (isNaN_c x).mono ?_; rintro e w' ⟨rfl, rfl⟩; rw [hnb])
  refine H1.out.mono ?_
  rintro x9 w1 ⟨v, rfl, ho⟩
  have HO := Lib.hid ho
  clear ho
  go_wp2_with fail
  go_ret
  exact ⟨v, rfl, HO.out⟩
 ·have H1 := Lib.hid (show Calls Tryz.prog 142 #[.slice A n c, .int .u64 9221120237041090561, .int .i64 8] w (RetOwn kU8 5 ok w (xs ++ be 8 (codeB x))) by
   have h1 := spell8_u8 H.out 9221120237041090561 (by omega) (by omega) hn
   rw [E.out, hnb]
   exact h1)
  go_enter Tryz.func87, Tryz.ntmps87
  go_wp2_with (go_at_call 145; refine (isNaN_c x).mono ?_; rintro e w' ⟨rfl, rfl⟩; rw [hnb])
  refine H1.out.mono ?_
  rintro x9 w1 ⟨v, rfl, ho⟩
  have HO := Lib.hid ho
  clear ho
  go_wp2_with fail
  go_ret
  exact ⟨v, rfl, HO.out⟩
end
end Go.Proofs.YtjnhgfmjehaalaaGreat
/- Bytes put: texts, values. -/
namespace Go.Proofs.YtjnhgfmjehaalaaGreat
open Go.RowKit
set_option linter.unusedVariables false
set_option linter.unusedSimpArgs false
def bVal (v : Val) : List UInt8 := bInt v.kind ++ (if v.kind = 1 then bInt v.int else if v.kind = 2 then [if v.bool then 1 else 0] else if v.kind = 3 then bBytes v.text else if v.kind = 4 then be 8 (codeB v.num) else [])
section
variable {w : World}
/-- a row of the call's own may be read -/
theorem Own.read {xs : List UInt8} {base : Nat} {v : Value} (h : Own kU8 5 (fun _ => True) w base v xs) : Sl kU8 (fun _ => True) w v xs := h.sl fun _ _ => trivial
theorem text6_c {xs : List UInt8} {A : Option Addr} {n c : Nat} (h : Sl kU8 (fun _ => True) w (.slice A n c) xs) (s : List UInt8) (hs : s.length ≤ 4294967295) (hn : n ≤ 549755813888) :
 Calls Tryz.prog 25 #[.slice A n c, .string ⟨s.toArray⟩] w (RetOwn kU8 5 (fun _ => True) w (xs ++ bBytes s)) := by
 obtain ⟨A5, c5, w5, hcv, hs5, hb5⟩ := conv_sb (P := Tryz.prog) (ok := fun _ => True) w 9 29 5 s Tryz.underlying9 Tryz.underlying29 Tryz.underlying5 (fun _ _ => trivial) (by omega)
 have H := Lib.hid (putBytes_c (h.below hb5) hs5 hn hs)
 have HB := Lib.hid hb5
 clear h hs5 hb5
 go_enter Tryz.func25, Tryz.ntmps25
 go_wp2_with fail
 refine H.out.mono ?_
 rintro x9 w1 ⟨v, rfl, ho, hb⟩
 have HO := Lib.hid (ho.lower HB.out.size)
 have HB2 := Lib.hid (below_self HB.out hb)
 clear ho hb
 go_wp2_with fail
 go_ret
 exact ⟨v, rfl, HO.out, HB2.out⟩
/-- a value whose numbers are of their kind -/
structure ValW (v : Val) : Prop where
 kind : i64 v.kind
 int : i64 v.int
 num : v.num < 18446744073709551616
 text : v.text.length ≤ 4294967295
set_option maxHeartbeats 2000000 in
theorem putV_c {xs : List UInt8} {A : Option Addr} {n c : Nat} (h : Sl kU8 (fun _ => True) w (.slice A n c) xs) (v : Val) (hv : ValW v) (hn : n ≤ 274877906944) :
 Calls Tryz.prog 29 #[.slice A n c, .agg #[.int .i64 v.kind, .int .i64 v.int, .bool v.bool, .string ⟨v.text.toArray⟩, .float .f64 v.num]] w (RetOwn kU8 5 (fun _ => True) w (xs ++ bVal v)) := by
 have SF := store_f64
 have hL := Loc1.new w 39 #[.int .i64 v.kind, .int .i64 v.int, .bool v.bool, .string ⟨v.text.toArray⟩, .float .f64 v.num]
 have B0 : Below w.heap.size w (w.alloc (.cells #[.int .i64 v.kind, .int .i64 v.int, .bool v.bool, .string ⟨v.text.toArray⟩, .float .f64 v.num] 39)) := bW
 have H0 := Lib.hid (putInt_c (h.below B0) v.kind hv.kind.1 hv.kind.2 (by omega))
 have HL := Lib.hid hL
 have HV := Lib.hid hv
 have HN := Lib.hid h.len.1
 obtain ⟨c0, c1, c2, c3, c4⟩ := cells5 hL
 have hz0 := lt_of_heap hL
 clear h hL hv
 go_enter Tryz.func29, Tryz.ntmps29
 go_wp2_with fail
 refine H0.out.mono ?_
 rintro x9 w2 ⟨v2, rfl, ho, hb2⟩
 obtain ⟨A2, n2, cc2, rfl, hn2⟩ := ho.form'
 have hn3 : n2 ≤ 274877906952 := by rw [hn2, List.length_append, bInt_len, HN.out]; omega
 have HO := Lib.hid ho
 clear ho hn2 c0 c1 c2 c3 c4 H0
 have L2 := HL.out.bel hb2
 obtain ⟨c0, c1, c2, c3, c4⟩ := cells5 L2
 have hz := lt_of_heap L2
 have BW : Below w.heap.size w w2 := bW
 have HS := Lib.hid (show Sl kU8 (fun _ => True) w2 (.slice A2 n2 cc2) (xs ++ bInt v.kind) from HO.out.read)
 have HB := Lib.hid (show ∀ (W : World) (ys : List UInt8) (u : Value), bVal v = bInt v.kind ++ ys → Own kU8 5 (fun _ => True) W w2.heap.size u (xs ++ bInt v.kind ++ ys) → Below w2.heap.size w2 W → RetOwn kU8 5 (fun _ => True) w (xs ++ bVal v) (.returned u) W from fun W ys u e ho hb => ⟨u, rfl, by rw [e, ← List.append_assoc]; exact ho.lower BW.size, below_self BW hb⟩)
 have EV := Lib.hid (show bVal v = bInt v.kind ++ (if v.kind = 1 then bInt v.int else if v.kind = 2 then [if v.bool then 1 else 0] else if v.kind = 3 then bBytes v.text else if v.kind = 4 then be 8 (codeB v.num) else []) from rfl)
 by_cases g1 : v.kind = 1
 ·have f1 : (v.kind == 1) = true := by rw [g1]; rfl
  have E1 := Lib.hid (show bVal v = bInt v.kind ++ bInt v.int by rw [EV.out, if_pos g1])
  clear g1
  go_wp2_with fail
  refine (putInt_c HS.out v.int HV.out.int.1 HV.out.int.2 (by omega)).mono ?_
  rintro x9 w3 ⟨u, rfl, ho, hb3⟩
  have HR := Lib.hid (HB.out w3 _ u E1.out ho hb3)
  clear ho
  go_wp2_with fail
  go_ret
  exact HR.out
 have f1 : (v.kind == 1) = false := by simpa using g1
 by_cases g2 : v.kind = 2
 ·have f2 : (v.kind == 2) = true := by rw [g2]; rfl
  have E1 := Lib.hid (show bVal v = bInt v.kind ++ [if v.bool then 1 else 0] by rw [EV.out, if_neg g1, if_pos g2])
  clear g1 g2
  go_wp2_with fail
  refine (putBool_c HS.out v.bool (by omega)).mono ?_
  rintro x9 w3 ⟨u, rfl, ho, hb3⟩
  have HR := Lib.hid (HB.out w3 _ u E1.out ho hb3)
  clear ho
  go_wp2_with fail
  go_ret
  exact HR.out
 have f2 : (v.kind == 2) = false := by simpa using g2
 by_cases g3 : v.kind = 3
 ·have f3 : (v.kind == 3) = true := by rw [g3]; rfl
  have E1 := Lib.hid (show bVal v = bInt v.kind ++ bBytes v.text by rw [EV.out, if_neg g1, if_neg g2, if_pos g3])
  clear g1 g2 g3
  obtain ⟨A5, c5, w5, hcv, hs5, hb5⟩ := conv_sb (P := Tryz.prog) (ok := fun _ => True) w2 9 29 5 v.text Tryz.underlying9 Tryz.underlying29 Tryz.underlying5 (fun _ _ => trivial) (by have := HV.out.text; omega)
  have HP := Lib.hid (putBytes_c (HS.out.below hb5) hs5 (by omega) HV.out.text)
  have HB5 := Lib.hid hb5
  clear hs5 hb5
  go_wp2_with fail
  refine HP.out.mono ?_
  rintro x9 w3 ⟨u, rfl, ho, hb3⟩
  have HR := Lib.hid (HB.out w3 _ u E1.out (ho.lower HB5.out.size) (below_self HB5.out hb3))
  clear ho hcv
  go_wp2_with fail
  go_ret
  exact HR.out
 have f3 : (v.kind == 3) = false := by simpa using g3
 by_cases g4 : v.kind = 4
 ·have f4 : (v.kind == 4) = true := by rw [g4]; rfl
  have E1 := Lib.hid (show bVal v = bInt v.kind ++ be 8 (codeB v.num) by rw [EV.out, if_neg g1, if_neg g2, if_neg g3, if_pos g4])
  clear g1 g2 g3 g4
  go_wp2_with fail
  refine (putNum_c HS.out v.num HV.out.num (by omega)).mono ?_
  rintro x9 w3 ⟨u, rfl, ho, hb3⟩
  have HR := Lib.hid (HB.out w3 _ u E1.out ho hb3)
  clear ho
  go_wp2_with fail
  go_ret
  exact HR.out
 have f4 : (v.kind == 4) = false := by simpa using g4
 have E1 := Lib.hid (show bVal v = bInt v.kind ++ [] by rw [EV.out, if_neg g1, if_neg g2, if_neg g3, if_neg g4])
 have HR := Lib.hid (show RetOwn kU8 5 (fun _ => True) w (xs ++ bVal v) (.returned (.slice A2 n2 cc2)) w2 from ⟨_, rfl, by rw [E1.out, List.append_nil]; exact HO.out.lower B0.size, BW⟩)
 clear g1 g2 g3 g4
 go_wp2_with fail
 go_ret
 exact HR.out
end
end Go.Proofs.YtjnhgfmjehaalaaGreat
