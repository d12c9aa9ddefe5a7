/- Texts that go together. -/
import Derived.Test.YtjnhgfmjehaalaaGreatY7
import Derived.Test.YtjnhgfmjehaalaaGreatP62
import Derived.Test.YtjnhgfmjehaalaaGreatMN
/- The references' contracts, read: they are what the program reads, plain. -/
namespace Go.Proofs.YtjnhgfmjehaalaaGreat
open Go.RowKit
set_option linter.unusedVariables false
set_option linter.unusedSimpArgs false
theorem rInt_err {s : RS} (h : ¬ s.2 = 0) : rInt s = (0, s) := if_pos h
theorem rCount_err {m : Int} {s : RS} (h : ¬ s.2 = 0) : rCount m s = (0, s) := if_pos h
theorem rBytes_err {m : Int} {s : RS} (h : ¬ s.2 = 0) : rBytes m s = ([], s) := by
 unfold rBytes
 rw [rCount_err h]
 exact if_pos h
theorem gVal_ok {s : RS} (h : (gVal s).1.2 = 0) : (gVal s).2.2 = 0 := by
 unfold gVal at h ⊢
 by_cases h1 : (rInt s).2.2 ≠ 0
 ·rw [if_pos h1] at h; exact absurd h h1
 rw [if_neg h1] at h ⊢
 by_cases h2 : (rInt s).1 < 1 ∨ 4 < (rInt s).1
 ·rw [if_pos h2] at h; exact absurd h (show ¬ (12 : Int) = 0 by decide)
 rw [if_neg h2] at h ⊢
 by_cases h3 : (gPart (rInt s).1 (rInt s).2).2.2 ≠ 0
 ·rw [if_pos h3] at h; exact absurd h h3
 rw [if_neg h3]
 exact Decidable.not_not.1 h3
theorem vX_ok {s : RS} {p : Val × RS} (h : vX s = .ok p) : p.2.2 = 0 := by
 unfold vX at h
 by_cases h1 : (rInt s).1 = 0 ∧ (rInt s).2.2 = 0
 ·rw [if_pos h1] at h; injection h with h; subst h; exact h1.2
 rw [if_neg h1] at h
 by_cases h2 : (gVal s).1.2 = 0
 ·rw [if_pos h2] at h; injection h with h; subst h; exact gVal_ok h2
 ·rw [if_neg h2] at h; cases h
theorem gX_ok : ∀ (d : Nat) {N : Int} {s : RS} {q : Exp × Int × RS}, gX d N s = .ok q → q.2.2.2 = 0
 | 0, _, _, _, h => by cases h
 | d + 1, N, s, q, h => by
  rw [gX] at h
  by_cases hN : N ≤ 0
  ·rw [if_pos hN] at h; cases h
  rw [if_neg hN] at h
  unfold gTail at h
  split at h
  ·cases h
  split at h
  ·cases h
  rename_i p hp
  have h0 := vX_ok hp
  have key : ∀ (i : Nat) (y : List Exp × Int × RS), gI (gX d) (N - 1) p.2 i = .ok y → y.2.2.2 = 0 := by
   intro i
   induction i with
   | zero => intro y h; injection h with h; subst h; exact h0
   | succ i ih =>
    intro y h
    rw [gI] at h
    split at h
    ·cases h
    ·split at h
     ·cases h
     ·rename_i q1 h3
      injection h with h
      subst h
      exact gX_ok d h3
  split at h
  ·cases h
  ·rename_i p1 h1
   injection h with h
   subst h
   exact key _ _ h1
theorem gE_ok {s : RS} {p : Exp × RS} (h : gE s = .ok p) : p.2.2 = 0 := by
 unfold gE at h
 split at h
 ·cases h
 ·split at h
  ·cases h
  ·rename_i q hq
   injection h with h
   subst h
   exact gX_ok 6 hq
/-- where the program's source and the reference's reader are as one -/
def SE (S : CS) (s : RS) : Prop := S.2 = s.2 ∧ (s.2 = 0 → S.1 = s)
theorem SE.self (s : RS) : SE (s, s.2) s := ⟨rfl, fun _ => rfl⟩
theorem text_eq (m : Int) {S : CS} {s : RS} (h : SE S s) : (cText m S).1 = (rBytes m s).1 ∧ SE (cText m S).2 (rBytes m s).2 := by
 by_cases he : s.2 = 0
 ·unfold cText
  rw [if_neg (by rw [h.1, he]; simp), h.2 he]
  exact ⟨rfl, SE.self _⟩
 ·rw [rBytes_err he]
  unfold cText
  rw [if_pos (by rw [h.1]; exact he)]
  exact ⟨rfl, h⟩
theorem num_eq {S : CS} {s : RS} (h : SE S s) : (cNum S).1 = (rInt s).1 ∧ SE (cNum S).2 (rInt s).2 := by
 by_cases he : s.2 = 0
 ·unfold cNum
  rw [if_neg (by rw [h.1, he]; simp), h.2 he]
  exact ⟨rfl, SE.self _⟩
 ·rw [rInt_err he]
  unfold cNum
  rw [if_pos (by rw [h.1]; exact he)]
  exact ⟨rfl, h⟩
section
variable {α : Type}
def Two (f : CS → α × CS) (q : RS → α × RS) : Prop := ∀ S s, SE S s → SE (f S).2 (q s).2 ∧ ((q s).2.2 = 0 → (f S).1 = (q s).1)
def Kp (q : RS → α × RS) : Prop := ∀ s : RS, ¬ s.2 = 0 → (q s).2 = s
def KpC (f : CS → α × CS) : Prop := ∀ S : CS, ¬ S.2 = 0 → (f S).2 = S
def TwoE (f : CS → α × CS) (q : RS → Except Int (α × RS)) : Prop := ∀ S s, SE S s → match q s with
 | .ok p => (f S).1 = p.1 ∧ (f S).2 = (p.2, 0) ∧ p.2.2 = 0
 | .error x => x ≠ 0 ∧ (f S).2.2 = x
theorem cN_two {f : CS → α × CS} {q : RS → α × RS} (h : Two f q) (hk : Kp q) {S : CS} {s : RS} (hs : SE S s) : ∀ i, SE (cN f S i).2 (qN q s i).2 ∧ ((qN q s i).2.2 = 0 → (cN f S i).1 = (qN q s i).1)
 | 0 => ⟨hs, fun _ => rfl⟩
 | i + 1 => by
  obtain ⟨h1, h2⟩ := cN_two h hk hs i
  by_cases hc : (cN f S i).2.2 = 0
  ·have e : cN f S (i + 1) = ((cN f S i).1 ++ [(f (cN f S i).2).1], (f (cN f S i).2).2) := by rw [cN, if_neg (by simpa using hc)]
   have hd : (qN q s i).2.2 = 0 := by rw [← h1.1]; exact hc
   obtain ⟨h3, h4⟩ := h _ _ h1
   rw [e]
   refine ⟨h3, fun hq => ?_⟩
   show (cN f S i).1 ++ [(f (cN f S i).2).1] = (qN q s i).1 ++ [(q (qN q s i).2).1]
   rw [h2 hd, h4 hq]
  ·have e : cN f S (i + 1) = cN f S i := by rw [cN, if_pos hc]
   have hd : ¬ (qN q s i).2.2 = 0 := by rw [← h1.1]; exact hc
   have e2 : (qN q s (i + 1)).2 = (qN q s i).2 := hk _ hd
   rw [e, e2]
   exact ⟨h1, fun hq => absurd hq hd⟩
theorem many_two (m : Int) {f : CS → α × CS} {q : RS → α × RS} (h : Two f q) (hk : Kp q) : Two (cMany m f) (fun s => qN q (rCount m s).2 (rCount m s).1) := by
 intro S s hs
 show SE (cMany m f S).2 (qN q (rCount m s).2 (rCount m s).1).2 ∧ ((qN q (rCount m s).2 (rCount m s).1).2.2 = 0 → (cMany m f S).1 = (qN q (rCount m s).2 (rCount m s).1).1)
 by_cases he : s.2 = 0
 ·unfold cMany
  rw [if_neg (by rw [hs.1, he]; simp), hs.2 he]
  exact cN_two h hk (SE.self _) _
 ·rw [rCount_err he]
  unfold cMany
  rw [if_pos (by rw [hs.1]; exact he)]
  exact ⟨hs, fun _ => rfl⟩
theorem cN_twoE {f : CS → α × CS} {q : RS → Except Int (α × RS)} (h : TwoE f q) (hk : KpC f) {S : CS} {s : RS} (hs : SE S s) : ∀ i, match qE q s i with
  | .ok p => SE (cN f S i).2 p.2 ∧ (cN f S i).1 = p.1
  | .error x => x ≠ 0 ∧ (cN f S i).2.2 = x
 | 0 => ⟨hs, rfl⟩
 | i + 1 => by
  have ih := cN_twoE h hk hs i
  cases hq : qE q s i with
  | error x =>
   rw [hq] at ih
   obtain ⟨hx, h1⟩ := ih
   have e : cN f S (i + 1) = cN f S i := by rw [cN, if_pos (by rw [h1]; exact hx)]
   rw [qE_stop hq (i + 1) (Nat.le_succ _), e]
   exact ⟨hx, h1⟩
  | ok p =>
   rw [hq] at ih
   obtain ⟨h1, h2⟩ := ih
   have h3 := h _ _ h1
   by_cases hc : (cN f S i).2.2 = 0
   ·have e : cN f S (i + 1) = ((cN f S i).1 ++ [(f (cN f S i).2).1], (f (cN f S i).2).2) := by rw [cN, if_neg (by simpa using hc)]
    rw [e]
    cases hv : q p.2 with
    | error x =>
     rw [hv] at h3
     rw [qE_bad hq hv]
     exact h3
    | ok v =>
     rw [hv] at h3
     obtain ⟨h4, h5, h6⟩ := h3
     rw [qE_next hq hv]
     refine ⟨?_, ?_⟩
     ·show SE (f (cN f S i).2).2 v.2
      rw [h5]
      exact ⟨h6.symm, fun _ => rfl⟩
     ·show (cN f S i).1 ++ [(f (cN f S i).2).1] = p.1 ++ [v.1]
      rw [h2, h4]
   ·have e : cN f S (i + 1) = cN f S i := by rw [cN, if_pos hc]
    have hkf := hk _ hc
    cases hv : q p.2 with
    | error x =>
     rw [hv] at h3
     rw [qE_bad hq hv, e]
     rw [hkf] at h3
     exact h3
    | ok v =>
     rw [hv] at h3
     obtain ⟨_, h5, _⟩ := h3
     rw [hkf] at h5
     exact absurd (by rw [h5]) hc
end
theorem cText_keep (m : Int) : KpC (cText m) := fun S h => by unfold cText; rw [if_pos h]
theorem cNum_keep : KpC cNum := fun S h => by unfold cNum; rw [if_pos h]
theorem cVal_keep : KpC cVal := fun S h => by unfold cVal; rw [if_pos h]
theorem cExp_keep : KpC cExp := fun S h => by unfold cExp; rw [if_pos h]
theorem cMany_keep {α : Type} (m : Int) (f : CS → α × CS) : KpC (cMany m f) := fun S h => by unfold cMany; rw [if_pos h]
theorem two_text (m : Int) : Two (cText m) (rBytes m) := fun S s h => ⟨(text_eq m h).2, fun _ => (text_eq m h).1⟩
theorem two_num : Two cNum rInt := fun S s h => ⟨(num_eq h).2, fun _ => (num_eq h).1⟩
theorem kp_text (m : Int) : Kp (rBytes m) := fun s h => by rw [rBytes_err h]
theorem kp_num : Kp rInt := fun s h => by rw [rInt_err h]
theorem kp_many {α : Type} (m : Int) (q : RS → α × RS) : Kp (fun s => qN q (rCount m s).2 (rCount m s).1) := fun s h => by show (qN q (rCount m s).2 (rCount m s).1).2 = s; rw [rCount_err h]; rfl
theorem cField_keep : KpC cField := fun S h => by
 unfold cField cFld0 cFld1 cFld2 cFld3
 rw [cText_keep 16 S h, cNum_keep S h, cMany_keep 4 _ S h]
 exact cVal_keep S h
theorem cEffect_keep : KpC cEffect := fun S h => by
 unfold cEffect cEff0 cEff1
 rw [cText_keep 16 S h]
 exact cExp_keep S h
theorem cMove_keep : KpC cMove := fun S h => by
 unfold cMove cMov0 cMov1 cMov2 cMov3 cMov4 cMov5
 rw [cText_keep 16 S h, cNum_keep S h, cNum_keep S h, cNum_keep S h, cExp_keep S h]
 exact cMany_keep 4 _ S h
theorem two_field : TwoE cField qField := by
 intro S s h
 obtain ⟨a1, a2⟩ := text_eq 16 h
 obtain ⟨k1, k2⟩ := num_eq a2
 obtain ⟨l2, l1⟩ := many_two 4 (two_text 32) (kp_text 32) _ _ k2
 unfold qField qFld0 qFld1 qFld2 qFld3 cField cFld0 cFld1 cFld2 cFld3
 simp only at l1 l2
 generalize qN (rBytes 32) (rCount 4 (rInt (rBytes 16 s).2).2).2 (rCount 4 (rInt (rBytes 16 s).2).2).1 = L at *
 generalize cMany 4 (cText 32) (cNum (cText 16 S).2).2 = M at *
 by_cases hl : L.2.2 = 0
 ·rw [if_neg (by simpa using hl)]
  have e : M.2.1 = L.2 := l2.2 hl
  have hm : M.2.2 = 0 := by rw [l2.1]; exact hl
  have ev : cVal M.2 = ((gVal L.2).1.1, ((gVal L.2).2, (gVal L.2).1.2)) := by unfold cVal; rw [if_neg (by simpa using hm), e]
  rw [ev]
  by_cases hv : (gVal L.2).1.2 = 0
  ·rw [if_neg (by simpa using hv)]
   refine ⟨?_, ?_, gVal_ok hv⟩
   ·show (⟨(cText 16 S).1, (cNum (cText 16 S).2).1, M.1, (gVal L.2).1.1⟩ : Fld) = ⟨(rBytes 16 s).1, (rInt (rBytes 16 s).2).1, L.1, (gVal L.2).1.1⟩
    rw [a1, k1, l1 hl]
   ·show ((gVal L.2).2, (gVal L.2).1.2) = ((gVal L.2).2, 0)
    rw [hv]
  ·rw [if_pos hv]
   exact ⟨hv, rfl⟩
 ·rw [if_pos hl]
  refine ⟨hl, ?_⟩
  show (cVal M.2).2.2 = _
  rw [cVal_keep M.2 (by rw [l2.1]; exact hl)]
  exact l2.1
theorem two_stage : Two cStage qStage := by
 intro S s h
 obtain ⟨a1, a2⟩ := text_eq 16 h
 obtain ⟨k1, k2⟩ := num_eq a2
 obtain ⟨l2, l1⟩ := many_two 4 two_num kp_num _ _ k2
 unfold qStage qStg0 qStg1 cStage cStg0 cStg1 cStg2
 simp only at l1 l2
 refine ⟨l2, fun hq => ?_⟩
 show (⟨(cText 16 S).1, (cNum (cText 16 S).2).1, _⟩ : Stg) = ⟨(rBytes 16 s).1, (rInt (rBytes 16 s).2).1, _⟩
 rw [a1, k1, l1 hq]
theorem kp_stage : Kp qStage := fun s h => by
 unfold qStage qStg0 qStg1
 rw [kp_text 16 s h, kp_num s h]
 exact kp_many 4 rInt s h
theorem exp_two {S : CS} {s : RS} (h : SE S s) (h0 : s.2 = 0) : cExp S = match gE s with | .ok p => (p.1, (p.2, 0)) | .error x => (zeroE, (s, x)) := by
 unfold cExp
 rw [if_neg (by rw [h.1, h0]; simp), h.2 h0]
 cases gE s <;> rfl
theorem two_effect : TwoE cEffect qEffect := by
 intro S s h
 obtain ⟨a1, a2⟩ := text_eq 16 h
 unfold qEffect qEff0 cEffect cEff0 cEff1
 by_cases ha : (rBytes 16 s).2.2 = 0
 ·rw [if_neg (by simpa using ha), exp_two a2 ha]
  cases hg : gE (rBytes 16 s).2 with
  | error x => exact ⟨gE_err hg, rfl⟩
  | ok p =>
   refine ⟨?_, rfl, gE_ok hg⟩
   show (⟨(cText 16 S).1, p.1⟩ : Eff) = ⟨(rBytes 16 s).1, p.1⟩
   rw [a1]
 ·rw [if_pos ha]
  refine ⟨ha, ?_⟩
  show (cExp (cText 16 S).2).2.2 = _
  rw [cExp_keep _ (by rw [a2.1]; exact ha)]
  exact a2.1
theorem many_twoE {α : Type} (m : Int) {f : CS → α × CS} {q : RS → Except Int (α × RS)} (h : TwoE f q) (hk : KpC f) {S : CS} {s : RS} (hs : SE S s) : match qE q (rCount m s).2 (rCount m s).1 with
  | .ok p => SE (cMany m f S).2 p.2 ∧ (cMany m f S).1 = p.1
  | .error x => x ≠ 0 ∧ (cMany m f S).2.2 = x := by
 by_cases he : s.2 = 0
 ·unfold cMany
  rw [if_neg (by rw [hs.1, he]; simp), hs.2 he]
  exact cN_twoE h hk (SE.self _) _
 ·rw [rCount_err he]
  unfold cMany
  rw [if_pos (by rw [hs.1]; exact he)]
  exact ⟨hs, rfl⟩
theorem two_move : TwoE cMove qMove := by
 intro S s h
 obtain ⟨a1, a2⟩ := text_eq 16 h
 obtain ⟨k1, k2⟩ := num_eq a2
 obtain ⟨m1, m2⟩ := num_eq k2
 obtain ⟨o1, o2⟩ := num_eq m2
 unfold qMove qMov0 qMov1 qMov2 qMov3 cMove cMov0 cMov1 cMov2 cMov3
 rw [a1, k1, m1, o1]
 generalize rInt (rInt (rInt (rBytes 16 s).2).2).2 = O at *
 generalize cNum (cNum (cNum (cText 16 S).2).2).2 = P at *
 by_cases ho : O.2.2 = 0
 ·rw [if_neg (by simpa using ho), exp_two o2 ho]
  cases hg : gE O.2 with
  | error x =>
   refine ⟨gE_err hg, ?_⟩
   unfold cMov4 cMov5
   show (cMany 4 cEffect (O.2, x)).2.2 = x
   rw [cMany_keep 4 cEffect (O.2, x) (gE_err hg)]
  | ok p =>
   unfold cMov4 cMov5 qMov4 qMov5
   have hp : SE (p.2, 0) p.2 := ⟨(gE_ok hg).symm, fun _ => rfl⟩
   have hm := many_twoE 4 two_effect cEffect_keep hp
   simp only
   cases hq : qE qEffect (rCount 4 p.2).2 (rCount 4 p.2).1 with
   | error x =>
    rw [hq] at hm
    exact hm
   | ok l =>
    rw [hq] at hm
    obtain ⟨h1, h2⟩ := hm
    simp only
    by_cases hl : l.2.2 = 0
    ·rw [if_neg (by simpa using hl)]
     refine ⟨?_, ?_, hl⟩
     ·show (⟨_, _, _, _, (cMany 4 cEffect (p.2, 0)).1, _⟩ : Mov) = ⟨_, _, _, _, l.1, _⟩
      rw [h2]
     ·show (cMany 4 cEffect (p.2, 0)).2 = (l.2, 0)
      exact Prod.ext (h1.2 hl) (by rw [h1.1]; exact hl)
    ·rw [if_pos hl]
     exact ⟨hl, h1.1⟩
 ·rw [if_pos ho]
  refine ⟨ho, ?_⟩
  unfold cMov4 cMov5
  show (cMany 4 cEffect (cExp P.2).2).2.2 = _
  have hP : ¬ P.2.2 = 0 := by rw [o2.1]; exact ho
  rw [cExp_keep _ hP, cMany_keep 4 cEffect _ hP]
  exact o2.1
theorem two_con : TwoE cCon qCon := by
 intro S s h
 obtain ⟨a1, a2⟩ := text_eq 16 h
 unfold qCon qParts cCon cCon0
 rw [a1]
 generalize rBytes 16 s = A at *
 generalize cText 16 S = B at *
 have hf := many_twoE 6 two_field cField_keep a2
 cases hq : qE qField (rCount 6 A.2).2 (rCount 6 A.2).1 with
 | error x =>
  rw [hq] at hf
  unfold qPar0 cCon1 cCon2 cCon3
  refine ⟨hf.1, ?_⟩
  show (cMany 8 cMove (cMany 6 cStage (cMany 6 cField B.2).2).2).2.2 = x
  have hP : ¬ (cMany 6 cField B.2).2.2 = 0 := by rw [hf.2]; exact hf.1
  rw [cMany_keep 6 cStage _ hP, cMany_keep 8 cMove _ hP]
  exact hf.2
 | ok f =>
  rw [hq] at hf
  obtain ⟨f1, f2⟩ := hf
  obtain ⟨t2, t1⟩ := many_two 6 two_stage kp_stage _ _ f1
  simp only at t1 t2
  have hm := many_twoE 8 two_move cMove_keep t2
  unfold qPar0 qPar1 qPar2 qPar3 qPar4 cCon1 cCon2 cCon3
  simp only
  generalize qN qStage (rCount 6 f.2).2 (rCount 6 f.2).1 = T at *
  cases hv : qE qMove (rCount 8 T.2).2 (rCount 8 T.2).1 with
  | error x =>
   rw [hv] at hm
   exact hm
  | ok l =>
   rw [hv] at hm
   obtain ⟨h1, h2⟩ := hm
   simp only
   by_cases hl : l.2.2 = 0
   ·rw [if_neg (by simpa using hl)]
    have hT : T.2.2 = 0 := by
     refine Decidable.byContradiction fun hn => ?_
     rw [rCount_err hn] at hv
     injection hv with hv
     subst hv
     exact hn hl
    refine ⟨?_, ?_, hl⟩
    ·show (⟨_, (cMany 6 cField B.2).1, (cMany 6 cStage (cMany 6 cField B.2).2).1, (cMany 8 cMove (cMany 6 cStage (cMany 6 cField B.2).2).2).1⟩ : Con) = ⟨_, f.1, T.1, l.1⟩
     rw [h2, t1 hT, f2]
    ·show (cMany 8 cMove (cMany 6 cStage (cMany 6 cField B.2).2).2).2 = (l.2, 0)
     exact Prod.ext (h1.2 hl) (by rw [h1.1]; exact hl)
   ·rw [if_pos hl]
    exact ⟨hl, h1.1⟩
end Go.Proofs.YtjnhgfmjehaalaaGreat
/- What is read is of the machine's numbers. -/
namespace Go.Proofs.YtjnhgfmjehaalaaGreat
open Go.RowKit
set_option linter.unusedVariables false
set_option linter.unusedSimpArgs false
theorem i64_zero : i64 0 := by unfold i64; omega
theorem rInt_I (s : RS) : i64 (rInt s).1 := by
 unfold rInt
 by_cases h1 : s.2 ≠ 0
 ·rw [if_pos h1]; exact i64_zero
 rw [if_neg h1]
 by_cases h2 : s.1.length < 8
 ·rw [if_pos h2]; exact i64_zero
 rw [if_neg h2]
 exact s64_i64 _
theorem rNum_I (s : RS) : (rNum s).1 < 2 ^ 64 := by
 unfold rNum
 by_cases h1 : s.2 ≠ 0
 ·rw [if_pos h1]; exact (by decide : (0 : Nat) < 2 ^ 64)
 rw [if_neg h1]
 by_cases h2 : s.1.length < 8
 ·rw [if_pos h2]; exact (by decide : (0 : Nat) < 2 ^ 64)
 rw [if_neg h2]
 by_cases h3 : floatE (s.1.take 8) = 12
 ·rw [if_pos h3]; exact (by decide : (0 : Nat) < 2 ^ 64)
 rw [if_neg h3]
 have h := num_lt (s.1.take 8)
 rw [List.length_take, Nat.min_eq_left (by omega)] at h
 exact Nat.lt_of_lt_of_le h (by decide)
theorem zeroV_I : ValI zeroV := ⟨i64_zero, i64_zero, by decide⟩
theorem gVal_I (s : RS) : ValI (gVal s).1.1 := by
 unfold gVal
 by_cases h1 : (rInt s).2.2 ≠ 0
 ·rw [if_pos h1]; exact zeroV_I
 rw [if_neg h1]
 by_cases h2 : (rInt s).1 < 1 ∨ 4 < (rInt s).1
 ·rw [if_pos h2]; exact zeroV_I
 rw [if_neg h2]
 by_cases h3 : (gPart (rInt s).1 (rInt s).2).2.2 ≠ 0
 ·rw [if_pos h3]; exact zeroV_I
 rw [if_neg h3]
 show ValI (gPart (rInt s).1 (rInt s).2).1
 unfold gPart
 have i1 : i64 1 := by unfold i64; omega
 have i2 : i64 2 := by unfold i64; omega
 have i3 : i64 3 := by unfold i64; omega
 have i4 : i64 4 := by unfold i64; omega
 split
 ·exact ⟨i1, rInt_I _, by show 0 < 2 ^ 64; decide⟩
 ·split
  ·exact ⟨i2, i64_zero, by show 0 < 2 ^ 64; decide⟩
  ·split
   ·exact ⟨i3, i64_zero, by show 0 < 2 ^ 64; decide⟩
   ·exact ⟨i4, i64_zero, rNum_I _⟩
theorem vX_I {s : RS} {p : Val × RS} (h : vX s = .ok p) : ValI p.1 := by
 unfold vX at h
 by_cases h1 : (rInt s).1 = 0 ∧ (rInt s).2.2 = 0
 ·rw [if_pos h1] at h; injection h with h; subst h; exact zeroV_I
 rw [if_neg h1] at h
 by_cases h2 : (gVal s).1.2 = 0
 ·rw [if_pos h2] at h; injection h with h; subst h; exact gVal_I s
 ·rw [if_neg h2] at h; cases h
theorem gX_I : ∀ (d : Nat) {N : Int} {s : RS} {q : Exp × Int × RS}, gX d N s = .ok q → ExpI q.1
 | 0, _, _, _, h => by cases h
 | d + 1, N, s, q, h => by
  rw [gX] at h
  by_cases hN : N ≤ 0
  ·rw [if_pos hN] at h; cases h
  rw [if_neg hN] at h
  unfold gTail at h
  split at h
  ·cases h
  split at h
  ·cases h
  rename_i p hp
  have h0 := vX_I hp
  have key : ∀ (i : Nat) (y : List Exp × Int × RS), gI (gX d) (N - 1) p.2 i = .ok y → ∀ k ∈ y.1, ExpI k := by
   intro i
   induction i with
   | zero => intro y h; injection h with h; subst h; intro k hk; cases hk
   | succ i ih =>
    intro y h
    rw [gI] at h
    split at h
    ·cases h
    ·rename_i y1 hy1
     split at h
     ·cases h
     ·rename_i q1 h3
      injection h with h
      subst h
      intro k hk
      rcases List.mem_append.1 hk with hk | hk
      ·exact ih _ hy1 k hk
      ·rw [List.mem_singleton] at hk
       subst hk
       exact gX_I d h3
  split at h
  ·cases h
  ·rename_i p1 h1
   injection h with h
   subst h
   exact .mk (rInt_I s) (key _ _ h1) h0
theorem gE_I {s : RS} {p : Exp × RS} (h : gE s = .ok p) : ExpI p.1 := by
 unfold gE at h
 split at h
 ·cases h
 ·split at h
  ·cases h
  ·rename_i q hq
   injection h with h
   subst h
   exact gX_I 6 hq
section
variable {α : Type} {P : α → Prop}
theorem qN_I {f : RS → α × RS} (h : ∀ s, P (f s).1) (s : RS) : ∀ i, ∀ x ∈ (qN f s i).1, P x
 | 0, x, hx => by cases hx
 | i + 1, x, hx => by
  rcases List.mem_append.1 hx with hx | hx
  ·exact qN_I h s i x hx
  ·rw [List.mem_singleton] at hx
   subst hx
   exact h _
theorem qE_I {f : RS → Except Int (α × RS)} (h : ∀ s p, f s = .ok p → P p.1) {s : RS} : ∀ {i : Nat} {p : List α × RS}, qE f s i = .ok p → ∀ x ∈ p.1, P x
 | 0, p, e => by injection e with e; subst e; intro x hx; cases hx
 | i + 1, p, e => by
  rw [qE] at e
  split at e
  ·cases e
  ·rename_i p1 h1
   have h2 := qE_I h h1
   split at e
   ·cases e
   ·rename_i q h3
    injection e with e
    subst e
    intro x hx
    rcases List.mem_append.1 hx with hx | hx
    ·exact h2 x hx
    ·rw [List.mem_singleton] at hx
     subst hx
     exact h _ _ h3
end
theorem qField_I {s : RS} {p : Fld × RS} (h : qField s = .ok p) : i64 p.1.kind ∧ ValI p.1.init := by
 unfold qField qFld0 qFld1 qFld2 qFld3 at h
 split at h
 ·cases h
 ·split at h
  ·cases h
  ·injection h with h
   subst h
   exact ⟨rInt_I _, gVal_I _⟩
theorem qStage_I (s : RS) : StgI (qStage s).1 := ⟨rInt_I _, qN_I (P := i64) rInt_I _ _⟩
theorem qEffect_I {s : RS} {p : Eff × RS} (h : qEffect s = .ok p) : ExpI p.1.expr := by
 unfold qEffect qEff0 at h
 split at h
 ·cases h
 ·split at h
  ·cases h
  ·rename_i q hq
   injection h with h
   subst h
   exact gE_I hq
theorem qMove_I {s : RS} {p : Mov × RS} (h : qMove s = .ok p) : MovI p.1 := by
 unfold qMove qMov0 qMov1 qMov2 qMov3 at h
 split at h
 ·cases h
 ·split at h
  ·cases h
  ·rename_i q hq
   unfold qMov4 qMov5 at h
   split at h
   ·cases h
   ·rename_i l hl
    split at h
    ·cases h
    ·injection h with h
     subst h
     exact ⟨rInt_I _, rInt_I _, gE_I hq, qE_I (P := fun e : Eff => ExpI e.expr) (fun _ _ h => qEffect_I h) hl, rInt_I _⟩
theorem qCon_I {s : RS} {p : Con × RS} (h : qCon s = .ok p) : ConI p.1 := by
 unfold qCon qParts qPar0 at h
 split at h
 ·cases h
 ·rename_i f hf
  unfold qPar1 qPar2 qPar3 qPar4 at h
  split at h
  ·cases h
  ·rename_i m hm
   split at h
   ·cases h
   ·injection h with h
    subst h
    exact ⟨qE_I (P := fun f : Fld => i64 f.kind ∧ ValI f.init) (fun _ _ h => qField_I h) hf, qN_I (P := StgI) qStage_I _ _, qE_I (P := MovI) (fun _ _ h => qMove_I h) hm⟩
end Go.Proofs.YtjnhgfmjehaalaaGreat
