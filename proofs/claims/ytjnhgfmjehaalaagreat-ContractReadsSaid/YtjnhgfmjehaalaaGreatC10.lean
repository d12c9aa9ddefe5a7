/- Chapter 6: the reference's stages. -/
import Derived.Test.YtjnhgfmjehaalaaGreatMG
import Derived.IntWalk
namespace Go.Proofs.YtjnhgfmjehaalaaGreat
open Go.RowKit
set_option linter.unusedVariables false
set_option linter.unusedSimpArgs false
def pOrg (l : List Int) (k : Nat) (o : Int) : Bool := decide (0 ≤ o) && decide (o < 4) && (k == 0 || decide (l.getD (k - 1) 0 < o))
def hStage (c : Con) (i : Nat) (s : Stg) : Bool := named s.name && (idx (fun e => e.name == s.name) c.stages == (i : Int)) && decide ((s.orgs.length : Int) ≤ 4) && decide (0 ≤ s.need) && decide (s.need ≤ (s.orgs.length : Int))
def pStage (c : Con) (i : Nat) (s : Stg) : Bool := hStage c i s && allI (pOrg s.orgs) s.orgs
def stagesR (c : Con) : Bool := (decide (1 ≤ (c.stages.length : Int)) && decide ((c.stages.length : Int) ≤ 6)) && allI (pStage c) c.stages
section
variable {w : World}
set_option maxRecDepth 20000 in
set_option maxHeartbeats 2000000 in
theorem rstages_c {A B D : Option Addr} {a b d : Nat} {c : Con} (h : Sl kStg (fun _ => True) w (.slice B c.stages.length b) c.stages) : Calls Tryz.prog 63 #[.agg #[.string ⟨c.name.toArray⟩, .slice A c.fields.length a, .slice B c.stages.length b, .slice D c.moves.length d]] w (Ret w (.bool (stagesR c))) := by
 have HS := hidS h
 have E := Lib.hid (show stagesR c = ((decide (1 ≤ (c.stages.length : Int)) && decide ((c.stages.length : Int) ≤ 6)) && allI (pStage c) c.stages) from rfl)
 have hmax := h.len.2.2.1
 have hnc := h.len.2.1
 generalize stagesR c = r at *
 clear h
 have hL := Loc1.new w 26 #[.string ⟨c.name.toArray⟩, .slice A c.fields.length a, .slice B c.stages.length b, .slice D c.moves.length d]
 have B0 : Below w.heap.size w (w.alloc (.cells #[.string ⟨c.name.toArray⟩, .slice A c.fields.length a, .slice B c.stages.length b, .slice D c.moves.length d] 26)) := bW
 have KK := kk4 hL
 clear hL
 by_cases hN : 1 ≤ (c.stages.length : Int) ∧ (c.stages.length : Int) ≤ 6
 rotate_left
 ·have E1 := Lib.hid (show r = false by rw [E.out, show (decide (1 ≤ (c.stages.length : Int)) && decide ((c.stages.length : Int) ≤ 6)) = false by rw [← Bool.decide_and]; exact decide_eq_false hN]; rfl)
  go_enter Tryz.func63, Tryz.ntmps63
  go_wp2_with fail
  all_goals first
   | (go_ret; rw [E1.out]; exact ⟨rfl, bW⟩)
   | (exfalso; omega)
 replace E := Lib.hid (show r = allI (pStage c) c.stages by rw [E.out, decide_eq_true hN.1, decide_eq_true hN.2]; rfl)
 obtain ⟨hN1, hN2⟩ := hN
 go_enter Tryz.func63, Tryz.ntmps63
 go_wp2_with fail
 clear hN1 hN2
 go_loopw [3] (fun x3 wr => ∃ k : Nat, k ≤ c.stages.length ∧ x3 = .int .i64 k ∧ (∀ j e, j < k → c.stages[j]? = some e → pStage c j e = true) ∧ Below (w.alloc (.cells #[.string ⟨c.name.toArray⟩, .slice A c.fields.length a, .slice B c.stages.length b, .slice D c.moves.length d] 26)).heap.size (w.alloc (.cells #[.string ⟨c.name.toArray⟩, .slice A c.fields.length a, .slice B c.stages.length b, .slice D c.moves.length d] 26)) wr) (fun x3 _ => c.stages.length - (intOf x3).toNat)
 case atStart => exact ⟨0, Nat.zero_le _, rfl, allI_nil, Below.refl _ _⟩
 case round =>
  obtain ⟨k, hk, rfl, hp, hb⟩ := hrel
  have HP := Lib.hid hp
  clear hp
  obtain ⟨⟨c0, c1, c2, c3⟩, hz⟩ := KK.out wr bW
  by_cases hlt : k < c.stages.length
  rotate_left
  ·have E1 := Lib.hid (E.out.trans (allI_yes (n := k) (by omega) HP.out))
   go_wp2_with fail
   go_ret
   rw [E1.out]
   exact ⟨rfl, bW⟩
  obtain ⟨ad, s, X, y, rfl, he, hs, q0, q1, q2⟩ := stg_at (HS.out wr bW) hlt
  have HE := Lib.hid he
  have HX := hidS hs
  have hmx := hs.len.2.2.1
  have hnx := hs.len.2.1
  clear he hs
  go_upto_region 7 with (fail)
  have LX := Loc1.new wr 68 #[.string ⟨s.name.toArray⟩, .int .i64 s.need, .slice X s.orgs.length y]
  have hb0 : Below wr.heap.size wr (wr.alloc (.cells #[.string ⟨s.name.toArray⟩, .int .i64 s.need, .slice X s.orgs.length y] 68)) := bW
  generalize (wr.alloc (.cells #[.string ⟨s.name.toArray⟩, .int .i64 s.need, .slice X s.orgs.length y] 68)) = w5 at *
  have KX := kk3 LX
  have HPF := Lib.hid (show hStage c k s = (named s.name && (idx (fun e => e.name == s.name) c.stages == (k : Int)) && decide ((s.orgs.length : Int) ≤ 4) && decide (0 ≤ s.need) && decide (s.need ≤ (s.orgs.length : Int))) from rfl)
  have HPS := Lib.hid (show pStage c k s = (hStage c k s && allI (pOrg s.orgs) s.orgs) from rfl)
  have E0 := Lib.hid (show pStage c k s = false → r = false from fun h => E.out.trans (allI_no HE.out h))
  have E1 := Lib.hid (show pStage c k s = true → ∀ j e, j < k + 1 → c.stages[j]? = some e → pStage c j e = true from fun h => allI_step HP.out HE.out h)
  clear q0 q1 q2 c0 c1 c2 c3 hz LX E HE HP
  obtain ⟨⟨c0, c1, c2, c3⟩, hz⟩ := KK.out w5 bW; obtain ⟨⟨q0, q1, q2⟩, hzx⟩ := KX.out w5 bW
  cases hH : hStage c k s
  ·have E2 := Lib.hid (E0.out (by rw [HPS.out, hH]; rfl))
   rw [hH] at HPF
   clear hH
   cases hix : (idx (fun e => e.name == s.name) c.stages != (k : Int))
   all_goals have hix' : (idx (fun e => e.name == s.name) c.stages == (k : Int)) = !(idx (fun e => e.name == s.name) c.stages != (k : Int)) := by simp [bne]
   all_goals rw [hix] at hix'
   all_goals go_wp2_with (first
    | (go_at_call 61; refine (rname_c _).mono ?_; rintro x9 wz ⟨rfl, hb⟩; obtain ⟨⟨c0, c1, c2, c3⟩, hz⟩ := KK.out wz bW; obtain ⟨⟨q0, q1, q2⟩, hzx⟩ := KX.out wz bW)
    | (go_at_call 109; refine (rstage_c (n := 0) s.name (HS.out _ bW)).mono ?_; rintro x9 wz ⟨rfl, hb⟩; obtain ⟨⟨c0, c1, c2, c3⟩, hz⟩ := KK.out wz bW; obtain ⟨⟨q0, q1, q2⟩, hzx⟩ := KX.out wz bW))
   all_goals first
    | (go_ret; rw [E2.out]; exact ⟨rfl, bW⟩)
    | (exfalso; have h9 := HPF.out; simp [*] at h9; done)
    | (exfalso; have h9 := HPF.out; clear HS HX KK KX; simp_all; omega)
  rw [hH] at HPF
  have g1 : named s.name = true := by have h := HPF.out.symm; simp only [Bool.and_eq_true] at h; exact h.1.1.1.1
  have g2 : (idx (fun e => e.name == s.name) c.stages != (k : Int)) = false := by have h := HPF.out.symm; simp only [Bool.and_eq_true] at h; simpa [bne] using h.1.1.1.2
  have g3 : (s.orgs.length : Int) ≤ 4 := by have h := HPF.out.symm; simp only [Bool.and_eq_true, decide_eq_true_eq] at h; exact h.1.1.2
  have g4 : 0 ≤ s.need := by have h := HPF.out.symm; simp only [Bool.and_eq_true, decide_eq_true_eq] at h; exact h.1.2
  have g5 : s.need ≤ (s.orgs.length : Int) := by have h := HPF.out.symm; simp only [Bool.and_eq_true, decide_eq_true_eq] at h; exact h.2
  replace HPS := Lib.hid (show pStage c k s = allI (pOrg s.orgs) s.orgs by rw [HPS.out, hH]; rfl)
  clear hH HPF
  go_wp2_with (first
   | (go_at_call 61; refine (rname_c _).mono ?_; rintro x9 wz ⟨rfl, hb⟩; obtain ⟨⟨c0, c1, c2, c3⟩, hz⟩ := KK.out wz bW; obtain ⟨⟨q0, q1, q2⟩, hzx⟩ := KX.out wz bW)
   | (go_at_call 109; refine (rstage_c (n := 0) s.name (HS.out _ bW)).mono ?_; rintro x9 w6 ⟨rfl, hb⟩; obtain ⟨⟨c0, c1, c2, c3⟩, hz⟩ := KK.out w6 bW; obtain ⟨⟨q0, q1, q2⟩, hzx⟩ := KX.out w6 bW))
  clear g1 g2 g3 g4 g5
  clear q0 q1 q2 c0 c1 c2 c3 hz hzx
  go_loopw [5] (fun x5 wy => ∃ i : Nat, i ≤ s.orgs.length ∧ x5 = .int .i64 i ∧ (∀ j o, j < i → s.orgs[j]? = some o → pOrg s.orgs j o = true) ∧ Below w6.heap.size w6 wy) (fun x5 _ => s.orgs.length - (intOf x5).toNat)
  case atStart => exact ⟨0, Nat.zero_le _, rfl, allI_nil, Below.refl _ _⟩
  case round =>
   obtain ⟨i, hi, rfl, hq, hbx⟩ := hrel
   have HQ := Lib.hid hq
   clear hq
   obtain ⟨⟨c0, c1, c2, c3⟩, hz⟩ := KK.out wr bW; obtain ⟨⟨q0, q1, q2⟩, hzx⟩ := KX.out wr bW
   by_cases hli : i < s.orgs.length
   rotate_left
   ·have HM := Lib.hid (E1.out (by rw [HPS.out]; exact allI_yes (n := i) (by omega) HQ.out))
    go_wp2_with fail
    go_roundw
    case rel => exact ⟨k + 1, by omega, by go_num, HM.out, bW⟩
    case measure => simp [intOf]; omega
   obtain ⟨adO, o, rfl, ho, co⟩ := int_at (HX.out wr bW) hli
   have HO := Lib.hid ho
   clear ho
   have HPO := Lib.hid (show pOrg s.orgs i o = (decide (0 ≤ o) && decide (o < 4) && (i == 0 || decide (s.orgs.getD (i - 1) 0 < o))) from rfl)
   have hi1 : (0 : Int) ≤ (i : Int) := by omega
   have hi2 : (i : Int) < (s.orgs.length : Int) := by omega
   by_cases o1 : o < 0
   ·have E2 := Lib.hid (E0.out (by rw [HPS.out]; exact allI_no HO.out (by rw [HPO.out, decide_eq_false (show ¬ 0 ≤ o by omega)]; rfl)))
    have o1' : decide (o < 0) = true := decide_eq_true o1
    go_wp2_with fail
    go_quiet ((fail))
    go_wp2_with fail
    go_ret
    rw [E2.out]
    exact ⟨rfl, bW⟩
   have o1' : decide (o < 0) = false := decide_eq_false o1
   by_cases o2 : 4 ≤ o
   ·have E2 := Lib.hid (E0.out (by rw [HPS.out]; exact allI_no HO.out (by rw [HPO.out, decide_eq_false (show ¬ o < 4 by omega), Bool.and_false]; rfl)))
    have o2' : decide (4 ≤ o) = true := decide_eq_true o2
    go_wp2_with fail
    go_quiet ((fail))
    go_wp2_with fail
    go_ret
    rw [E2.out]
    exact ⟨rfl, bW⟩
   have o2' : decide (4 ≤ o) = false := decide_eq_false o2
   by_cases hi0 : i = 0
   ·have HM := Lib.hid (show pOrg s.orgs i o = true by rw [HPO.out, decide_eq_true (show 0 ≤ o by omega), decide_eq_true (show o < 4 by omega), hi0]; rfl)
    have HS2 := Lib.hid (allI_step HQ.out HO.out HM.out)
    have hi3 : decide (0 < (i : Int)) = false := decide_eq_false (by omega)
    have hi4 : decide (0 < i) = false := decide_eq_false (by omega)
    clear hi0
    go_wp2_with fail
    go_quiet ((fail))
    go_wp2_with fail
    go_roundw
    case rel => exact ⟨i + 1, by omega, by go_num, HS2.out, bW⟩
    case measure => simp [intOf]; omega
   obtain ⟨m, hm⟩ : ∃ m, i = m + 1 := ⟨i - 1, by omega⟩
   obtain ⟨ad2, p, ea, hp, cp⟩ := int_at (HX.out wr bW) (show m < s.orgs.length by omega)
   injection ea with ea
   subst ea
   have hgd : s.orgs.getD (i - 1) 0 = p := by rw [hm, show m + 1 - 1 = m by omega, List.getD_eq_getElem?_getD, hp]; rfl
   rw [hgd] at HPO
   have hi3 : decide (0 < (i : Int)) = true := decide_eq_true (by omega)
   have hi4 : 0 < i := by omega
   have s1 : IntKind.i64.wrap ((i : Int) - 1) = (m : Int) := by rw [IntWalk.i64_in _ (by omega)]; omega
   have s2 : (0 : Int) ≤ (m : Int) := by omega
   have s3 : (m : Int) < (s.orgs.length : Int) := by omega
   have HI0 := Lib.hid hi0
   clear hgd hp hm hi0
   by_cases o3 : o ≤ p
   ·have E2 := Lib.hid (E0.out (by rw [HPS.out]; exact allI_no HO.out (by rw [HPO.out, decide_eq_false (show ¬ p < o by omega)]; simp; intros; exact HI0.out)))
    have o3' : decide (o ≤ p) = true := decide_eq_true o3
    go_wp2_with fail
    go_quiet ((fail))
    go_wp2_with fail
    go_ret
    rw [E2.out]
    exact ⟨rfl, bW⟩
   have o3' : decide (o ≤ p) = false := decide_eq_false o3
   have HM := Lib.hid (show pOrg s.orgs i o = true by rw [HPO.out, decide_eq_true (show 0 ≤ o by omega), decide_eq_true (show o < 4 by omega), decide_eq_true (show p < o by omega)]; simp)
   have HS2 := Lib.hid (allI_step HQ.out HO.out HM.out)
   go_wp2_with fail
   go_quiet ((fail))
   go_wp2_with fail
   clear s1 s2 s3
   go_roundw
   case rel => exact ⟨i + 1, by omega, by go_num, HS2.out, bW⟩
   case measure => simp [intOf]; omega
end
end Go.Proofs.YtjnhgfmjehaalaaGreat
