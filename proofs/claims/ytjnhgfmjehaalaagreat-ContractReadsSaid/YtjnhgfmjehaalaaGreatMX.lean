/- Texts that go together. -/
import Derived.Test.YtjnhgfmjehaalaaGreatY8
import Derived.Test.YtjnhgfmjehaalaaGreatMJ
/- The references' contracts, read: the parts. -/
namespace Go.Proofs.YtjnhgfmjehaalaaGreat
open Go.RowKit
set_option linter.unusedVariables false
set_option linter.unusedSimpArgs false
section
variable {ok : Nat → Prop} {w : World} {g : Nat}
theorem own_bound {α : Type} {d : Kd α} {e : TypeId} {w : World} {B : Nat} {v : Value} {xs : List α} (h : Own d e ok w B v xs) : Own d e (fun k => ok k ∧ k < w.heap.size) w B v xs := by
 obtain ⟨cs, h1, h3⟩ := h
 exact ⟨cs, h1, (h3.move fun _ _ _ => rfl).weak fun k hk => ⟨⟨hk.1.1, hk.2⟩, hk.1.2⟩⟩
theorem own_farP {α : Type} {d : Kd α} {e : TypeId} {w w' : World} {B : Nat} {v : Value} {xs : List α} (h : Own d e ok w B v xs) (hk : ∀ k, ok k → k ≠ g) (hg : g < B) (x : Ext (fun k => k ≠ g) w w') : Own d e ok w' B v xs :=
 h.ext (x.weak fun k _ h2 => by
  rcases h2 with h2 | h2
  ·exact hk k h2
  ·have := (h.lt k h2.symm).1
   omega)
theorem own_off {α : Type} {d : Kd α} {e : TypeId} {w w' : World} {B b : Nat} {v : Value} {xs : List α} (h : Own d e ok w B v xs) (hk : ∀ k, ok k → k ≠ b) (hv : ∀ k, v.ownBlock = some k → k ≠ b) (x : Ext (fun k => k ≠ b) w w') : Own d e ok w' B v xs :=
 h.ext (x.weak fun k _ h2 => by
  rcases h2 with h2 | h2
  ·exact hk k h2
  ·exact hv k h2.symm)
theorem own_under {α : Type} {d : Kd α} {e : TypeId} {w w' : World} {B C : Nat} {v : Value} {xs : List α} (h : Own d e ok w B v xs) (hk : ∀ k, ok k → k < C) (hv : ∀ k, v.ownBlock = some k → k < C) (x : Ext (fun k => k < C) w w') : Own d e ok w' B v xs :=
 h.ext (x.weak fun k _ h2 => by
  rcases h2 with h2 | h2
  ·exact hk k h2
  ·exact hv k h2.symm)
/-- what parts answers -/
def RetPq (ok : Nat → Prop) (g : Nat) (w : World) (r : Except Int (Con × RS)) (e : Ending) (w' : World) : Prop :=
 (match r with
   | .ok p => ∃ cs : List Value, e = .returned (.tuple #[.agg cs.toArray, .int .i64 0]) ∧ (kCon 6).R (fun k => w.heap.size ≤ k) w' cs p.1 ∧ RdQ ok g w' p.2.1 p.2.2
   | .error x => x ≠ 0 ∧ ∃ (n : List UInt8) (A B D : Option Addr) (a a' b b' d d' : Nat), e = .returned (.tuple #[.agg #[.string ⟨n.toArray⟩, .slice A a a', .slice B b b', .slice D d d'], .int .i64 x])) ∧ Ext (fun k => k ≠ g) w w'
def QP1 (ok : Nat → Prop) (w : World) (g : Nat) (nm : List UInt8) (s1 : RS) (n B : Nat) (v7 : Value) (W : World) : Prop :=
 ∃ (i : Nat) (l : List Fld) (s : RS) (kf : Value), i ≤ n ∧ v7 = .int .i64 (i : Int) ∧ qE qField s1 i = .ok (l, s) ∧ Loc1 w.heap.size 26 #[.string ⟨nm.toArray⟩, kf, .slice none 0 0, .slice none 0 0] W ∧ QL ok w g s W ∧ Loc1 (w.heap.size + 1) 26 #[.string ⟨#[]⟩, .slice none 0 0, .slice none 0 0, .slice none 0 0] W ∧ Own kFld 41 (fun k => B ≤ k) W B kf l ∧ B ≤ W.heap.size
def QP2 (ok : Nat → Prop) (w : World) (g : Nat) (nm : List UInt8) (fl : List Fld) (Af : Option Addr) (cf : Nat) (s2 : RS) (n B : Nat) (v10 : Value) (W : World) : Prop :=
 ∃ (i : Nat) (ks : Value), i ≤ n ∧ v10 = .int .i64 (i : Int) ∧ Loc1 w.heap.size 26 #[.string ⟨nm.toArray⟩, .slice Af fl.length cf, ks, .slice none 0 0] W ∧ QL ok w g (qN qStage s2 i).2 W ∧ Loc1 (w.heap.size + 1) 26 #[.string ⟨#[]⟩, .slice none 0 0, .slice none 0 0, .slice none 0 0] W ∧ Own kStg 68 (fun k => B ≤ k) W B ks (qN qStage s2 i).1 ∧ B ≤ W.heap.size ∧
  Sl kFld (fun k => w.heap.size + 1 < k ∧ k < B) W (.slice Af fl.length cf) fl
def QS1 (ok : Nat → Prop) (w : World) (g : Nat) (Z : Nat) (cc : Array Value) (en : List UInt8) (k : Int) (s : RS) (fl : List Fld) (sg : List Stg) (Af As : Option Addr) (cf cs BS : Nat) (v11 : Value) (W : World) : Prop :=
 ∃ sb, v11 = .pointer (some ⟨sb, 0, none⟩) ∧ Z ≤ sb ∧ Loc1 sb 68 #[.string ⟨en.toArray⟩, .int .i64 k, .slice none 0 0] W ∧ Loc1 w.heap.size 26 cc W ∧ QL ok w g s W ∧ Loc1 (w.heap.size + 1) 26 #[.string ⟨#[]⟩, .slice none 0 0, .slice none 0 0, .slice none 0 0] W ∧ Own kStg 68 (fun k => BS ≤ k ∧ k < Z) W BS (.slice As sg.length cs) sg ∧ Sl kFld (fun k => w.heap.size + 1 < k ∧ k < BS) W (.slice Af fl.length cf) fl
def QS2 (ok : Nat → Prop) (w : World) (g : Nat) (Z : Nat) (cc : Array Value) (en : List UInt8) (k : Int) (s : RS) (n sb B' : Nat) (fl : List Fld) (sg : List Stg) (Af As : Option Addr) (cf cs BS : Nat) (v13 : Value) (W : World) : Prop :=
 ∃ (j : Nat) (kv : Value), j ≤ n ∧ v13 = .int .i64 (j : Int) ∧ Loc1 sb 68 #[.string ⟨en.toArray⟩, .int .i64 k, kv] W ∧ Loc1 w.heap.size 26 cc W ∧ QL ok w g (qN rInt s j).2 W ∧ Loc1 (w.heap.size + 1) 26 #[.string ⟨#[]⟩, .slice none 0 0, .slice none 0 0, .slice none 0 0] W ∧ Own kStg 68 (fun k => BS ≤ k ∧ k < Z) W BS (.slice As sg.length cs) sg ∧ Sl kFld (fun k => w.heap.size + 1 < k ∧ k < BS) W (.slice Af fl.length cf) fl ∧
  Own kI 3 (fun k => B' ≤ k) W B' kv (qN rInt s j).1 ∧ B' ≤ W.heap.size
def QP3 (ok : Nat → Prop) (w : World) (g : Nat) (nm : List UInt8) (fl : List Fld) (sg : List Stg) (Af As : Option Addr) (cf cs : Nat) (s3 : RS) (n B : Nat) (v14 : Value) (W : World) : Prop :=
 ∃ (i : Nat) (l : List Mov) (s : RS) (km : Value), i ≤ n ∧ v14 = .int .i64 (i : Int) ∧ qE qMove s3 i = .ok (l, s) ∧ Loc1 w.heap.size 26 #[.string ⟨nm.toArray⟩, .slice Af fl.length cf, .slice As sg.length cs, km] W ∧ QL ok w g s W ∧ Loc1 (w.heap.size + 1) 26 #[.string ⟨#[]⟩, .slice none 0 0, .slice none 0 0, .slice none 0 0] W ∧ Own (kMov 6) 47 (fun k => B ≤ k) W B km l ∧ B ≤ W.heap.size ∧
  Sl kFld (fun k => w.heap.size + 1 < k ∧ k < B) W (.slice Af fl.length cf) fl ∧ Sl kStg (fun k => w.heap.size + 1 < k ∧ k < B) W (.slice As sg.length cs) sg
theorem rCount_le6 (s : RS) : (rCount 6 s).1 ≤ 6 := by
 unfold rCount
 split
 ·simp
 ·split
  ·simp
  ·split
   ·simp
   ·rename_i h
    show num (s.1.take 4) ≤ 6
    omega
theorem qField_err {s : RS} {x : Int} (h : qField s = .error x) : x ≠ 0 := by
 unfold qField qFld0 qFld1 qFld2 qFld3 at h
 split at h
 ·injection h with h; subst h; assumption
 ·split at h
  ·injection h with h; subst h; assumption
  ·cases h
set_option maxRecDepth 20000 in
set_option maxHeartbeats 20000000 in
theorem qparts_c (g : Nat) (nm : List UInt8) (s : RS) (h : RdQ ok g w s.1 s.2) : Calls Tryz.prog 81 #[.pointer (some ⟨g, 0, none⟩), .agg #[.string ⟨nm.toArray⟩, .slice none 0 0, .slice none 0 0, .slice none 0 0]] w (RetPq ok g w (qParts nm s)) := by
 have SF := store_f64
 have hgw := h.lt
 have J0 := QL.start h
 have E := Lib.hid (show qParts nm s = qPar0 nm (qE qField (rCount 6 s).2 (rCount 6 s).1) from rfl)
 generalize qParts nm s = r at *
 clear h
 go_enter Tryz.func81, Tryz.ntmps81
 go_upto_region 1 with (fail)
 have LC : Loc1 w.heap.size 26 #[.string ⟨nm.toArray⟩, .slice none 0 0, .slice none 0 0, .slice none 0 0] ((w.alloc (.cells #[.string ⟨nm.toArray⟩, .slice none 0 0, .slice none 0 0, .slice none 0 0] 26)).alloc (.cells #[.string ⟨#[]⟩, .slice none 0 0, .slice none 0 0, .slice none 0 0] 26)) := (Loc1.new _ _ _).al _
 have LR : Loc1 (w.heap.size + 1) 26 #[.string ⟨#[]⟩, .slice none 0 0, .slice none 0 0, .slice none 0 0] ((w.alloc (.cells #[.string ⟨nm.toArray⟩, .slice none 0 0, .slice none 0 0, .slice none 0 0] 26)).alloc (.cells #[.string ⟨#[]⟩, .slice none 0 0, .slice none 0 0, .slice none 0 0] 26)) := Loc1.newE _ _ _ (by simp)
 have J := J0.below (show Below w.heap.size w ((w.alloc (.cells #[.string ⟨nm.toArray⟩, .slice none 0 0, .slice none 0 0, .slice none 0 0] 26)).alloc (.cells #[.string ⟨#[]⟩, .slice none 0 0, .slice none 0 0, .slice none 0 0] 26)) from bW)
 clear J0
 generalize ((w.alloc (.cells #[.string ⟨nm.toArray⟩, .slice none 0 0, .slice none 0 0, .slice none 0 0] 26)).alloc (.cells #[.string ⟨#[]⟩, .slice none 0 0, .slice none 0 0, .slice none 0 0] 26)) = w0 at *
 have C1 := Lib.hid (qCount_c g 6 s J.rd)
 have hle : (rCount 6 s).1 ≤ 6 := rCount_le6 s
 generalize rCount 6 s = p3 at *
 obtain ⟨n0, s1⟩ := p3
 replace E := Lib.hid (show r = qPar0 nm (qE qField s1 n0) from E.out)
 replace C1 := Lib.hid (show Calls Tryz.prog 138 #[.pointer (some ⟨g, 0, none⟩), .int .i64 6] w0 (Rq (fun k => ok k ∧ k < w.heap.size) g w0 (.int .i64 (n0 : Int)) s1) from C1.out)
 simp only at hle
 go_wp2_with fail
 refine C1.out.mono ?_
 rintro x9 w1 ⟨rfl, hr1, hx1⟩
 replace J := J.call hr1 hx1
 replace LC := loc_ext hx1 (by omega) LC
 replace LR := loc_ext hx1 (by omega) LR
 clear hr1 hx1 C1
 have hzr := lt_of_heap LR
 go_wp2_with fail
 generalize hB : w1.heap.size = B at *
 have hB1 : B ≤ w1.heap.size := by omega
 clear hB
 go_loopw [7] (fun v7 wz => QP1 ok w g nm s1 n0 B v7 wz) (fun v7 _ => n0 - (intOf v7).toNat)
 case atStart => exact ⟨0, [], s1, _, Nat.zero_le _, rfl, rfl, LC, J, LR, Own.nil _ _ _ _ _, hB1⟩
 case round =>
  obtain ⟨wo, hwx⟩ : ∃ x, x = wr := ⟨_, rfl⟩
  subst hwx
  clear J LC LR hB1
  obtain ⟨i0, fl, s2, kv, hi, rfl, hqe, LC, J, LR, HO, hws⟩ := hrel
  have HQ := Lib.hid hqe
  have EL := Lib.hid (qE_len hqe)
  clear hqe
  obtain ⟨Af, nk, cf, rfl, hnk⟩ := HO.form'
  have HNK := Lib.hid hnk
  clear hnk
  by_cases hin : i0 < n0
  rotate_left
  ·have hi2 : i0 = n0 := by omega
   have E1 := Lib.hid (show r = qPar1 nm fl (rCount 6 s2) by rw [E.out, ← hi2, HQ.out]; rfl)
   obtain rfl : nk = fl.length := HNK.out
   have hin1 : ¬ (i0 : Int) < (n0 : Int) := by omega
   have HS := (HO.sl fun k hk => hk).bound.weak (ok' := fun k => w.heap.size + 1 < k ∧ k < wo.heap.size) fun k hk => ⟨by have : B ≤ k := hk.1; omega, hk.2⟩
   clear E
   have E := E1
   have HFL := HS
   clear hi2 E1 HQ EL hin HS HO hws HNK hi
   obtain ⟨w2, hwx⟩ : ∃ x, x = wo := ⟨_, rfl⟩
   subst hwx
   have C1 := Lib.hid (qCount_c g 6 s2 J.rd)
   have hle : (rCount 6 s2).1 ≤ 6 := rCount_le6 s2
   generalize rCount 6 s2 = p3 at *
   obtain ⟨n, s3⟩ := p3
   replace E := Lib.hid (show r = qPar2 nm fl (qN qStage s3 n) from E.out)
   replace C1 := Lib.hid (show Calls Tryz.prog 138 #[.pointer (some ⟨g, 0, none⟩), .int .i64 6] w2 (Rq (fun k => ok k ∧ k < w.heap.size) g w2 (.int .i64 (n : Int)) s3) from C1.out)
   simp only at hle
   go_wp2_with fail
   refine C1.out.mono ?_
   rintro x9 w1 ⟨rfl, hr1, hx1⟩
   replace J := J.call hr1 hx1
   replace LC := loc_ext hx1 (by omega) LC
   replace LR := loc_ext hx1 (by omega) LR
   have hs1 := hx1.size
   replace HFL : Sl kFld (fun k => w.heap.size + 1 < k ∧ k < w1.heap.size) w1 (.slice Af fl.length cf) fl := (HFL.ext (hx1.weak fun k _ hk => by have := hk.1; omega)).weak fun k hk => ⟨hk.1, by have := hk.2; omega⟩
   clear hr1 hx1 C1 hs1
   have hzr := lt_of_heap LR
   go_wp2_with fail
   generalize hB : w1.heap.size = BS at *
   have hB1 : BS ≤ w1.heap.size := by omega
   clear hB
   go_loopw [10] (fun v10 wz => QP2 ok w g nm fl Af cf s3 n BS v10 wz) (fun v10 _ => n - (intOf v10).toNat)
   case atStart => exact ⟨0, _, Nat.zero_le _, rfl, LC, J, LR, Own.nil _ _ _ _ _, hB1, HFL⟩
   case round =>
    obtain ⟨wo, hwx⟩ : ∃ x, x = wr := ⟨_, rfl⟩
    subst hwx
    clear J LC LR hB1 HFL
    obtain ⟨i, ks, hi, rfl, LC, J, LR, HOS, hws, HFL⟩ := hrel
    have EN := Lib.hid (show (qN qStage s3 (i + 1)) = ((qN qStage s3 i).1 ++ [(qStage (qN qStage s3 i).2).1], (qStage (qN qStage s3 i).2).2) from rfl)
    have EL := Lib.hid (qN_len qStage s3 i)
    have E0 := Lib.hid (fun (h : i = n) => show r = qPar2 nm fl (qN qStage s3 i) by rw [E.out, h])
    generalize qN qStage s3 i = q at *
    obtain ⟨sg, s4⟩ := q
    replace HOS : Own kStg 68 (fun k => BS ≤ k) wo BS ks sg := HOS
    replace J : QL ok w g s4 wo := J
    obtain ⟨As, ns, cs, rfl, hnk⟩ := HOS.form'
    obtain rfl : ns = sg.length := hnk
    by_cases hin : i < n
    rotate_left
    ·have hi2 : i = n := by omega
     have E1 := Lib.hid (show r = qPar3 nm fl sg (rCount 8 s4) from E0.out hi2)
     have hin1 : ¬ (i : Int) < (n : Int) := by omega
     have HS := (HOS.sl fun k hk => hk).bound.weak (ok' := fun k => w.heap.size + 1 < k ∧ k < wo.heap.size) fun k hk => ⟨by have : BS ≤ k := hk.1; omega, hk.2⟩
     clear E
     have E := E1
     have HSG := HS
     replace HFL : Sl kFld (fun k => w.heap.size + 1 < k ∧ k < wo.heap.size) wo (.slice Af fl.length cf) fl := HFL.weak fun k hk => ⟨hk.1, by have := hk.2; omega⟩
     clear hi2 E0 E1 EN EL hin HS HOS hws hi
     obtain ⟨w7, hwx⟩ : ∃ x, x = wo := ⟨_, rfl⟩
     subst hwx
     have C1 := Lib.hid (qCount_c g 8 s4 J.rd)
     have hle : (rCount 8 s4).1 ≤ 8 := rCount_le8 s4 (by decide)
     generalize rCount 8 s4 = p3 at *
     obtain ⟨n1, s3⟩ := p3
     replace E := Lib.hid (show r = qPar4 nm fl sg (qE qMove s3 n1) from E.out)
     replace C1 := Lib.hid (show Calls Tryz.prog 138 #[.pointer (some ⟨g, 0, none⟩), .int .i64 8] w7 (Rq (fun k => ok k ∧ k < w.heap.size) g w7 (.int .i64 (n1 : Int)) s3) from C1.out)
     simp only at hle
     go_wp2_with fail
     refine C1.out.mono ?_
     rintro x9 w1 ⟨rfl, hr1, hx1⟩
     replace J := J.call hr1 hx1
     replace LC := loc_ext hx1 (by omega) LC
     replace LR := loc_ext hx1 (by omega) LR
     have hs1 := hx1.size
     replace HFL : Sl kFld (fun k => w.heap.size + 1 < k ∧ k < w1.heap.size) w1 (.slice Af fl.length cf) fl := (HFL.ext (hx1.weak fun k _ hk => by have := hk.1; omega)).weak fun k hk => ⟨hk.1, by have := hk.2; omega⟩
     replace HSG : Sl kStg (fun k => w.heap.size + 1 < k ∧ k < w1.heap.size) w1 (.slice As sg.length cs) sg := (HSG.ext (hx1.weak fun k _ hk => by have := hk.1; omega)).weak fun k hk => ⟨hk.1, by have := hk.2; omega⟩
     clear hr1 hx1 C1 hs1
     have hzr := lt_of_heap LR
     go_wp2_with fail
     generalize hB : w1.heap.size = B at *
     have hB1 : B ≤ w1.heap.size := by omega
     clear hB
     go_loopw [14] (fun v14 wz => QP3 ok w g nm fl sg Af As cf cs s3 n1 B v14 wz) (fun v14 _ => n1 - (intOf v14).toNat)
     case atStart => exact ⟨0, [], s3, _, Nat.zero_le _, rfl, rfl, LC, J, LR, Own.nil _ _ _ _ _, hB1, HFL, HSG⟩
     case round =>
      obtain ⟨wm, hwx⟩ : ∃ x, x = wr := ⟨_, rfl⟩
      subst hwx
      clear J LC LR hB1 HFL HSG
      obtain ⟨j, l, s5, kv, hj, rfl, hqe, LC, J, LR, HO, hws, HFL, HSG⟩ := hrel
      have HQ := Lib.hid hqe
      have EL := Lib.hid (qE_len hqe)
      clear hqe
      obtain ⟨Ak, nk, ck, rfl, hnk⟩ := HO.form'
      obtain rfl : nk = l.length := hnk
      by_cases hjn : j < n1
      rotate_left
      ·have hj2 : j = n1 := by omega
       have E2 := Lib.hid (show r = if s5.2 ≠ 0 then .error s5.2 else .ok (⟨nm, fl, sg, l⟩, s5) by rw [E.out, ← hj2, HQ.out]; rfl)
       have hjn1 : ¬ (j : Int) < (n1 : Int) := by omega
       clear hj2 E HQ EL hjn
       have he4 := J.e
       go_upto_region 28 with (fail)
       obtain ⟨m0, m1, m2, m3⟩ := cells4 LC
       have hzm := lt_of_heap LC
       obtain ⟨q0, q1, q2, q3, y0, y1, y2, y3, hzq⟩ := op4 LR
       obtain ⟨LS1, XS1⟩ := st4 LR (.string ⟨nm.toArray⟩) (.slice Af fl.length cf) (.slice As sg.length cs) (.slice Ak l.length ck)
       have HF := Lib.hid (J.off XS1 (by omega) hgw)
       have H3 := Lib.hid (((own_far HO (show w.heap.size + 1 < B by omega) XS1).sl fun k hk => hk).weak (ok' := fun k => w.heap.size ≤ k) fun k hk => by have : B ≤ k := hk; omega)
       have H1 := Lib.hid ((HFL.ext (XS1.weak fun k _ hk => by have := hk.1; omega)).weak (ok' := fun k => w.heap.size ≤ k) fun k hk => by have := hk.1; omega)
       have H2 := Lib.hid ((HSG.ext (XS1.weak fun k _ hk => by have := hk.1; omega)).weak (ok' := fun k => w.heap.size ≤ k) fun k hk => by have := hk.1; omega)
       obtain ⟨v0, v1, v2, v3⟩ := cells4 LS1
       clear LS1 XS1
       go_region
       all_goals
        go_wp21
        rw [E2.out]
        by_cases he : s5.2 = 0
        ·rw [if_neg (by simpa using he)]
         rw [he]
         exact bodyPost_ret (v := .tuple #[.agg #[.string ⟨nm.toArray⟩, .slice Af fl.length cf, .slice As sg.length cs, .slice Ak l.length ck], .int .i64 0]) (by simp [results, Tryz.results81, go_sem, v0, v1, v2, v3]) rfl ⟨⟨_, rfl, con_mk (c := ⟨nm, fl, sg, l⟩) (H1.out.below (Below.refl _ _).drew) (H2.out.below (Below.refl _ _).drew) (H3.out.below (Below.refl _ _).drew), HF.out.fin.below (Below.refl _ _).drew⟩, HF.out.ext.trans (ext_drew _ _)⟩
        ·rw [if_pos (by simpa using he)]
         exact bodyPost_ret (v := .tuple #[.agg #[.string ⟨nm.toArray⟩, .slice Af fl.length cf, .slice As sg.length cs, .slice Ak l.length ck], .int .i64 s5.2]) (by simp [results, Tryz.results81, go_sem, v0, v1, v2, v3]) rfl ⟨⟨he, nm, _, _, _, _, _, _, _, _, _, rfl⟩, HF.out.ext.trans (ext_drew _ _)⟩
      have hj0 : (j : Int) < (n1 : Int) := by omega
      have hl8 : l.length ≤ 8 := by have : l.length = j := EL.out; omega
      have C1 := Lib.hid (qmove_c g s5 J.rd)
      cases hx : qMove s5 with
      | error x =>
       rw [hx] at C1
       have hE1 := Lib.hid (show r = .error x by rw [E.out, qE_stop (i := j + 1) (qE_bad HQ.out hx) n1 hjn]; rfl)
       clear hx
       go_wp2_with fail
       refine C1.out.mono ?_
       rintro x9 w3 ⟨⟨hx0, f, A3, D3, n3, c3, n4, c4, rfl⟩, hx3⟩
       have hxn : (x != 0) = true := by simpa using hx0
       have HX0 := Lib.hid hx0
       have X3 := J.ext.trans hx3
       replace LC := loc_ext hx3 (by omega) LC
       replace LR := loc_ext hx3 (by omega) LR
       clear C1 J hx3 hx0
       go_upto_region 25 with (fail)
       have BA : Below w3.heap.size w3 (w3.alloc (.cells #[.string ⟨f.name.toArray⟩, .int .i64 f.frm, .int .i64 f.tgt, .int .i64 f.guard.op, .slice A3 n3 c3, .string ⟨f.guard.name.toArray⟩, .int .i64 f.guard.val.kind, .int .i64 f.guard.val.int, .bool f.guard.val.bool, .string ⟨f.guard.val.text.toArray⟩, .float .f64 f.guard.val.num, .slice D3 n4 c4, .int .i64 f.org] 47)) := bW
       replace LC := LC.bel BA
       replace LR := LR.bel BA
       replace X3 := X3.trans (Below.ext BA _)
       clear BA
       generalize hw6 : (w3.alloc (.cells #[.string ⟨f.name.toArray⟩, .int .i64 f.frm, .int .i64 f.tgt, .int .i64 f.guard.op, .slice A3 n3 c3, .string ⟨f.guard.name.toArray⟩, .int .i64 f.guard.val.kind, .int .i64 f.guard.val.int, .bool f.guard.val.bool, .string ⟨f.guard.val.text.toArray⟩, .float .f64 f.guard.val.num, .slice D3 n4 c4, .int .i64 f.org] 47)) = w4 at *
       clear hw6
       obtain ⟨m0, m1, m2, m3⟩ := cells4 LC
       have hzm := lt_of_heap LC
       obtain ⟨q0, q1, q2, q3, y0, y1, y2, y3, hzq⟩ := op4 LR
       obtain ⟨LS1, XS1⟩ := st4 LR (.string ⟨nm.toArray⟩) (.slice Af fl.length cf) (.slice As sg.length cs) (.slice Ak l.length ck)
       have HF := Lib.hid (ext_off X3 XS1 (by omega))
       obtain ⟨v0, v1, v2, v3⟩ := cells4 LS1
       clear LS1 XS1 X3
       go_wp21
       rw [hE1.out]
       exact bodyPost_ret (v := .tuple #[.agg #[.string ⟨nm.toArray⟩, .slice Af fl.length cf, .slice As sg.length cs, .slice Ak l.length ck], .int .i64 x]) (by simp [results, Tryz.results81, go_sem, v0, v1, v2, v3]) rfl ⟨⟨HX0.out, nm, _, _, _, _, _, _, _, _, _, rfl⟩, HF.out⟩
      | ok p =>
      rw [hx] at C1
      obtain ⟨f, s6⟩ := p
      have HQ2 := Lib.hid (show qE qMove s3 (j + 1) = .ok (l ++ [f], s6) from qE_next HQ.out hx)
      clear hx
      go_wp2_with fail
      refine C1.out.mono ?_
      rintro x9 w3 ⟨⟨cs3, rfl, hR, hr3⟩, hx3⟩
      have hR0 := hR
      obtain ⟨kk, A3, c3, D3, d3, -, rfl, -⟩ := mov_open hR0
      clear hR0
      replace J := J.call hr3 hx3
      replace LC := loc_ext hx3 (by omega) LC
      replace LR := loc_ext hx3 (by omega) LR
      have HV := Lib.hid (fun k (hk : (Value.slice Ak l.length ck).ownBlock = some k) => (HO.lt k hk).2)
      replace HO := own_far HO (by omega) hx3
      replace HFL := HFL.ext (hx3.weak fun k _ hk => by have := hk.1; omega)
      replace HSG := HSG.ext (hx3.weak fun k _ hk => by have := hk.1; omega)
      have hws3 := Nat.le_trans hws hx3.size
      clear hr3 hx3 C1
      go_upto_region 27 with (fail)
      have BA : Below w3.heap.size w3 (w3.alloc (.cells #[.string ⟨f.name.toArray⟩, .int .i64 f.frm, .int .i64 f.tgt, .int .i64 f.guard.op, .slice A3 f.guard.kids.length c3, .string ⟨f.guard.name.toArray⟩, .int .i64 f.guard.val.kind, .int .i64 f.guard.val.int, .bool f.guard.val.bool, .string ⟨f.guard.val.text.toArray⟩, .float .f64 f.guard.val.num, .slice D3 f.effects.length d3, .int .i64 f.org] 47)) := bW
      have LG := Loc1.new w3 47 #[.string ⟨f.name.toArray⟩, .int .i64 f.frm, .int .i64 f.tgt, .int .i64 f.guard.op, .slice A3 f.guard.kids.length c3, .string ⟨f.guard.name.toArray⟩, .int .i64 f.guard.val.kind, .int .i64 f.guard.val.int, .bool f.guard.val.bool, .string ⟨f.guard.val.text.toArray⟩, .float .f64 f.guard.val.num, .slice D3 f.effects.length d3, .int .i64 f.org]
      replace LC := LC.bel BA
      replace LR := LR.bel BA
      replace J := J.below BA
      replace HO := HO.below BA
      replace HFL := HFL.below BA
      replace HSG := HSG.below BA
      replace hR := Kd.below hR BA
      have hwsA := Nat.le_trans hws3 BA.size
      clear BA
      generalize hw6 : (w3.alloc (.cells #[.string ⟨f.name.toArray⟩, .int .i64 f.frm, .int .i64 f.tgt, .int .i64 f.guard.op, .slice A3 f.guard.kids.length c3, .string ⟨f.guard.name.toArray⟩, .int .i64 f.guard.val.kind, .int .i64 f.guard.val.int, .bool f.guard.val.bool, .string ⟨f.guard.val.text.toArray⟩, .float .f64 f.guard.val.num, .slice D3 f.effects.length d3, .int .i64 f.org] 47)) = wk at *
      clear hw6
      obtain ⟨x0, x1, x2, x3, x4, x5, x6, x7, x8, x9, x10, x11, x12⟩ := cells13 LG
      have hzx := lt_of_heap LG
      have m3 := cell_of LC 3
      have u3 := free_of LC 3
      have hze := lt_of_heap LC
      simp only [List.getElem?_toArray, List.getElem?_cons_zero, List.getElem?_cons_succ] at m3
      have AB := Lib.hid (append_fresh (P := Tryz.prog) (d := kMov 6) (e := 47) (t := 24) (tx := 24) (ty := 24) (w := wk) (base := B) (b0 := wm.heap.size) Tryz.underlying24 Tryz.underlying24 infoMovT (by rw [kMov_sz]; rfl) HO (by omega) hR (by omega) HV.out (by omega) (by omega))
      clear hR
      go_wp2_with (at_builtin; refine at_append rfl (.tmp 89) (.tmp 91) 24 24 rfl rfl rfl AB.out ?_; rintro v' w'' ⟨ho2, hg2⟩; obtain ⟨A9, n9, c9, rfl, hn9⟩ := ho2.form'; have hL9 := (show Loc1 w.heap.size 26 #[.string ⟨nm.toArray⟩, .slice Af fl.length cf, .slice As sg.length cs, .slice Ak l.length ck] w'' from (hg2.block _ (lt_of_heap LC) (fun e => by have := (HO.lt _ e.symm).1; omega)).trans LC); have m1w := cell_of hL9 3; have u1w := free_of hL9 3; have HN9 := Lib.hid hn9; have HO3 := Lib.hid ho2; have HG2 := Lib.hid hg2; clear ho2 hg2 hn9)
      have XG : Ext (fun k => k < B) wk w'' := ⟨HG2.out.os, HG2.out.tape, HG2.out.output, HG2.out.size, fun k hk hkb => HG2.out.block k hk (fun e => by have := (HO.lt k e.symm).1; omega)⟩
      have XF : Ext (fun k => k ≠ w.heap.size) w'' (w''.setCell ⟨w.heap.size, 3, none⟩ (.slice A9 n9 c9)) := ext_set_ne (Ext.refl _ _) 3 _
      have JF := (J.grown XG (by omega) hgw).off XF (by omega) hgw
      have LEF : Loc1 w.heap.size 26 #[.string ⟨nm.toArray⟩, .slice Af fl.length cf, .slice As sg.length cs, .slice A9 n9 c9] (w''.setCell ⟨w.heap.size, 3, none⟩ (.slice A9 n9 c9)) := by have := heap_set hL9 3 (.slice A9 n9 c9); unfold Loc1; simpa using this
      have LRF := loc_ext XF (by omega) ((XG.block _ (lt_of_heap LR) (by omega)).trans LR)
      have OF := own_far HO3.out (show w.heap.size < B by omega) XF
      have F1 := (HFL.ext (XG.weak fun k _ hk => hk.2)).ext (XF.weak fun k _ hk => by have := hk.1; omega)
      have F2 := (HSG.ext (XG.weak fun k _ hk => hk.2)).ext (XF.weak fun k _ hk => by have := hk.1; omega)
      have hwf : B ≤ (w''.setCell ⟨w.heap.size, 3, none⟩ (.slice A9 n9 c9)).heap.size := by
       rw [World.size_setCell]
       have h1 := XG.size
       omega
      go_roundw
      case rel => exact ⟨j + 1, l ++ [f], s6, _, by omega, by go_num, HQ2.out, LEF, JF, LRF, OF, hwf, F1, F2⟩
      case measure => simp [intOf]; omega
    have hi0 : (i : Int) < (n : Int) := by omega
    have hl6 : sg.length ≤ 6 := by have : sg.length = i := EL.out; omega
    have ES := Lib.hid (show qStage s4 = qStg0 (rBytes 16 s4).1 (rInt (rBytes 16 s4).2) from rfl)
    have HB := Lib.hid (fun (W : World) (h : RdQ (fun k => ok k ∧ k < w.heap.size) g W s4.1 s4.2) => qBytes_c g 16 s4 h)
    generalize rBytes 16 s4 = p1 at *
    obtain ⟨en, s5⟩ := p1
    replace ES := Lib.hid (show qStage s4 = qStg0 en (rInt s5) from ES.out)
    replace HB := Lib.hid (show ∀ (W : World), RdQ (fun k => ok k ∧ k < w.heap.size) g W s4.1 s4.2 → Calls Tryz.prog 82 #[.pointer (some ⟨g, 0, none⟩), .int .i64 16] W (fun e w' => ∃ v, e = .returned v ∧ Own kU8 5 (fun k => ok k ∧ k < w.heap.size) w' W.heap.size v en ∧ RdQ (fun k => ok k ∧ k < w.heap.size) g w' s5.1 s5.2 ∧ Ext (fun k => k ≠ g) W w') from HB.out)
    have HI := Lib.hid (fun (W : World) (h : RdQ (fun k => ok k ∧ k < w.heap.size) g W s5.1 s5.2) => qInt_c g s5 h)
    generalize rInt s5 = p2 at *
    obtain ⟨k, s6⟩ := p2
    replace ES := Lib.hid (show qStage s4 = qStg1 en k (rCount 4 s6) from ES.out)
    replace HI := Lib.hid (show ∀ (W : World), RdQ (fun k => ok k ∧ k < w.heap.size) g W s5.1 s5.2 → Calls Tryz.prog 140 #[.pointer (some ⟨g, 0, none⟩)] W (Rq (fun k => ok k ∧ k < w.heap.size) g W (.int .i64 k) s6) from HI.out)
    have HVS := Lib.hid (fun k (hk : (Value.slice As sg.length cs).ownBlock = some k) => (HOS.lt k hk).2)
    replace HOS := own_bound HOS
    generalize hZ : wo.heap.size = Z at *
    have hZo : Z ≤ wo.heap.size := by omega
    clear hZ
    go_upto_region 13 with (fail)
    go_cut [11] from 46 to 51 (fun v11 W => QS1 ok w g Z #[.string ⟨nm.toArray⟩, .slice Af fl.length cf, .slice As sg.length cs, .slice none 0 0] en k s6 fl sg Af As cf cs BS v11 W)
    case first =>
     refine wp_region_held_drew (S := fun W => True) (by kernel_rfl) trivial (fun hHeld => ?_)
     replace J := J.below (show Below wo.heap.size wo wo.drew from bW)
     replace LC := LC.dr
     replace LR := LR.dr
     replace HOS := HOS.below (show Below wo.heap.size wo wo.drew from bW)
     replace HFL := HFL.below (show Below wo.heap.size wo wo.drew from bW)
     replace hZo : Z ≤ wo.drew.heap.size := hZo
     clear hHeld
     have hHeld : True := trivial
     generalize hwd : wo.drew = wd at *
     clear hwd
     refine takeG 0 46 (.pointer (some ⟨g, 0, none⟩)) rfl rfl (by kernel_rfl) (fun _ _ _ h => h) (Or.inl ⟨by rfl, by (intro wz hSw; (try dsimp only at hSw); go_simp)⟩) (by assumption) ?_
     try simp only [Act.put, nrmA, nrmZ, nrmS]
     refine takeG 3 49 (.pointer (some ⟨g, 0, none⟩)) rfl rfl (by kernel_rfl) (fun _ _ _ h => h) (Or.inl ⟨by rfl, by (intro wz hSw; (try dsimp only at hSw); go_simp)⟩) (by assumption) ?_
     try simp only [Act.put, nrmA, nrmZ, nrmS]
     refine rd2 1 6 rfl rfl (by kernel_rfl) (fun K hK => ?_) fun K hK => ?_
     ·skip
      go_simp
      refine (HB.out _ J.rd).mono ?_
      rintro x9 wq1 ⟨v5, rfl, ho5, hrq, hxq⟩
      obtain ⟨Av, nv, cv, rfl, -⟩ := ho5.form'
      have hgv : g < wd.heap.size := J.rd.lt
      replace J := J.call hrq hxq
      replace LC := loc_ext hxq (by omega) LC
      replace LR := loc_ext hxq (by omega) LR
      replace HOS := own_farP HOS (fun k hk => by have := hk.1; omega) (by omega) hxq
      replace HFL := HFL.ext (hxq.weak fun k _ hk => by have := hk.1; omega)
      replace hZo := Nat.le_trans hZo hxq.size
      clear hrq hxq
      refine hK.out _ _ trivial (fun hHeld => ?_)
      clear hK K
      try simp only [Act.put, nrmA, nrmZ, nrmS]
      refine wpAnyH_ready (rs := [2, 4, 6]) (by kernel_rfl) (by simp) ?_
      refine (AllReadyH.cons rfl (fun K hK => ?_) (AllReadyH.cons rfl (fun K hK => ?_) (AllReadyH.cons rfl (fun K hK => ?_) AllReadyH.nil)))
      ·skip
       have CV := conv_vs (P := Tryz.prog) ((own_u8 (ok' := fun _ => True) ho5).sl fun _ _ => trivial) 29 9 5 Tryz.underlying29 Tryz.underlying5 Tryz.underlying9
       go_simp
       clear CV
       refine hK.out _ _ trivial (fun hHeld => ?_)
       clear hK K
       try simp only [Act.put, nrmA, nrmZ, nrmS]
       refine rd2 4 6 rfl rfl (by kernel_rfl) (fun K hK => ?_) fun K hK => ?_
       ·skip
        go_simp
        refine (HI.out _ J.rd).mono ?_
        rintro x9 wq2 ⟨rfl, hrq, hxq⟩
        replace J := J.call hrq hxq
        replace LC := loc_ext hxq (by omega) LC
        replace LR := loc_ext hxq (by omega) LR
        replace ho5 := own_u8_far ho5 hgv hxq
        replace HOS := own_farP HOS (fun k hk => by have := hk.1; omega) (by omega) hxq
        replace HFL := HFL.ext (hxq.weak fun k _ hk => by have := hk.1; omega)
        replace hZo := Nat.le_trans hZo hxq.size
        clear hrq hxq
        refine hK.out _ _ trivial (fun hHeld => ?_)
        clear hK K
        try simp only [Act.put, nrmA, nrmZ, nrmS]
        refine takeG 5 51 (.agg #[.string ⟨en.toArray⟩, .int .i64 k, .slice none 0 0]) rfl rfl (by kernel_rfl) (fun _ _ _ h => h) (Or.inl ⟨by rfl, by (intro wz hSw; (try dsimp only at hSw); go_simp)⟩) (by assumption) ?_
        try simp only [Act.put, nrmA, nrmZ, nrmS]
        refine rd1 6 rfl (by kernel_rfl) fun K hK => ?_
        go_simp
        have LF := Loc1.new wq2 68 #[.string ⟨#[]⟩, .int .i64 0, .slice none 0 0]
        have hbLF : w.heap.size < wq2.heap.size := (by have := lt_of_heap LR; omega)
        have BA : Below wq2.heap.size wq2 (wq2.alloc (.cells #[.string ⟨#[]⟩, .int .i64 0, .slice none 0 0] 68)) := bW
        have hZL : Z ≤ wq2.heap.size := hZo
        replace J := J.below BA
        replace LC := LC.bel BA
        replace LR := LR.bel BA
        replace ho5 := ho5.below BA
        replace HOS := HOS.below BA
        replace HFL := HFL.below BA
        replace hZo := Nat.le_trans hZo BA.size
        clear BA
        generalize hWq : (wq2.alloc (.cells #[.string ⟨#[]⟩, .int .i64 0, .slice none 0 0] 68)) = wq3 at *
        clear hWq
        refine hK.out _ _ trivial (fun hHeld => ?_)
        clear hK K
        try simp only [Act.put, nrmA, nrmZ, nrmS]
        refine rd1 7 rfl (by kernel_rfl) fun K hK => ?_
        obtain ⟨m0, m1, m2, u0, u1, u2, hzm⟩ := op3 LF
        go_simp
        obtain ⟨LS1, XS1⟩ := st3 LF (.string ⟨en.toArray⟩) (.int .i64 k) (.slice none 0 0)
        refine hK.out _ _ trivial (fun hHeld => ?_)
        clear hK K
        try simp only [Act.put, nrmA, nrmZ, nrmS]
        refine wpAnyH_done (by kernel_rfl) ?_ _
        simp only [Exit.then]
        apply_assumption
        go_meet
        exact ⟨_, rfl, by omega, LS1, loc_ext XS1 (by omega) LC, J.off XS1 (by omega) hgw, loc_ext XS1 (by omega) LR, own_off HOS (fun k hk => by have := hk.2; omega) (fun k hk => by have := HVS.out k hk; omega) XS1, HFL.ext (XS1.weak fun k _ hk => by have := hk.2; omega)⟩
       ·skip
        go_simp
        have LF := Loc1.new wq1 68 #[.string ⟨#[]⟩, .int .i64 0, .slice none 0 0]
        have hbLF : w.heap.size < wq1.heap.size := (by have := lt_of_heap LR; omega)
        have BA : Below wq1.heap.size wq1 (wq1.alloc (.cells #[.string ⟨#[]⟩, .int .i64 0, .slice none 0 0] 68)) := bW
        have hZL : Z ≤ wq1.heap.size := hZo
        replace J := J.below BA
        replace LC := LC.bel BA
        replace LR := LR.bel BA
        replace ho5 := ho5.below BA
        replace HOS := HOS.below BA
        replace HFL := HFL.below BA
        replace hZo := Nat.le_trans hZo BA.size
        clear BA
        generalize hWq : (wq1.alloc (.cells #[.string ⟨#[]⟩, .int .i64 0, .slice none 0 0] 68)) = wq2 at *
        clear hWq
        refine hK.out _ _ trivial (fun hHeld => ?_)
        clear hK K
        try simp only [Act.put, nrmA, nrmZ, nrmS]
        refine rd1 4 rfl (by kernel_rfl) fun K hK => ?_
        go_simp
        refine (HI.out _ J.rd).mono ?_
        rintro x9 wq3 ⟨rfl, hrq, hxq⟩
        replace J := J.call hrq hxq
        replace LC := loc_ext hxq (by omega) LC
        replace LR := loc_ext hxq (by omega) LR
        replace LF := loc_ext hxq (by omega) LF
        replace ho5 := own_u8_far ho5 hgv hxq
        replace HOS := own_farP HOS (fun k hk => by have := hk.1; omega) (by omega) hxq
        replace HFL := HFL.ext (hxq.weak fun k _ hk => by have := hk.1; omega)
        replace hZo := Nat.le_trans hZo hxq.size
        clear hrq hxq
        refine hK.out _ _ trivial (fun hHeld => ?_)
        clear hK K
        try simp only [Act.put, nrmA, nrmZ, nrmS]
        refine takeG 5 51 (.agg #[.string ⟨en.toArray⟩, .int .i64 k, .slice none 0 0]) rfl rfl (by kernel_rfl) (fun _ _ _ h => h) (Or.inl ⟨by rfl, by (intro wz hSw; (try dsimp only at hSw); go_simp)⟩) (by assumption) ?_
        try simp only [Act.put, nrmA, nrmZ, nrmS]
        refine rd1 7 rfl (by kernel_rfl) fun K hK => ?_
        obtain ⟨m0, m1, m2, u0, u1, u2, hzm⟩ := op3 LF
        go_simp
        obtain ⟨LS1, XS1⟩ := st3 LF (.string ⟨en.toArray⟩) (.int .i64 k) (.slice none 0 0)
        refine hK.out _ _ trivial (fun hHeld => ?_)
        clear hK K
        try simp only [Act.put, nrmA, nrmZ, nrmS]
        refine wpAnyH_done (by kernel_rfl) ?_ _
        simp only [Exit.then]
        apply_assumption
        go_meet
        exact ⟨_, rfl, by omega, LS1, loc_ext XS1 (by omega) LC, J.off XS1 (by omega) hgw, loc_ext XS1 (by omega) LR, own_off HOS (fun k hk => by have := hk.2; omega) (fun k hk => by have := HVS.out k hk; omega) XS1, HFL.ext (XS1.weak fun k _ hk => by have := hk.2; omega)⟩
      ·skip
       go_simp
       refine (HI.out _ J.rd).mono ?_
       rintro x9 wq2 ⟨rfl, hrq, hxq⟩
       replace J := J.call hrq hxq
       replace LC := loc_ext hxq (by omega) LC
       replace LR := loc_ext hxq (by omega) LR
       replace ho5 := own_u8_far ho5 hgv hxq
       replace HOS := own_farP HOS (fun k hk => by have := hk.1; omega) (by omega) hxq
       replace HFL := HFL.ext (hxq.weak fun k _ hk => by have := hk.1; omega)
       replace hZo := Nat.le_trans hZo hxq.size
       clear hrq hxq
       refine hK.out _ _ trivial (fun hHeld => ?_)
       clear hK K
       try simp only [Act.put, nrmA, nrmZ, nrmS]
       refine rd2 2 6 rfl rfl (by kernel_rfl) (fun K hK => ?_) fun K hK => ?_
       ·skip
        have CV := conv_vs (P := Tryz.prog) ((own_u8 (ok' := fun _ => True) ho5).sl fun _ _ => trivial) 29 9 5 Tryz.underlying29 Tryz.underlying5 Tryz.underlying9
        go_simp
        clear CV
        refine hK.out _ _ trivial (fun hHeld => ?_)
        clear hK K
        try simp only [Act.put, nrmA, nrmZ, nrmS]
        refine takeG 5 51 (.agg #[.string ⟨en.toArray⟩, .int .i64 k, .slice none 0 0]) rfl rfl (by kernel_rfl) (fun _ _ _ h => h) (Or.inl ⟨by rfl, by (intro wz hSw; (try dsimp only at hSw); go_simp)⟩) (by assumption) ?_
        try simp only [Act.put, nrmA, nrmZ, nrmS]
        refine rd1 6 rfl (by kernel_rfl) fun K hK => ?_
        go_simp
        have LF := Loc1.new wq2 68 #[.string ⟨#[]⟩, .int .i64 0, .slice none 0 0]
        have hbLF : w.heap.size < wq2.heap.size := (by have := lt_of_heap LR; omega)
        have BA : Below wq2.heap.size wq2 (wq2.alloc (.cells #[.string ⟨#[]⟩, .int .i64 0, .slice none 0 0] 68)) := bW
        have hZL : Z ≤ wq2.heap.size := hZo
        replace J := J.below BA
        replace LC := LC.bel BA
        replace LR := LR.bel BA
        replace ho5 := ho5.below BA
        replace HOS := HOS.below BA
        replace HFL := HFL.below BA
        replace hZo := Nat.le_trans hZo BA.size
        clear BA
        generalize hWq : (wq2.alloc (.cells #[.string ⟨#[]⟩, .int .i64 0, .slice none 0 0] 68)) = wq3 at *
        clear hWq
        refine hK.out _ _ trivial (fun hHeld => ?_)
        clear hK K
        try simp only [Act.put, nrmA, nrmZ, nrmS]
        refine rd1 7 rfl (by kernel_rfl) fun K hK => ?_
        obtain ⟨m0, m1, m2, u0, u1, u2, hzm⟩ := op3 LF
        go_simp
        obtain ⟨LS1, XS1⟩ := st3 LF (.string ⟨en.toArray⟩) (.int .i64 k) (.slice none 0 0)
        refine hK.out _ _ trivial (fun hHeld => ?_)
        clear hK K
        try simp only [Act.put, nrmA, nrmZ, nrmS]
        refine wpAnyH_done (by kernel_rfl) ?_ _
        simp only [Exit.then]
        apply_assumption
        go_meet
        exact ⟨_, rfl, by omega, LS1, loc_ext XS1 (by omega) LC, J.off XS1 (by omega) hgw, loc_ext XS1 (by omega) LR, own_off HOS (fun k hk => by have := hk.2; omega) (fun k hk => by have := HVS.out k hk; omega) XS1, HFL.ext (XS1.weak fun k _ hk => by have := hk.2; omega)⟩
       ·skip
        go_simp
        have LF := Loc1.new wq2 68 #[.string ⟨#[]⟩, .int .i64 0, .slice none 0 0]
        have hbLF : w.heap.size < wq2.heap.size := (by have := lt_of_heap LR; omega)
        have BA : Below wq2.heap.size wq2 (wq2.alloc (.cells #[.string ⟨#[]⟩, .int .i64 0, .slice none 0 0] 68)) := bW
        have hZL : Z ≤ wq2.heap.size := hZo
        replace J := J.below BA
        replace LC := LC.bel BA
        replace LR := LR.bel BA
        replace ho5 := ho5.below BA
        replace HOS := HOS.below BA
        replace HFL := HFL.below BA
        replace hZo := Nat.le_trans hZo BA.size
        clear BA
        generalize hWq : (wq2.alloc (.cells #[.string ⟨#[]⟩, .int .i64 0, .slice none 0 0] 68)) = wq3 at *
        clear hWq
        refine hK.out _ _ trivial (fun hHeld => ?_)
        clear hK K
        try simp only [Act.put, nrmA, nrmZ, nrmS]
        refine rd1 2 rfl (by kernel_rfl) fun K hK => ?_
        have CV := conv_vs (P := Tryz.prog) ((own_u8 (ok' := fun _ => True) ho5).sl fun _ _ => trivial) 29 9 5 Tryz.underlying29 Tryz.underlying5 Tryz.underlying9
        go_simp
        clear CV
        refine hK.out _ _ trivial (fun hHeld => ?_)
        clear hK K
        try simp only [Act.put, nrmA, nrmZ, nrmS]
        refine takeG 5 51 (.agg #[.string ⟨en.toArray⟩, .int .i64 k, .slice none 0 0]) rfl rfl (by kernel_rfl) (fun _ _ _ h => h) (Or.inl ⟨by rfl, by (intro wz hSw; (try dsimp only at hSw); go_simp)⟩) (by assumption) ?_
        try simp only [Act.put, nrmA, nrmZ, nrmS]
        refine rd1 7 rfl (by kernel_rfl) fun K hK => ?_
        obtain ⟨m0, m1, m2, u0, u1, u2, hzm⟩ := op3 LF
        go_simp
        obtain ⟨LS1, XS1⟩ := st3 LF (.string ⟨en.toArray⟩) (.int .i64 k) (.slice none 0 0)
        refine hK.out _ _ trivial (fun hHeld => ?_)
        clear hK K
        try simp only [Act.put, nrmA, nrmZ, nrmS]
        refine wpAnyH_done (by kernel_rfl) ?_ _
        simp only [Exit.then]
        apply_assumption
        go_meet
        exact ⟨_, rfl, by omega, LS1, loc_ext XS1 (by omega) LC, J.off XS1 (by omega) hgw, loc_ext XS1 (by omega) LR, own_off HOS (fun k hk => by have := hk.2; omega) (fun k hk => by have := HVS.out k hk; omega) XS1, HFL.ext (XS1.weak fun k _ hk => by have := hk.2; omega)⟩
      ·skip
       go_simp
       have LF := Loc1.new wq1 68 #[.string ⟨#[]⟩, .int .i64 0, .slice none 0 0]
       have hbLF : w.heap.size < wq1.heap.size := (by have := lt_of_heap LR; omega)
       have BA : Below wq1.heap.size wq1 (wq1.alloc (.cells #[.string ⟨#[]⟩, .int .i64 0, .slice none 0 0] 68)) := bW
       have hZL : Z ≤ wq1.heap.size := hZo
       replace J := J.below BA
       replace LC := LC.bel BA
       replace LR := LR.bel BA
       replace ho5 := ho5.below BA
       replace HOS := HOS.below BA
       replace HFL := HFL.below BA
       replace hZo := Nat.le_trans hZo BA.size
       clear BA
       generalize hWq : (wq1.alloc (.cells #[.string ⟨#[]⟩, .int .i64 0, .slice none 0 0] 68)) = wq2 at *
       clear hWq
       refine hK.out _ _ trivial (fun hHeld => ?_)
       clear hK K
       try simp only [Act.put, nrmA, nrmZ, nrmS]
       refine rd2 2 4 rfl rfl (by kernel_rfl) (fun K hK => ?_) fun K hK => ?_
       ·skip
        have CV := conv_vs (P := Tryz.prog) ((own_u8 (ok' := fun _ => True) ho5).sl fun _ _ => trivial) 29 9 5 Tryz.underlying29 Tryz.underlying5 Tryz.underlying9
        go_simp
        clear CV
        refine hK.out _ _ trivial (fun hHeld => ?_)
        clear hK K
        try simp only [Act.put, nrmA, nrmZ, nrmS]
        refine rd1 4 rfl (by kernel_rfl) fun K hK => ?_
        go_simp
        refine (HI.out _ J.rd).mono ?_
        rintro x9 wq3 ⟨rfl, hrq, hxq⟩
        replace J := J.call hrq hxq
        replace LC := loc_ext hxq (by omega) LC
        replace LR := loc_ext hxq (by omega) LR
        replace LF := loc_ext hxq (by omega) LF
        replace ho5 := own_u8_far ho5 hgv hxq
        replace HOS := own_farP HOS (fun k hk => by have := hk.1; omega) (by omega) hxq
        replace HFL := HFL.ext (hxq.weak fun k _ hk => by have := hk.1; omega)
        replace hZo := Nat.le_trans hZo hxq.size
        clear hrq hxq
        refine hK.out _ _ trivial (fun hHeld => ?_)
        clear hK K
        try simp only [Act.put, nrmA, nrmZ, nrmS]
        refine takeG 5 51 (.agg #[.string ⟨en.toArray⟩, .int .i64 k, .slice none 0 0]) rfl rfl (by kernel_rfl) (fun _ _ _ h => h) (Or.inl ⟨by rfl, by (intro wz hSw; (try dsimp only at hSw); go_simp)⟩) (by assumption) ?_
        try simp only [Act.put, nrmA, nrmZ, nrmS]
        refine rd1 7 rfl (by kernel_rfl) fun K hK => ?_
        obtain ⟨m0, m1, m2, u0, u1, u2, hzm⟩ := op3 LF
        go_simp
        obtain ⟨LS1, XS1⟩ := st3 LF (.string ⟨en.toArray⟩) (.int .i64 k) (.slice none 0 0)
        refine hK.out _ _ trivial (fun hHeld => ?_)
        clear hK K
        try simp only [Act.put, nrmA, nrmZ, nrmS]
        refine wpAnyH_done (by kernel_rfl) ?_ _
        simp only [Exit.then]
        apply_assumption
        go_meet
        exact ⟨_, rfl, by omega, LS1, loc_ext XS1 (by omega) LC, J.off XS1 (by omega) hgw, loc_ext XS1 (by omega) LR, own_off HOS (fun k hk => by have := hk.2; omega) (fun k hk => by have := HVS.out k hk; omega) XS1, HFL.ext (XS1.weak fun k _ hk => by have := hk.2; omega)⟩
       ·skip
        go_simp
        refine (HI.out _ J.rd).mono ?_
        rintro x9 wq3 ⟨rfl, hrq, hxq⟩
        replace J := J.call hrq hxq
        replace LC := loc_ext hxq (by omega) LC
        replace LR := loc_ext hxq (by omega) LR
        replace LF := loc_ext hxq (by omega) LF
        replace ho5 := own_u8_far ho5 hgv hxq
        replace HOS := own_farP HOS (fun k hk => by have := hk.1; omega) (by omega) hxq
        replace HFL := HFL.ext (hxq.weak fun k _ hk => by have := hk.1; omega)
        replace hZo := Nat.le_trans hZo hxq.size
        clear hrq hxq
        refine hK.out _ _ trivial (fun hHeld => ?_)
        clear hK K
        try simp only [Act.put, nrmA, nrmZ, nrmS]
        refine rd1 2 rfl (by kernel_rfl) fun K hK => ?_
        have CV := conv_vs (P := Tryz.prog) ((own_u8 (ok' := fun _ => True) ho5).sl fun _ _ => trivial) 29 9 5 Tryz.underlying29 Tryz.underlying5 Tryz.underlying9
        go_simp
        clear CV
        refine hK.out _ _ trivial (fun hHeld => ?_)
        clear hK K
        try simp only [Act.put, nrmA, nrmZ, nrmS]
        refine takeG 5 51 (.agg #[.string ⟨en.toArray⟩, .int .i64 k, .slice none 0 0]) rfl rfl (by kernel_rfl) (fun _ _ _ h => h) (Or.inl ⟨by rfl, by (intro wz hSw; (try dsimp only at hSw); go_simp)⟩) (by assumption) ?_
        try simp only [Act.put, nrmA, nrmZ, nrmS]
        refine rd1 7 rfl (by kernel_rfl) fun K hK => ?_
        obtain ⟨m0, m1, m2, u0, u1, u2, hzm⟩ := op3 LF
        go_simp
        obtain ⟨LS1, XS1⟩ := st3 LF (.string ⟨en.toArray⟩) (.int .i64 k) (.slice none 0 0)
        refine hK.out _ _ trivial (fun hHeld => ?_)
        clear hK K
        try simp only [Act.put, nrmA, nrmZ, nrmS]
        refine wpAnyH_done (by kernel_rfl) ?_ _
        simp only [Exit.then]
        apply_assumption
        go_meet
        exact ⟨_, rfl, by omega, LS1, loc_ext XS1 (by omega) LC, J.off XS1 (by omega) hgw, loc_ext XS1 (by omega) LR, own_off HOS (fun k hk => by have := hk.2; omega) (fun k hk => by have := HVS.out k hk; omega) XS1, HFL.ext (XS1.weak fun k _ hk => by have := hk.2; omega)⟩
     ·skip
      go_simp
      have LF := Loc1.new wd 68 #[.string ⟨#[]⟩, .int .i64 0, .slice none 0 0]
      have hbLF : w.heap.size < wd.heap.size := (by have := lt_of_heap LR; omega)
      have BA : Below wd.heap.size wd (wd.alloc (.cells #[.string ⟨#[]⟩, .int .i64 0, .slice none 0 0] 68)) := bW
      have hZL : Z ≤ wd.heap.size := hZo
      replace J := J.below BA
      replace LC := LC.bel BA
      replace LR := LR.bel BA
      replace HOS := HOS.below BA
      replace HFL := HFL.below BA
      replace hZo := Nat.le_trans hZo BA.size
      clear BA
      generalize hWq : (wd.alloc (.cells #[.string ⟨#[]⟩, .int .i64 0, .slice none 0 0] 68)) = wq1 at *
      clear hWq
      refine hK.out _ _ trivial (fun hHeld => ?_)
      clear hK K
      try simp only [Act.put, nrmA, nrmZ, nrmS]
      refine rd1 1 rfl (by kernel_rfl) fun K hK => ?_
      go_simp
      refine (HB.out _ J.rd).mono ?_
      rintro x9 wq2 ⟨v5, rfl, ho5, hrq, hxq⟩
      obtain ⟨Av, nv, cv, rfl, -⟩ := ho5.form'
      have hgv : g < wq1.heap.size := J.rd.lt
      replace J := J.call hrq hxq
      replace LC := loc_ext hxq (by omega) LC
      replace LR := loc_ext hxq (by omega) LR
      replace LF := loc_ext hxq (by omega) LF
      replace HOS := own_farP HOS (fun k hk => by have := hk.1; omega) (by omega) hxq
      replace HFL := HFL.ext (hxq.weak fun k _ hk => by have := hk.1; omega)
      replace hZo := Nat.le_trans hZo hxq.size
      clear hrq hxq
      refine hK.out _ _ trivial (fun hHeld => ?_)
      clear hK K
      try simp only [Act.put, nrmA, nrmZ, nrmS]
      refine rd2 2 4 rfl rfl (by kernel_rfl) (fun K hK => ?_) fun K hK => ?_
      ·skip
       have CV := conv_vs (P := Tryz.prog) ((own_u8 (ok' := fun _ => True) ho5).sl fun _ _ => trivial) 29 9 5 Tryz.underlying29 Tryz.underlying5 Tryz.underlying9
       go_simp
       clear CV
       refine hK.out _ _ trivial (fun hHeld => ?_)
       clear hK K
       try simp only [Act.put, nrmA, nrmZ, nrmS]
       refine rd1 4 rfl (by kernel_rfl) fun K hK => ?_
       go_simp
       refine (HI.out _ J.rd).mono ?_
       rintro x9 wq3 ⟨rfl, hrq, hxq⟩
       replace J := J.call hrq hxq
       replace LC := loc_ext hxq (by omega) LC
       replace LR := loc_ext hxq (by omega) LR
       replace LF := loc_ext hxq (by omega) LF
       replace ho5 := own_u8_far ho5 hgv hxq
       replace HOS := own_farP HOS (fun k hk => by have := hk.1; omega) (by omega) hxq
       replace HFL := HFL.ext (hxq.weak fun k _ hk => by have := hk.1; omega)
       replace hZo := Nat.le_trans hZo hxq.size
       clear hrq hxq
       refine hK.out _ _ trivial (fun hHeld => ?_)
       clear hK K
       try simp only [Act.put, nrmA, nrmZ, nrmS]
       refine takeG 5 51 (.agg #[.string ⟨en.toArray⟩, .int .i64 k, .slice none 0 0]) rfl rfl (by kernel_rfl) (fun _ _ _ h => h) (Or.inl ⟨by rfl, by (intro wz hSw; (try dsimp only at hSw); go_simp)⟩) (by assumption) ?_
       try simp only [Act.put, nrmA, nrmZ, nrmS]
       refine rd1 7 rfl (by kernel_rfl) fun K hK => ?_
       obtain ⟨m0, m1, m2, u0, u1, u2, hzm⟩ := op3 LF
       go_simp
       obtain ⟨LS1, XS1⟩ := st3 LF (.string ⟨en.toArray⟩) (.int .i64 k) (.slice none 0 0)
       refine hK.out _ _ trivial (fun hHeld => ?_)
       clear hK K
       try simp only [Act.put, nrmA, nrmZ, nrmS]
       refine wpAnyH_done (by kernel_rfl) ?_ _
       simp only [Exit.then]
       apply_assumption
       go_meet
       exact ⟨_, rfl, by omega, LS1, loc_ext XS1 (by omega) LC, J.off XS1 (by omega) hgw, loc_ext XS1 (by omega) LR, own_off HOS (fun k hk => by have := hk.2; omega) (fun k hk => by have := HVS.out k hk; omega) XS1, HFL.ext (XS1.weak fun k _ hk => by have := hk.2; omega)⟩
      ·skip
       go_simp
       refine (HI.out _ J.rd).mono ?_
       rintro x9 wq3 ⟨rfl, hrq, hxq⟩
       replace J := J.call hrq hxq
       replace LC := loc_ext hxq (by omega) LC
       replace LR := loc_ext hxq (by omega) LR
       replace LF := loc_ext hxq (by omega) LF
       replace ho5 := own_u8_far ho5 hgv hxq
       replace HOS := own_farP HOS (fun k hk => by have := hk.1; omega) (by omega) hxq
       replace HFL := HFL.ext (hxq.weak fun k _ hk => by have := hk.1; omega)
       replace hZo := Nat.le_trans hZo hxq.size
       clear hrq hxq
       refine hK.out _ _ trivial (fun hHeld => ?_)
       clear hK K
       try simp only [Act.put, nrmA, nrmZ, nrmS]
       refine rd1 2 rfl (by kernel_rfl) fun K hK => ?_
       have CV := conv_vs (P := Tryz.prog) ((own_u8 (ok' := fun _ => True) ho5).sl fun _ _ => trivial) 29 9 5 Tryz.underlying29 Tryz.underlying5 Tryz.underlying9
       go_simp
       clear CV
       refine hK.out _ _ trivial (fun hHeld => ?_)
       clear hK K
       try simp only [Act.put, nrmA, nrmZ, nrmS]
       refine takeG 5 51 (.agg #[.string ⟨en.toArray⟩, .int .i64 k, .slice none 0 0]) rfl rfl (by kernel_rfl) (fun _ _ _ h => h) (Or.inl ⟨by rfl, by (intro wz hSw; (try dsimp only at hSw); go_simp)⟩) (by assumption) ?_
       try simp only [Act.put, nrmA, nrmZ, nrmS]
       refine rd1 7 rfl (by kernel_rfl) fun K hK => ?_
       obtain ⟨m0, m1, m2, u0, u1, u2, hzm⟩ := op3 LF
       go_simp
       obtain ⟨LS1, XS1⟩ := st3 LF (.string ⟨en.toArray⟩) (.int .i64 k) (.slice none 0 0)
       refine hK.out _ _ trivial (fun hHeld => ?_)
       clear hK K
       try simp only [Act.put, nrmA, nrmZ, nrmS]
       refine wpAnyH_done (by kernel_rfl) ?_ _
       simp only [Exit.then]
       apply_assumption
       go_meet
       exact ⟨_, rfl, by omega, LS1, loc_ext XS1 (by omega) LC, J.off XS1 (by omega) hgw, loc_ext XS1 (by omega) LR, own_off HOS (fun k hk => by have := hk.2; omega) (fun k hk => by have := HVS.out k hk; omega) XS1, HFL.ext (XS1.weak fun k _ hk => by have := hk.2; omega)⟩
    case rest =>
    obtain ⟨sb, rfl, hsb, LF, LC1, J1, LR1, HOS1, HFL1⟩ := hcut
    clear J LC LR HOS HFL HB HI
    have LC := LC1
    have LR := LR1
    have HOS := HOS1
    have HFL := HFL1
    have J := J1
    clear J1 LC1 LR1 HOS1 HFL1
    obtain ⟨w5, hwx⟩ : ∃ x, x = wc := ⟨_, rfl⟩
    subst hwx
    have C1 := Lib.hid (qCount_c g 4 s6 J.rd)
    have hle4 : (rCount 4 s6).1 ≤ 4 := rCount_le4 s6
    generalize rCount 4 s6 = p4 at *
    obtain ⟨m, s7⟩ := p4
    replace ES := Lib.hid (show qStage s4 = (⟨en, k, (qN rInt s7 m).1⟩, (qN rInt s7 m).2) from ES.out)
    replace C1 := Lib.hid (show Calls Tryz.prog 138 #[.pointer (some ⟨g, 0, none⟩), .int .i64 4] w5 (Rq (fun k => ok k ∧ k < w.heap.size) g w5 (.int .i64 (m : Int)) s7) from C1.out)
    simp only at hle4
    go_wp2_with fail
    refine C1.out.mono ?_
    rintro x9 w6 ⟨rfl, hr6, hx6⟩
    replace J := J.call hr6 hx6
    replace LF := loc_ext hx6 (by omega) LF
    replace LC := loc_ext hx6 (by omega) LC
    replace LR := loc_ext hx6 (by omega) LR
    replace HOS := own_farP HOS (fun k hk => by have := hk.1; omega) (by omega) hx6
    replace HFL := HFL.ext (hx6.weak fun k _ hk => by have := hk.1; omega)
    clear hr6 hx6 C1
    have hzf := lt_of_heap LF
    go_wp2_with fail
    generalize hB : w6.heap.size = B at *
    have hB6 : B ≤ w6.heap.size := by omega
    clear hB
    go_loopw [13] (fun v13 wz => QS2 ok w g Z #[.string ⟨nm.toArray⟩, .slice Af fl.length cf, .slice As sg.length cs, .slice none 0 0] en k s7 m sb B fl sg Af As cf cs BS v13 wz) (fun v13 _ => m - (intOf v13).toNat)
    case atStart => exact ⟨0, _, Nat.zero_le _, rfl, LF, LC, J, LR, HOS, HFL, Own.nil _ _ _ _ _, hB6⟩
    case round =>
     obtain ⟨wi, hwx⟩ : ∃ x, x = wr := ⟨_, rfl⟩
     subst hwx
     clear J LC LR LF HOS HFL hB6
     obtain ⟨j, kv, hj, rfl, LF, LC, J, LR, HOS, HFL, HO, hwi⟩ := hrel
     have EM := Lib.hid (show (qN rInt s7 (j + 1)) = ((qN rInt s7 j).1 ++ [(rInt (qN rInt s7 j).2).1], (rInt (qN rInt s7 j).2).2) from rfl)
     have EJ := Lib.hid (qN_len rInt s7 j)
     have EX := Lib.hid (fun (h : j = m) => show qStage s4 = (⟨en, k, (qN rInt s7 j).1⟩, (qN rInt s7 j).2) by rw [ES.out, h])
     generalize qN rInt s7 j = q2 at *
     obtain ⟨l, s8⟩ := q2
     replace HO : Own kI 3 (fun k => B ≤ k) wi B kv l := HO
     replace J : QL ok w g s8 wi := J
     obtain ⟨Ak, nk, ck, rfl, hnk⟩ := HO.form'
     obtain rfl : nk = l.length := hnk
     by_cases hjn : j < m
     rotate_left
     ·have hj2 : j = m := by omega
      have hjn1 : ¬ (j : Int) < (m : Int) := by omega
      have ES1 := Lib.hid (show qStage s4 = (⟨en, k, l⟩, s8) from EX.out hj2)
      clear hj2 EX ES EM EJ hjn
      obtain ⟨x0, x1, x2⟩ := cells3 LF
      have hzx := lt_of_heap LF
      have m2 := cell_of LC 2
      have u2 := free_of LC 2
      have hze := lt_of_heap LC
      simp only [List.getElem?_toArray, List.getElem?_cons_zero, List.getElem?_cons_succ] at m2
      have hR := stg_mk (s := ⟨en, k, l⟩) ((HO.sl fun k hk => hk).weak (ok' := fun k => Z ≤ k) fun k hk => by have : B ≤ k := hk; omega)
      have AB := Lib.hid (append_fresh (P := Tryz.prog) (d := kStg) (e := 68) (t := 23) (tx := 23) (ty := 23) (w := wi) (base := BS) (b0 := Z) Tryz.underlying23 Tryz.underlying23 infoStgT rfl (HOS.weak fun k hk => hk.1) (by omega) hR (by omega) HVS.out (by omega) (by omega))
      clear hR
      go_wp2_with (at_builtin; refine at_append rfl (.tmp 67) (.tmp 69) 23 23 rfl rfl rfl AB.out ?_; rintro v' w'' ⟨ho2, hg2⟩; obtain ⟨A9, n9, c9, rfl, hn9⟩ := ho2.form'; have hL9 := (show Loc1 w.heap.size 26 #[.string ⟨nm.toArray⟩, .slice Af fl.length cf, .slice As sg.length cs, .slice none 0 0] w'' from (hg2.block _ (lt_of_heap LC) (fun e => by have := (HOS.lt _ e.symm).1; omega)).trans LC); have m1w := cell_of hL9 2; have u1w := free_of hL9 2; have HN9 := Lib.hid hn9; have HO3 := Lib.hid ho2; have HG2 := Lib.hid hg2; clear ho2 hg2 hn9)
      have XG : Ext (fun k => k < BS) wi w'' := ⟨HG2.out.os, HG2.out.tape, HG2.out.output, HG2.out.size, fun k hk hkb => HG2.out.block k hk (fun e => by have := (HOS.lt k e.symm).1; omega)⟩
      have XF : Ext (fun k => k ≠ w.heap.size) w'' (w''.setCell ⟨w.heap.size, 2, none⟩ (.slice A9 n9 c9)) := ext_set_ne (Ext.refl _ _) 2 _
      have JF := (J.grown XG (by omega) hgw).off XF (by omega) hgw
      have LEF : Loc1 w.heap.size 26 #[.string ⟨nm.toArray⟩, .slice Af fl.length cf, .slice A9 n9 c9, .slice none 0 0] (w''.setCell ⟨w.heap.size, 2, none⟩ (.slice A9 n9 c9)) := by have := heap_set hL9 2 (.slice A9 n9 c9); unfold Loc1; simpa using this
      have LRF := loc_ext XF (by omega) ((XG.block _ (lt_of_heap LR) (by omega)).trans LR)
      have OF := own_far HO3.out (show w.heap.size < BS by omega) XF
      have FF := (HFL.ext (XG.weak fun k _ hk => hk.2)).ext (XF.weak fun k _ hk => by have := hk.1; omega)
      have hwf : BS ≤ (w''.setCell ⟨w.heap.size, 2, none⟩ (.slice A9 n9 c9)).heap.size := by
       rw [World.size_setCell]
       have h1 := XG.size
       omega
      have EN2 := Lib.hid (show qN qStage s3 (i + 1) = (sg ++ [⟨en, k, l⟩], s8) by rw [EN.out]; show (sg ++ [(qStage s4).1], (qStage s4).2) = _; rw [ES1.out])
      go_roundw
      case rel => exact ⟨i + 1, _, by omega, by go_num, LEF, EN2.out ▸ JF, LRF, EN2.out ▸ OF, hwf, FF⟩
      case measure => simp [intOf]; omega
     have hj0 : (j : Int) < (m : Int) := by omega
     have HI := Lib.hid (fun (W : World) (h : RdQ (fun k => ok k ∧ k < w.heap.size) g W s8.1 s8.2) => qInt_c g s8 h)
     generalize rInt s8 = p5 at *
     obtain ⟨o, s9⟩ := p5
     replace HI := Lib.hid (show ∀ (W : World), RdQ (fun k => ok k ∧ k < w.heap.size) g W s8.1 s8.2 → Calls Tryz.prog 140 #[.pointer (some ⟨g, 0, none⟩)] W (Rq (fun k => ok k ∧ k < w.heap.size) g W (.int .i64 o) s9) from HI.out)
     have hgB : g < B := by omega
     have hl4 : l.length ≤ 4 := by have : l.length = j := EJ.out; omega
     have hHVB := Lib.hid (fun k hk => Nat.lt_of_lt_of_le (HVS.out k hk) (show Z ≤ B by omega))
     go_upto_region 18 with (fail)
     refine wp_region_held_drew (S := fun W => True) (by kernel_rfl) trivial (fun hHeld => ?_)
     replace J := J.below (show Below wi.heap.size wi wi.drew from bW)
     replace LF := LF.dr
     replace LC := LC.dr
     replace LR := LR.dr
     replace HOS := HOS.below (show Below wi.heap.size wi wi.drew from bW)
     replace HFL := HFL.below (show Below wi.heap.size wi wi.drew from bW)
     replace HO := HO.below (show Below wi.heap.size wi wi.drew from bW)
     replace hwi : B ≤ wi.drew.heap.size := hwi
     clear hHeld
     have hHeld : True := trivial
     generalize hwd : wi.drew = wd at *
     clear hwd
     refine takeG 0 59 (.pointer (some ⟨sb, 2, none⟩)) rfl rfl (by kernel_rfl) (fun _ _ _ h => h) (Or.inl ⟨by rfl, by (intro wz hSw; (try dsimp only at hSw); go_simp)⟩) (by assumption) ?_
     try simp only [Act.put, nrmA, nrmZ, nrmS]
     refine takeG 2 61 (.pointer (some ⟨g, 0, none⟩)) rfl rfl (by kernel_rfl) (fun _ _ _ h => h) (Or.inl ⟨by rfl, by (intro wz hSw; (try dsimp only at hSw); go_simp)⟩) (by assumption) ?_
     try simp only [Act.put, nrmA, nrmZ, nrmS]
     refine rd2 1 3 rfl rfl (by kernel_rfl) (fun K hK => ?_) fun K hK => ?_
     ·skip
      have mld := cell_of LF 2
      simp only [List.getElem?_toArray, List.getElem?_cons_zero, List.getElem?_cons_succ] at mld
      go_simp
      clear mld
      refine hK.out _ _ trivial (fun hHeld => ?_)
      clear hK K
      try simp only [Act.put, nrmA, nrmZ, nrmS]
      refine rd1 3 rfl (by kernel_rfl) fun K hK => ?_
      go_simp
      refine (HI.out _ J.rd).mono ?_
      rintro x9 wq1 ⟨rfl, hrq, hxq⟩
      replace J := J.call hrq hxq
      replace LF := loc_ext hxq (by omega) LF
      replace LC := loc_ext hxq (by omega) LC
      replace LR := loc_ext hxq (by omega) LR
      replace HOS := own_farP HOS (fun k hk => by have := hk.1; omega) (by omega) hxq
      replace HFL := HFL.ext (hxq.weak fun k _ hk => by have := hk.1; omega)
      replace HO := own_int_far HO hgB hxq
      replace hwi := Nat.le_trans hwi hxq.size
      clear hrq hxq
      refine hK.out _ _ trivial (fun hHeld => ?_)
      clear hK K
      try simp only [Act.put, nrmA, nrmZ, nrmS]
      refine rd1 4 rfl (by kernel_rfl) fun K hK => ?_
      have AB := Lib.hid (append_fresh (P := Tryz.prog) (d := kI) (e := 3) (t := 66) (tx := 66) (ty := 66) (w := wq1) (base := B) (b0 := wq1.heap.size) Tryz.underlying66 Tryz.underlying66 infoInt rfl HO (by omega) (c := [.int .i64 o]) rfl (by omega) (fun k hk => (HO.lt k hk).2) (by omega) (by omega))
      go_simp
      have LFa : Loc1 _ _ _ (wq1.alloc (.cells #[.int .i64 o] 3)) := LF.al _
      refine hK.out _ _ trivial (fun hHeld => ?_)
      clear hK K
      try simp only [Act.put, nrmA, nrmZ, nrmS]
      refine rd1 5 rfl (by kernel_rfl) fun K hK => ?_
      refine step_append rfl (.tmp 60) (.tmp 63) 66 66 rfl rfl rfl AB.out ?_
      rintro v' w'' ⟨ho2, hg2⟩
      obtain ⟨A9, n9, c9, rfl, hn9⟩ := ho2.form'
      have XG : Ext (fun k => k < B) wq1 w'' := ⟨hg2.os, hg2.tape, hg2.output, hg2.size, fun k hk hkb => hg2.block k hk (fun e => by have := (HO.lt k e.symm).1; omega)⟩
      replace J := J.grown XG (by omega) hgw
      replace LF := (XG.block _ (lt_of_heap LF) (by omega)).trans LF
      replace LC := (XG.block _ (lt_of_heap LC) (by omega)).trans LC
      replace LR := (XG.block _ (lt_of_heap LR) (by omega)).trans LR
      replace HOS := own_under HOS (fun k hk => by have := hk.2; omega) hHVB.out XG
      replace HFL := HFL.ext (XG.weak fun k _ hk => by have := hk.2; omega)
      have hwB : B ≤ w''.heap.size := by have := XG.size; omega
      have HN9 := Lib.hid hn9
      have HO2 := Lib.hid ho2
      clear ho2 hg2 hn9 XG AB LFa
      refine hK.out _ _ trivial (fun hHeld => ?_)
      clear hK K
      try simp only [Act.put, nrmA, nrmZ, nrmS]
      refine takeG 6 65 (.pointer (some ⟨sb, 2, none⟩)) rfl rfl (by kernel_rfl) (fun _ _ _ h => h) (Or.inl ⟨by rfl, by (intro wz hSw; (try dsimp only at hSw); go_simp)⟩) (by assumption) ?_
      try simp only [Act.put, nrmA, nrmZ, nrmS]
      refine rd1 7 rfl (by kernel_rfl) fun K hK => ?_
      have m1w := cell_of LF 2
      have u1w := free_of LF 2
      have hzw := lt_of_heap LF
      simp only [List.getElem?_toArray, List.getElem?_cons_zero, List.getElem?_cons_succ] at m1w
      go_simp
      refine hK.out _ _ trivial (fun hHeld => ?_)
      clear hK K
      try simp only [Act.put, nrmA, nrmZ, nrmS]
      refine wpAnyH_done (by kernel_rfl) ?_ _
      have XF : Ext (fun k => k ≠ sb) w'' (w''.setCell ⟨sb, 2, none⟩ (.slice A9 n9 c9)) := ext_set_ne (Ext.refl _ _) 2 _
      have LFF : Loc1 sb 68 #[.string ⟨en.toArray⟩, .int .i64 k, .slice A9 n9 c9] (w''.setCell ⟨sb, 2, none⟩ (.slice A9 n9 c9)) := by have := heap_set LF 2 (.slice A9 n9 c9); unfold Loc1; simpa using this
      have JF := J.off XF (by omega) hgw
      have LRF := loc_ext XF (by omega) LR
      have OF := own_sc_far (h1 := fun _ => rfl) HO2.out (show sb < B by omega) XF
      have hwF : B ≤ (w''.setCell ⟨sb, 2, none⟩ (.slice A9 n9 c9)).heap.size := by rw [World.size_setCell]; exact hwB
      have LCF := loc_ext XF (by omega) LC
      have HOF := own_off HOS (fun k hk => by have := hk.2; omega) (fun k hk => by have := HVS.out k hk; omega) XF
      have FF := HFL.ext (XF.weak fun k _ hk => by have := hk.2; omega)
      (try simp only [Exit.inBlock, Exit.then])
      go_wp2_with fail
      go_roundw
      case rel => exact ⟨j + 1, _, by omega, by go_num, LFF, LCF, EM.out ▸ JF, LRF, HOF, FF, EM.out ▸ own_sc (h1 := fun _ => rfl) OF, hwF⟩
      case measure => simp [intOf]; omega
     ·skip
      go_simp
      refine (HI.out _ J.rd).mono ?_
      rintro x9 wq1 ⟨rfl, hrq, hxq⟩
      replace J := J.call hrq hxq
      replace LF := loc_ext hxq (by omega) LF
      replace LC := loc_ext hxq (by omega) LC
      replace LR := loc_ext hxq (by omega) LR
      replace HOS := own_farP HOS (fun k hk => by have := hk.1; omega) (by omega) hxq
      replace HFL := HFL.ext (hxq.weak fun k _ hk => by have := hk.1; omega)
      replace HO := own_int_far HO hgB hxq
      replace hwi := Nat.le_trans hwi hxq.size
      clear hrq hxq
      refine hK.out _ _ trivial (fun hHeld => ?_)
      clear hK K
      try simp only [Act.put, nrmA, nrmZ, nrmS]
      refine rd2 1 4 rfl rfl (by kernel_rfl) (fun K hK => ?_) fun K hK => ?_
      ·skip
       have mld := cell_of LF 2
       simp only [List.getElem?_toArray, List.getElem?_cons_zero, List.getElem?_cons_succ] at mld
       go_simp
       clear mld
       refine hK.out _ _ trivial (fun hHeld => ?_)
       clear hK K
       try simp only [Act.put, nrmA, nrmZ, nrmS]
       refine rd1 4 rfl (by kernel_rfl) fun K hK => ?_
       have AB := Lib.hid (append_fresh (P := Tryz.prog) (d := kI) (e := 3) (t := 66) (tx := 66) (ty := 66) (w := wq1) (base := B) (b0 := wq1.heap.size) Tryz.underlying66 Tryz.underlying66 infoInt rfl HO (by omega) (c := [.int .i64 o]) rfl (by omega) (fun k hk => (HO.lt k hk).2) (by omega) (by omega))
       go_simp
       have LFa : Loc1 _ _ _ (wq1.alloc (.cells #[.int .i64 o] 3)) := LF.al _
       refine hK.out _ _ trivial (fun hHeld => ?_)
       clear hK K
       try simp only [Act.put, nrmA, nrmZ, nrmS]
       refine rd1 5 rfl (by kernel_rfl) fun K hK => ?_
       refine step_append rfl (.tmp 60) (.tmp 63) 66 66 rfl rfl rfl AB.out ?_
       rintro v' w'' ⟨ho2, hg2⟩
       obtain ⟨A9, n9, c9, rfl, hn9⟩ := ho2.form'
       have XG : Ext (fun k => k < B) wq1 w'' := ⟨hg2.os, hg2.tape, hg2.output, hg2.size, fun k hk hkb => hg2.block k hk (fun e => by have := (HO.lt k e.symm).1; omega)⟩
       replace J := J.grown XG (by omega) hgw
       replace LF := (XG.block _ (lt_of_heap LF) (by omega)).trans LF
       replace LC := (XG.block _ (lt_of_heap LC) (by omega)).trans LC
       replace LR := (XG.block _ (lt_of_heap LR) (by omega)).trans LR
       replace HOS := own_under HOS (fun k hk => by have := hk.2; omega) hHVB.out XG
       replace HFL := HFL.ext (XG.weak fun k _ hk => by have := hk.2; omega)
       have hwB : B ≤ w''.heap.size := by have := XG.size; omega
       have HN9 := Lib.hid hn9
       have HO2 := Lib.hid ho2
       clear ho2 hg2 hn9 XG AB LFa
       refine hK.out _ _ trivial (fun hHeld => ?_)
       clear hK K
       try simp only [Act.put, nrmA, nrmZ, nrmS]
       refine takeG 6 65 (.pointer (some ⟨sb, 2, none⟩)) rfl rfl (by kernel_rfl) (fun _ _ _ h => h) (Or.inl ⟨by rfl, by (intro wz hSw; (try dsimp only at hSw); go_simp)⟩) (by assumption) ?_
       try simp only [Act.put, nrmA, nrmZ, nrmS]
       refine rd1 7 rfl (by kernel_rfl) fun K hK => ?_
       have m1w := cell_of LF 2
       have u1w := free_of LF 2
       have hzw := lt_of_heap LF
       simp only [List.getElem?_toArray, List.getElem?_cons_zero, List.getElem?_cons_succ] at m1w
       go_simp
       refine hK.out _ _ trivial (fun hHeld => ?_)
       clear hK K
       try simp only [Act.put, nrmA, nrmZ, nrmS]
       refine wpAnyH_done (by kernel_rfl) ?_ _
       have XF : Ext (fun k => k ≠ sb) w'' (w''.setCell ⟨sb, 2, none⟩ (.slice A9 n9 c9)) := ext_set_ne (Ext.refl _ _) 2 _
       have LFF : Loc1 sb 68 #[.string ⟨en.toArray⟩, .int .i64 k, .slice A9 n9 c9] (w''.setCell ⟨sb, 2, none⟩ (.slice A9 n9 c9)) := by have := heap_set LF 2 (.slice A9 n9 c9); unfold Loc1; simpa using this
       have JF := J.off XF (by omega) hgw
       have LRF := loc_ext XF (by omega) LR
       have OF := own_sc_far (h1 := fun _ => rfl) HO2.out (show sb < B by omega) XF
       have hwF : B ≤ (w''.setCell ⟨sb, 2, none⟩ (.slice A9 n9 c9)).heap.size := by rw [World.size_setCell]; exact hwB
       have LCF := loc_ext XF (by omega) LC
       have HOF := own_off HOS (fun k hk => by have := hk.2; omega) (fun k hk => by have := HVS.out k hk; omega) XF
       have FF := HFL.ext (XF.weak fun k _ hk => by have := hk.2; omega)
       (try simp only [Exit.inBlock, Exit.then])
       go_wp2_with fail
       go_roundw
       case rel => exact ⟨j + 1, _, by omega, by go_num, LFF, LCF, EM.out ▸ JF, LRF, HOF, FF, EM.out ▸ own_sc (h1 := fun _ => rfl) OF, hwF⟩
       case measure => simp [intOf]; omega
      ·skip
       have AB := Lib.hid (append_fresh (P := Tryz.prog) (d := kI) (e := 3) (t := 66) (tx := 66) (ty := 66) (w := wq1) (base := B) (b0 := wq1.heap.size) Tryz.underlying66 Tryz.underlying66 infoInt rfl HO (by omega) (c := [.int .i64 o]) rfl (by omega) (fun k hk => (HO.lt k hk).2) (by omega) (by omega))
       go_simp
       have LFa : Loc1 _ _ _ (wq1.alloc (.cells #[.int .i64 o] 3)) := LF.al _
       refine hK.out _ _ trivial (fun hHeld => ?_)
       clear hK K
       try simp only [Act.put, nrmA, nrmZ, nrmS]
       refine rd1 1 rfl (by kernel_rfl) fun K hK => ?_
       have mld := cell_of LFa 2
       simp only [List.getElem?_toArray, List.getElem?_cons_zero, List.getElem?_cons_succ] at mld
       go_simp
       clear mld
       refine hK.out _ _ trivial (fun hHeld => ?_)
       clear hK K
       try simp only [Act.put, nrmA, nrmZ, nrmS]
       refine rd1 5 rfl (by kernel_rfl) fun K hK => ?_
       refine step_append rfl (.tmp 60) (.tmp 63) 66 66 rfl rfl rfl AB.out ?_
       rintro v' w'' ⟨ho2, hg2⟩
       obtain ⟨A9, n9, c9, rfl, hn9⟩ := ho2.form'
       have XG : Ext (fun k => k < B) wq1 w'' := ⟨hg2.os, hg2.tape, hg2.output, hg2.size, fun k hk hkb => hg2.block k hk (fun e => by have := (HO.lt k e.symm).1; omega)⟩
       replace J := J.grown XG (by omega) hgw
       replace LF := (XG.block _ (lt_of_heap LF) (by omega)).trans LF
       replace LC := (XG.block _ (lt_of_heap LC) (by omega)).trans LC
       replace LR := (XG.block _ (lt_of_heap LR) (by omega)).trans LR
       replace HOS := own_under HOS (fun k hk => by have := hk.2; omega) hHVB.out XG
       replace HFL := HFL.ext (XG.weak fun k _ hk => by have := hk.2; omega)
       have hwB : B ≤ w''.heap.size := by have := XG.size; omega
       have HN9 := Lib.hid hn9
       have HO2 := Lib.hid ho2
       clear ho2 hg2 hn9 XG AB LFa
       refine hK.out _ _ trivial (fun hHeld => ?_)
       clear hK K
       try simp only [Act.put, nrmA, nrmZ, nrmS]
       refine takeG 6 65 (.pointer (some ⟨sb, 2, none⟩)) rfl rfl (by kernel_rfl) (fun _ _ _ h => h) (Or.inl ⟨by rfl, by (intro wz hSw; (try dsimp only at hSw); go_simp)⟩) (by assumption) ?_
       try simp only [Act.put, nrmA, nrmZ, nrmS]
       refine rd1 7 rfl (by kernel_rfl) fun K hK => ?_
       have m1w := cell_of LF 2
       have u1w := free_of LF 2
       have hzw := lt_of_heap LF
       simp only [List.getElem?_toArray, List.getElem?_cons_zero, List.getElem?_cons_succ] at m1w
       go_simp
       refine hK.out _ _ trivial (fun hHeld => ?_)
       clear hK K
       try simp only [Act.put, nrmA, nrmZ, nrmS]
       refine wpAnyH_done (by kernel_rfl) ?_ _
       have XF : Ext (fun k => k ≠ sb) w'' (w''.setCell ⟨sb, 2, none⟩ (.slice A9 n9 c9)) := ext_set_ne (Ext.refl _ _) 2 _
       have LFF : Loc1 sb 68 #[.string ⟨en.toArray⟩, .int .i64 k, .slice A9 n9 c9] (w''.setCell ⟨sb, 2, none⟩ (.slice A9 n9 c9)) := by have := heap_set LF 2 (.slice A9 n9 c9); unfold Loc1; simpa using this
       have JF := J.off XF (by omega) hgw
       have LRF := loc_ext XF (by omega) LR
       have OF := own_sc_far (h1 := fun _ => rfl) HO2.out (show sb < B by omega) XF
       have hwF : B ≤ (w''.setCell ⟨sb, 2, none⟩ (.slice A9 n9 c9)).heap.size := by rw [World.size_setCell]; exact hwB
       have LCF := loc_ext XF (by omega) LC
       have HOF := own_off HOS (fun k hk => by have := hk.2; omega) (fun k hk => by have := HVS.out k hk; omega) XF
       have FF := HFL.ext (XF.weak fun k _ hk => by have := hk.2; omega)
       (try simp only [Exit.inBlock, Exit.then])
       go_wp2_with fail
       go_roundw
       case rel => exact ⟨j + 1, _, by omega, by go_num, LFF, LCF, EM.out ▸ JF, LRF, HOF, FF, EM.out ▸ own_sc (h1 := fun _ => rfl) OF, hwF⟩
       case measure => simp [intOf]; omega
  have hi0 : (i0 : Int) < (n0 : Int) := by omega
  have hl6 : fl.length ≤ 6 := by have : fl.length = i0 := EL.out; omega
  have C1 := Lib.hid (qfield_c g s2 J.rd)
  cases hx : qField s2 with
  | error x =>
   rw [hx] at C1
   have hx0 := Lib.hid (qField_err hx)
   have hx1 : (x != 0) = true := by simpa using qField_err hx
   have E1 := Lib.hid (show r = .error x by rw [E.out, qE_stop (i := i0 + 1) (qE_bad HQ.out hx) n0 hin]; rfl)
   clear hx
   go_wp2_with fail
   refine C1.out.mono ?_
   rintro x9 w3 ⟨⟨-, f, A3, n3, c3, rfl⟩, hx3⟩
   have X3 := J.ext.trans hx3
   replace LC := loc_ext hx3 (by omega) LC
   replace LR := loc_ext hx3 (by omega) LR
   clear C1 J hx3
   go_upto_region 6 with (fail)
   have BA : Below w3.heap.size w3 (w3.alloc (.cells #[.string ⟨f.name.toArray⟩, .int .i64 f.kind, .slice A3 n3 c3, .int .i64 f.init.kind, .int .i64 f.init.int, .bool f.init.bool, .string ⟨f.init.text.toArray⟩, .float .f64 f.init.num] 41)) := bW
   replace LC := LC.bel BA
   replace LR := LR.bel BA
   replace X3 := X3.trans (Below.ext BA _)
   clear BA
   generalize hw6 : (w3.alloc (.cells #[.string ⟨f.name.toArray⟩, .int .i64 f.kind, .slice A3 n3 c3, .int .i64 f.init.kind, .int .i64 f.init.int, .bool f.init.bool, .string ⟨f.init.text.toArray⟩, .float .f64 f.init.num] 41)) = w4 at *
   clear hw6
   obtain ⟨m0, m1, m2, m3⟩ := cells4 LC
   have hzm := lt_of_heap LC
   obtain ⟨q0, q1, q2, q3, y0, y1, y2, y3, hzq⟩ := op4 LR
   obtain ⟨LS1, XS1⟩ := st4 LR (.string ⟨nm.toArray⟩) (.slice Af nk cf) (.slice none 0 0) (.slice none 0 0)
   have HF := Lib.hid (ext_off X3 XS1 (by omega))
   obtain ⟨v0, v1, v2, v3⟩ := cells4 LS1
   clear LS1 XS1 X3
   go_wp21
   rw [E1.out]
   exact bodyPost_ret (v := .tuple #[.agg #[.string ⟨nm.toArray⟩, .slice Af nk cf, .slice none 0 0, .slice none 0 0], .int .i64 x]) (by simp [results, Tryz.results81, go_sem, v0, v1, v2, v3]) rfl ⟨⟨hx0.out, nm, _, _, _, _, _, _, _, _, _, rfl⟩, HF.out⟩
  | ok p =>
  rw [hx] at C1
  obtain ⟨f, s3⟩ := p
  have HQ2 := Lib.hid (show qE qField s1 (i0 + 1) = .ok (fl ++ [f], s3) from qE_next HQ.out hx)
  clear hx
  go_wp2_with fail
  refine C1.out.mono ?_
  rintro x9 w3 ⟨⟨cs, rfl, hR, hr3⟩, hx3⟩
  have hR0 := hR
  obtain ⟨A3, c3, rfl, -⟩ := fld_open hR0
  clear hR0
  replace J := J.call hr3 hx3
  replace LC := loc_ext hx3 (by omega) LC
  replace LR := loc_ext hx3 (by omega) LR
  have HV := Lib.hid (fun k (hk : (Value.slice Af nk cf).ownBlock = some k) => (HO.lt k hk).2)
  replace HO := own_far HO (by omega) hx3
  have hws3 := Nat.le_trans hws hx3.size
  clear hr3 hx3 C1
  go_upto_region 8 with (fail)
  have BA : Below w3.heap.size w3 (w3.alloc (.cells #[.string ⟨f.name.toArray⟩, .int .i64 f.kind, .slice A3 f.enum.length c3, .int .i64 f.init.kind, .int .i64 f.init.int, .bool f.init.bool, .string ⟨f.init.text.toArray⟩, .float .f64 f.init.num] 41)) := bW
  have LG := Loc1.new w3 41 #[.string ⟨f.name.toArray⟩, .int .i64 f.kind, .slice A3 f.enum.length c3, .int .i64 f.init.kind, .int .i64 f.init.int, .bool f.init.bool, .string ⟨f.init.text.toArray⟩, .float .f64 f.init.num]
  replace LC := LC.bel BA
  replace LR := LR.bel BA
  replace J := J.below BA
  replace HO := HO.below BA
  replace hR := Kd.below hR BA
  have hwsA := Nat.le_trans hws3 BA.size
  clear BA
  generalize hw6 : (w3.alloc (.cells #[.string ⟨f.name.toArray⟩, .int .i64 f.kind, .slice A3 f.enum.length c3, .int .i64 f.init.kind, .int .i64 f.init.int, .bool f.init.bool, .string ⟨f.init.text.toArray⟩, .float .f64 f.init.num] 41)) = wk at *
  clear hw6
  obtain ⟨x0, x1, x2, x3, x4, x5, x6, x7⟩ := cells8 LG
  have hzx := lt_of_heap LG
  have m1 := cell_of LC 1
  have u1 := free_of LC 1
  have hze := lt_of_heap LC
  simp only [List.getElem?_toArray, List.getElem?_cons_zero, List.getElem?_cons_succ] at m1
  have AB := Lib.hid (append_fresh (P := Tryz.prog) (d := kFld) (e := 41) (t := 22) (tx := 22) (ty := 22) (w := wk) (base := B) (b0 := wo.heap.size) Tryz.underlying22 Tryz.underlying22 infoFldT rfl HO (by omega) hR (by omega) HV.out (by omega) (by omega))
  clear hR
  go_wp2_with (at_builtin; refine at_append rfl (.tmp 34) (.tmp 36) 22 22 rfl rfl rfl AB.out ?_; rintro v' w'' ⟨ho2, hg2⟩; obtain ⟨A9, n9, c9, rfl, hn9⟩ := ho2.form'; have hL9 := (show Loc1 w.heap.size 26 #[.string ⟨nm.toArray⟩, .slice Af nk cf, .slice none 0 0, .slice none 0 0] w'' from (hg2.block _ (lt_of_heap LC) (fun e => by have := (HO.lt _ e.symm).1; omega)).trans LC); have m1w := cell_of hL9 1; have u1w := free_of hL9 1; have HN9 := Lib.hid hn9; have HO3 := Lib.hid ho2; have HG2 := Lib.hid hg2; clear ho2 hg2 hn9)
  have XG : Ext (fun k => k < B) wk w'' := ⟨HG2.out.os, HG2.out.tape, HG2.out.output, HG2.out.size, fun k hk hkb => HG2.out.block k hk (fun e => by have := (HO.lt k e.symm).1; omega)⟩
  have XF : Ext (fun k => k ≠ w.heap.size) w'' (w''.setCell ⟨w.heap.size, 1, none⟩ (.slice A9 n9 c9)) := ext_set_ne (Ext.refl _ _) 1 _
  have JF := (J.grown XG (by omega) hgw).off XF (by omega) hgw
  have LEF : Loc1 w.heap.size 26 #[.string ⟨nm.toArray⟩, .slice A9 n9 c9, .slice none 0 0, .slice none 0 0] (w''.setCell ⟨w.heap.size, 1, none⟩ (.slice A9 n9 c9)) := by have := heap_set hL9 1 (.slice A9 n9 c9); unfold Loc1; simpa using this
  have LRF := loc_ext XF (by omega) ((XG.block _ (lt_of_heap LR) (by omega)).trans LR)
  have OF := own_far HO3.out (show w.heap.size < B by omega) XF
  have hwf : B ≤ (w''.setCell ⟨w.heap.size, 1, none⟩ (.slice A9 n9 c9)).heap.size := by
   rw [World.size_setCell]
   have h1 := XG.size
   omega
  go_roundw
  case rel => exact ⟨i0 + 1, fl ++ [f], s3, _, by omega, by go_num, HQ2.out, LEF, JF, LRF, OF, hwf⟩
  case measure => simp [intOf]; omega
end
end Go.Proofs.YtjnhgfmjehaalaaGreat
/- The references' contracts, read: Get. -/
namespace Go.Proofs.YtjnhgfmjehaalaaGreat
open Go.RowKit
set_option linter.unusedVariables false
set_option linter.unusedSimpArgs false
def qC (s : RS) : Except Int (Con × RS) := match qCon s with | .error x => .error x | .ok p => if chkR p.1 6 ≠ 0 then .error 12 else .ok p
section
variable {ok : Nat → Prop} {w : World} {g : Nat}
/-- what the references' Get answers -/
def RetCq (ok : Nat → Prop) (g : Nat) (w : World) (r : Except Int (Con × RS)) (e : Ending) (w' : World) : Prop :=
 (match r with
   | .ok p => ∃ cs : List Value, e = .returned (.tuple #[.agg cs.toArray, .int .i64 0]) ∧ (kCon 6).R (fun k => w.heap.size ≤ k) w' cs p.1 ∧ RdQ ok g w' p.2.1 p.2.2
   | .error x => x ≠ 0 ∧ e = .returned (.tuple #[.agg #[.string ⟨#[]⟩, .slice none 0 0, .slice none 0 0, .slice none 0 0], .int .i64 x])) ∧ Ext (fun k => k ≠ g) w w'
set_option maxRecDepth 20000 in
set_option maxHeartbeats 20000000 in
theorem qcget_c (g : Nat) (s : RS) (h : RdQ ok g w s.1 s.2) : Calls Tryz.prog 19 #[.pointer (some ⟨g, 0, none⟩)] w (RetCq ok g w (qC s)) := by
 have SF := store_f64
 have hgw := h.lt
 have J := (QL.start h).below (show Below w.heap.size w (w.alloc (.cells #[.string ⟨#[]⟩, .slice none 0 0, .slice none 0 0, .slice none 0 0] 26)) from bW)
 have LR := Loc1.new w 26 #[.string ⟨#[]⟩, .slice none 0 0, .slice none 0 0, .slice none 0 0]
 have E := Lib.hid (show qC s = match qParts (rBytes 16 s).1 (rBytes 16 s).2 with | .error x => .error x | .ok p => if chkR p.1 6 ≠ 0 then .error 12 else .ok p from rfl)
 generalize qC s = r at *
 clear h
 go_enter Tryz.func19, Tryz.ntmps19
 go_upto_region 1 with (fail)
 generalize (w.alloc (.cells #[.string ⟨#[]⟩, .slice none 0 0, .slice none 0 0, .slice none 0 0] 26)) = w0 at *
 have HB := Lib.hid (qBytes_c g 16 s J.rd)
 generalize rBytes 16 s = p1 at *
 obtain ⟨nm, s1⟩ := p1
 replace HB := Lib.hid (show Calls Tryz.prog 82 #[.pointer (some ⟨g, 0, none⟩), .int .i64 16] w0 (fun e w' => ∃ v, e = .returned v ∧ Own kU8 5 (fun k => ok k ∧ k < w.heap.size) w' w0.heap.size v nm ∧ RdQ (fun k => ok k ∧ k < w.heap.size) g w' s1.1 s1.2 ∧ Ext (fun k => k ≠ g) w0 w') from HB.out)
 go_wp2_with fail
 refine HB.out.mono ?_
 rintro x9 w1 ⟨v5, rfl, ho5, hr1, hx1⟩
 obtain ⟨Av, nv, cv, rfl, -⟩ := ho5.form'
 have CV := conv_vs (P := Tryz.prog) ((own_u8 (ok' := fun _ => True) ho5).sl fun _ _ => trivial) 29 9 5 Tryz.underlying29 Tryz.underlying5 Tryz.underlying9
 replace J := J.call hr1 hx1
 replace LR := loc_ext hx1 (by omega) LR
 have HLT := Lib.hid (lt_of_heap LR)
 clear ho5 hr1 hx1 HB
 have C1 := Lib.hid (qparts_c g nm s1 J.rd)
 replace E := Lib.hid (show r = match qParts nm s1 with | .error x => .error x | .ok p => if chkR p.1 6 ≠ 0 then .error 12 else .ok p from E.out)
 cases hx : qParts nm s1 with
 | error x =>
  rw [hx] at C1
  have E1 := Lib.hid (show r = .error x by rw [E.out, hx])
  clear hx
  go_wp2_with fail
  refine C1.out.mono ?_
  rintro x9 w3 ⟨⟨hx0, n3, A, B, D, a, a2, b, b2, d, d2, rfl⟩, hx3⟩
  have hxn : (x != 0) = true := by simpa using hx0
  have HX0 := Lib.hid hx0
  have X3 := J.ext.trans hx3
  replace LR := loc_ext hx3 (by omega) LR
  clear C1 J hx3 hx0 CV
  go_upto_region 2 with (fail)
  have BA : Below w3.heap.size w3 (w3.alloc (.cells #[.string ⟨n3.toArray⟩, .slice A a a2, .slice B b b2, .slice D d d2] 26)) := bW
  replace LR := LR.bel BA
  replace X3 := X3.trans (Below.ext BA _)
  clear BA
  generalize hw6 : (w3.alloc (.cells #[.string ⟨n3.toArray⟩, .slice A a a2, .slice B b b2, .slice D d d2] 26)) = w4 at *
  clear hw6
  obtain ⟨q0, q1, q2, q3, y0, y1, y2, y3, hzq⟩ := op4 LR
  obtain ⟨LS1, XS1⟩ := st4 LR (.string ⟨#[]⟩) (.slice none 0 0) (.slice none 0 0) (.slice none 0 0)
  have HF := Lib.hid (ext_off X3 XS1 (Nat.le_refl _))
  obtain ⟨v0, v1, v2, v3⟩ := cells4 LS1
  clear LS1 XS1 X3
  go_wp21
  rw [E1.out]
  exact bodyPost_ret (v := .tuple #[.agg #[.string ⟨#[]⟩, .slice none 0 0, .slice none 0 0, .slice none 0 0], .int .i64 x]) (by simp [results, Tryz.results19, go_sem, v0, v1, v2, v3]) rfl ⟨⟨HX0.out, rfl⟩, HF.out⟩
 | ok p =>
 rw [hx] at C1
 obtain ⟨c, s2⟩ := p
 replace E := Lib.hid (show r = if chkR c 6 ≠ 0 then .error 12 else .ok (c, s2) by rw [E.out, hx])
 clear hx
 go_wp2_with fail
 refine C1.out.mono ?_
 rintro x9 w3 ⟨⟨cs3, rfl, hR, hr3⟩, hx3⟩
 obtain ⟨A, a, B, b, D, d, rfl, h1, h2, h3⟩ := con_open hR
 replace J := J.call hr3 hx3
 replace LR := loc_ext hx3 (by omega) LR
 have hrz := lt_of_heap LR
 clear hr3 hx3 C1 CV
 go_upto_region 4 with (fail)
 have BA : Below w3.heap.size w3 (w3.alloc (.cells #[.string ⟨c.name.toArray⟩, .slice A c.fields.length a, .slice B c.stages.length b, .slice D c.moves.length d] 26)) := bW
 have LC := Loc1.new w3 26 #[.string ⟨c.name.toArray⟩, .slice A c.fields.length a, .slice B c.stages.length b, .slice D c.moves.length d]
 replace LR := LR.bel BA
 replace J := J.below BA
 replace h1 := h1.below BA
 replace h2 := h2.below BA
 replace h3 := h3.below BA
 replace hR := Kd.below hR BA
 clear BA
 generalize hw6 : (w3.alloc (.cells #[.string ⟨c.name.toArray⟩, .slice A c.fields.length a, .slice B c.stages.length b, .slice D c.moves.length d] 26)) = w4 at *
 clear hw6
 generalize hcb : w3.heap.size = cb at *
 clear hcb
 have CK := Lib.hid (checkR_c (w := w4) (c := c) (n := 6) (h1.weak fun _ _ => trivial) (h2.weak fun _ _ => trivial) (h3.weak fun _ _ => trivial))
 clear h1 h2 h3
 obtain ⟨m0, m1, m2, m3⟩ := cells4 LC
 have hzm := lt_of_heap LC
 generalize hk : chkR c 6 = ck at *
 clear hk
 go_wp2_with fail
 refine CK.out.mono ?_
 rintro x9 w5 ⟨rfl, hb5⟩
 replace LR := LR.bel hb5
 replace LC := LC.bel hb5
 replace J := J.below hb5
 replace hR := Kd.below hR hb5
 clear hb5 CK m0 m1 m2 m3 hzm
 by_cases he : ck = 0
 rotate_left
 ·have he1 : (ck != 0) = true := by simpa using he
  have E1 := Lib.hid (show r = .error 12 by rw [E.out, if_pos he])
  clear he
  obtain ⟨q0, q1, q2, q3, y0, y1, y2, y3, hzq⟩ := op4 LR
  obtain ⟨LS1, XS1⟩ := st4 LR (.string ⟨#[]⟩) (.slice none 0 0) (.slice none 0 0) (.slice none 0 0)
  have HF := Lib.hid (J.off XS1 (Nat.le_refl _) hgw)
  obtain ⟨v0, v1, v2, v3⟩ := cells4 LS1
  clear LS1 XS1
  go_wp21
  rw [E1.out]
  exact bodyPost_ret (v := .tuple #[.agg #[.string ⟨#[]⟩, .slice none 0 0, .slice none 0 0, .slice none 0 0], .int .i64 12]) (by simp [results, Tryz.results19, go_sem, v0, v1, v2, v3]) rfl ⟨⟨by decide, rfl⟩, HF.out.ext⟩
 have he1 : (ck != 0) = false := by simpa using he
 have E1 := Lib.hid (show r = .ok (c, s2) by rw [E.out, if_neg (by simpa using he)])
 clear he
 obtain ⟨m0, m1, m2, m3⟩ := cells4 LC
 have hzm := lt_of_heap LC
 obtain ⟨q0, q1, q2, q3, y0, y1, y2, y3, hzq⟩ := op4 LR
 obtain ⟨LS1, XS1⟩ := st4 LR (.string ⟨c.name.toArray⟩) (.slice A c.fields.length a) (.slice B c.stages.length b) (.slice D c.moves.length d)
 have HF := Lib.hid (J.off XS1 (Nat.le_refl _) hgw)
 have hw1 := J.ext.size
 have HR := Lib.hid ((kCon 6).weak (ok' := fun k => w.heap.size ≤ k) (Kd.ext hR (XS1.weak fun k _ hk => by have h9 : w1.heap.size ≤ k := hk; have := HLT.out; omega)) fun k hk => by have h9 : w1.heap.size ≤ k := hk; have := HLT.out; omega)
 obtain ⟨v0, v1, v2, v3⟩ := cells4 LS1
 clear LS1 XS1 hR
 go_wp21
 rw [E1.out]
 exact bodyPost_ret (v := .tuple #[.agg #[.string ⟨c.name.toArray⟩, .slice A c.fields.length a, .slice B c.stages.length b, .slice D c.moves.length d], .int .i64 0]) (by simp [results, Tryz.results19, go_sem, v0, v1, v2, v3]) rfl ⟨⟨_, rfl, HR.out, HF.out.fin⟩, HF.out.ext⟩
end
end Go.Proofs.YtjnhgfmjehaalaaGreat
