/- Bytes put: lists. -/
import Derived.Test.YtjnhgfmjehaalaaGreatMJ
namespace Go.Proofs.YtjnhgfmjehaalaaGreat
open Go.RowKit
set_option linter.unusedVariables false
set_option linter.unusedSimpArgs false
section
variable {w : World}
set_option maxRecDepth 20000 in
theorem lstf_c {A Z : Option Addr} {n c N z : Nat} {xs : List UInt8} {l : List _} {m : Nat} (g : FuncId) (enc : _ → List UInt8) (h : Sl kU8 (fun _ => True) w (.slice A n c) xs) (hl : Sl (kFld) (fun _ => True) w (.slice Z N z) l)
 (hgf : ∀ (args : Array Value) (W : World), (callFunc g args).run Tryz.prog W = .ok (.enter g args) W)
 (hg : ∀ (W : World) (A' : Option Addr) (n' c' : Nat) (ys : List UInt8) (e : Fld) (B : Option Addr) (d : Nat), Below w.heap.size w W → e ∈ l → Sl kStr (fun _ => True) W (.slice B e.enum.length d) e.enum →Sl kU8 (fun _ => True) W (.slice A' n' c') ys → ys.length + (enc e).length ≤ 137438953472 → Calls Tryz.prog g #[.slice A' n' c', .agg #[.string ⟨e.name.toArray⟩, .int .i64 e.kind, .slice B e.enum.length d, .int .i64 e.init.kind, .int .i64 e.init.int, .bool e.init.bool, .string ⟨e.init.text.toArray⟩, .float .f64 e.init.num]] W (RetOwn kU8 5 (fun _ => True) W (ys ++ enc e)))
 (hsz : xs.length + 4 + ((l.map enc).flatten).length ≤ 137438953472) (hN : N ≤ 4294967295) :
 Calls Tryz.prog 24 #[.slice A n c, .slice Z N z, .func (.func g) #[] #[]] w (RetOwn kU8 5 (fun _ => True) w (xs ++ (bCount l.length ++ (l.map enc).flatten))) := by
 have SF := store_f64
 have HL := Lib.hid hl
 have HG := Lib.hid hg
 have HGF := Lib.hid hgf
 have HSZ := Lib.hid hsz
 have hmax := hl.len.2.2.1
 have hnc := hl.len.2.1
 have HLN := Lib.hid hl.len.1
 have HXN := Lib.hid h.len.1
 have H0 := Lib.hid (putCount_c h N hN (by have := h.len.1; omega))
 clear h hl hg hgf hsz
 go_enter Tryz.func24, Tryz.ntmps24
 go_wp2_with fail
 refine H0.out.mono ?_
 rintro x9 w1 ⟨v, rfl, ho, hb1⟩
 have HO0 := Lib.hid ho
 have HB1 := Lib.hid hb1
 clear ho hb1 H0
 go_wp2_with fail
 go_loopw [15, 0] (fun v15 v0 wr => ∃ i : Nat, i ≤ N ∧ v15 = .int .i64 i ∧ Own kU8 5 (fun _ => True) wr w.heap.size v0 (xs ++ (bCount N ++ ((l.take i).map enc).flatten)) ∧ Below w.heap.size w wr) (fun v15 _ _ => N - (intOf v15).toNat)
 case atStart => exact ⟨0, Nat.zero_le _, rfl, by rw [show ((l.take 0).map enc).flatten = [] from rfl, List.append_nil]; exact HO0.out, HB1.out⟩
 case round =>
  obtain ⟨i, hi, rfl, ho, hb⟩ := hrel
  obtain ⟨A6, n6, cc, rfl, hn6⟩ := ho.form'
  have HO := Lib.hid ho
  clear ho hn6
  by_cases hlt : i < N
  ·obtain ⟨ad, e, B, d, rfl, he, hs, c0, c1, c2, c3, c4, c5, c6, c7⟩ := fld_at (HL.out.below hb) hlt
   have HE := Lib.hid he
   have HTK := Lib.hid (show l.take (i + 1) = l.take i ++ [e] by rw [List.take_add_one, he]; rfl)
   have HLE := Lib.hid (show (xs ++ (bCount N ++ ((l.take i).map enc).flatten)).length + (enc e).length ≤ 137438953472 by
    have h1 : ((l.take (i + 1)).map enc).flatten.length ≤ ((l.map enc).flatten).length := by
     conv => rhs; rw [← List.take_append_drop (i + 1) l]
     rw [List.map_append, List.flatten_append, List.length_append]; omega
    rw [HTK.out, List.map_append, List.flatten_append, List.length_append] at h1
    have h2 : ([e].map enc).flatten = enc e := by simp
    rw [h2] at h1
    have := HSZ.out
    rw [List.length_append, List.length_append, bCount_len]; omega)
   clear he
   go_upto_region 5 with (fail)
   have LX := Loc1.new wr 41 #[.string ⟨e.name.toArray⟩, .int .i64 e.kind, .slice B e.enum.length d, .int .i64 e.init.kind, .int .i64 e.init.int, .bool e.init.bool, .string ⟨e.init.text.toArray⟩, .float .f64 e.init.num]
   have hb0 : Below wr.heap.size wr (wr.alloc (.cells #[.string ⟨e.name.toArray⟩, .int .i64 e.kind, .slice B e.enum.length d, .int .i64 e.init.kind, .int .i64 e.init.int, .bool e.init.bool, .string ⟨e.init.text.toArray⟩, .float .f64 e.init.num] 41)) := bW
   have HO5 := Lib.hid (HO.out.below hb0)
   generalize (wr.alloc (.cells #[.string ⟨e.name.toArray⟩, .int .i64 e.kind, .slice B e.enum.length d, .int .i64 e.init.kind, .int .i64 e.init.int, .bool e.init.bool, .string ⟨e.init.text.toArray⟩, .float .f64 e.init.num] 41)) = w5 at *
   clear c0 c1 c2 c3 c4 c5 c6 c7 HO
   obtain ⟨c0, c1, c2, c3, c4, c5, c6, c7⟩ := cells8 LX
   have hz := lt_of_heap LX
   go_wp2_with fail
   rw [HGF.out, Oper.upon_enter]
   have HC := Lib.hid (HG.out w5 A6 n6 cc _ e B d bW (List.mem_of_getElem? HE.out) (hs.below hb0) (HO5.out.sl (ok := fun _ => True) (fun _ _ => trivial)) HLE.out)
   refine HC.out.mono ?_
   rintro x9 w6 ⟨v6, rfl, ho6, hb6⟩
   have HO6 := Lib.hid (show Own kU8 5 (fun _ => True) w6 w.heap.size v6 (xs ++ (bCount N ++ ((l.take (i + 1)).map enc).flatten)) by
    rw [HTK.out, List.map_append, List.flatten_append]
    have h2 : ([e].map enc).flatten = enc e := by simp
    rw [h2, ← List.append_assoc (bCount N), ← List.append_assoc xs]
    exact ho6.lower (show w.heap.size ≤ w5.heap.size from (show Below w.heap.size w w5 from bW).size))
   clear ho6 HC c0 c1 c2 c3 c4 c5 c6 c7 hz
   go_wp2_with fail
   go_roundw
   case rel => exact ⟨i + 1, by omega, by go_num, HO6.out, bW⟩
   case measure => simp [intOf]; omega
  ·have HO2 := Lib.hid (show Own kU8 5 (fun _ => True) wr w.heap.size (.slice A6 n6 cc) (xs ++ (bCount l.length ++ (l.map enc).flatten)) by
    have h1 := HO.out
    have hl := HLN.out
    rwa [List.take_of_length_le (by omega), ← hl] at h1)
   go_wp2_with fail
   go_ret
   exact ⟨_, rfl, HO2.out, hb⟩
set_option maxRecDepth 20000 in
theorem lsts_c {A Z : Option Addr} {n c N z : Nat} {xs : List UInt8} {l : List _} {m : Nat} (g : FuncId) (enc : _ → List UInt8) (h : Sl kU8 (fun _ => True) w (.slice A n c) xs) (hl : Sl (kStr) (fun _ => True) w (.slice Z N z) l)
 (hgf : ∀ (args : Array Value) (W : World), (callFunc g args).run Tryz.prog W = .ok (.enter g args) W)
 (hg : ∀ (W : World) (A' : Option Addr) (n' c' : Nat) (ys : List UInt8) (e : List UInt8), Below w.heap.size w W → e ∈ l → Sl kU8 (fun _ => True) W (.slice A' n' c') ys → ys.length + (enc e).length ≤ 137438953472 → Calls Tryz.prog g #[.slice A' n' c', .string ⟨e.toArray⟩] W (RetOwn kU8 5 (fun _ => True) W (ys ++ enc e)))
 (hsz : xs.length + 4 + ((l.map enc).flatten).length ≤ 137438953472) (hN : N ≤ 4294967295) :
 Calls Tryz.prog 27 #[.slice A n c, .slice Z N z, .func (.func g) #[] #[]] w (RetOwn kU8 5 (fun _ => True) w (xs ++ (bCount l.length ++ (l.map enc).flatten))) := by
 have SF := store_f64
 have HL := Lib.hid hl
 have HG := Lib.hid hg
 have HGF := Lib.hid hgf
 have HSZ := Lib.hid hsz
 have hmax := hl.len.2.2.1
 have hnc := hl.len.2.1
 have HLN := Lib.hid hl.len.1
 have HXN := Lib.hid h.len.1
 have H0 := Lib.hid (putCount_c h N hN (by have := h.len.1; omega))
 clear h hl hg hgf hsz
 go_enter Tryz.func27, Tryz.ntmps27
 go_wp2_with fail
 refine H0.out.mono ?_
 rintro x9 w1 ⟨v, rfl, ho, hb1⟩
 have HO0 := Lib.hid ho
 have HB1 := Lib.hid hb1
 clear ho hb1 H0
 go_wp2_with fail
 go_loopw [15, 0] (fun v15 v0 wr => ∃ i : Nat, i ≤ N ∧ v15 = .int .i64 i ∧ Own kU8 5 (fun _ => True) wr w.heap.size v0 (xs ++ (bCount N ++ ((l.take i).map enc).flatten)) ∧ Below w.heap.size w wr) (fun v15 _ _ => N - (intOf v15).toNat)
 case atStart => exact ⟨0, Nat.zero_le _, rfl, by rw [show ((l.take 0).map enc).flatten = [] from rfl, List.append_nil]; exact HO0.out, HB1.out⟩
 case round =>
  obtain ⟨i, hi, rfl, ho, hb⟩ := hrel
  obtain ⟨A6, n6, cc, rfl, hn6⟩ := ho.form'
  have HO := Lib.hid ho
  clear ho hn6
  by_cases hlt : i < N
  ·obtain ⟨ad, e, rfl, he, hc⟩ := str_at (HL.out.below hb) hlt
   have HE := Lib.hid he
   have HTK := Lib.hid (show l.take (i + 1) = l.take i ++ [e] by rw [List.take_add_one, he]; rfl)
   have HLE := Lib.hid (show (xs ++ (bCount N ++ ((l.take i).map enc).flatten)).length + (enc e).length ≤ 137438953472 by
    have h1 : ((l.take (i + 1)).map enc).flatten.length ≤ ((l.map enc).flatten).length := by
     conv => rhs; rw [← List.take_append_drop (i + 1) l]
     rw [List.map_append, List.flatten_append, List.length_append]; omega
    rw [HTK.out, List.map_append, List.flatten_append, List.length_append] at h1
    have h2 : ([e].map enc).flatten = enc e := by simp
    rw [h2] at h1
    have := HSZ.out
    rw [List.length_append, List.length_append, bCount_len]; omega)
   clear he
   go_wp2_with fail
   rw [HGF.out, Oper.upon_enter]
   have HC := Lib.hid (HG.out wr A6 n6 cc _ e hb (List.mem_of_getElem? HE.out) (HO.out.sl (ok := fun _ => True) (fun _ _ => trivial)) HLE.out)
   refine HC.out.mono ?_
   rintro x9 w6 ⟨v6, rfl, ho6, hb6⟩
   have HO6 := Lib.hid (show Own kU8 5 (fun _ => True) w6 w.heap.size v6 (xs ++ (bCount N ++ ((l.take (i + 1)).map enc).flatten)) by
    rw [HTK.out, List.map_append, List.flatten_append]
    have h2 : ([e].map enc).flatten = enc e := by simp
    rw [h2, ← List.append_assoc (bCount N), ← List.append_assoc xs]
    exact ho6.lower (show w.heap.size ≤ wr.heap.size from (show Below w.heap.size w wr from bW).size))
   clear ho6 HC hc
   go_wp2_with fail
   go_roundw
   case rel => exact ⟨i + 1, by omega, by go_num, HO6.out, bW⟩
   case measure => simp [intOf]; omega
  ·have HO2 := Lib.hid (show Own kU8 5 (fun _ => True) wr w.heap.size (.slice A6 n6 cc) (xs ++ (bCount l.length ++ (l.map enc).flatten)) by
    have h1 := HO.out
    have hl := HLN.out
    rwa [List.take_of_length_le (by omega), ← hl] at h1)
   go_wp2_with fail
   go_ret
   exact ⟨_, rfl, HO2.out, hb⟩
set_option maxRecDepth 20000 in
theorem lsti_c {A Z : Option Addr} {n c N z : Nat} {xs : List UInt8} {l : List _} {m : Nat} (g : FuncId) (enc : _ → List UInt8) (h : Sl kU8 (fun _ => True) w (.slice A n c) xs) (hl : Sl (kI) (fun _ => True) w (.slice Z N z) l)
 (hgf : ∀ (args : Array Value) (W : World), (callFunc g args).run Tryz.prog W = .ok (.enter g args) W)
 (hg : ∀ (W : World) (A' : Option Addr) (n' c' : Nat) (ys : List UInt8) (e : Int), Below w.heap.size w W → e ∈ l → Sl kU8 (fun _ => True) W (.slice A' n' c') ys → ys.length + (enc e).length ≤ 137438953472 → Calls Tryz.prog g #[.slice A' n' c', .int .i64 e] W (RetOwn kU8 5 (fun _ => True) W (ys ++ enc e)))
 (hsz : xs.length + 4 + ((l.map enc).flatten).length ≤ 137438953472) (hN : N ≤ 4294967295) :
 Calls Tryz.prog 32 #[.slice A n c, .slice Z N z, .func (.func g) #[] #[]] w (RetOwn kU8 5 (fun _ => True) w (xs ++ (bCount l.length ++ (l.map enc).flatten))) := by
 have SF := store_f64
 have HL := Lib.hid hl
 have HG := Lib.hid hg
 have HGF := Lib.hid hgf
 have HSZ := Lib.hid hsz
 have hmax := hl.len.2.2.1
 have hnc := hl.len.2.1
 have HLN := Lib.hid hl.len.1
 have HXN := Lib.hid h.len.1
 have H0 := Lib.hid (putCount_c h N hN (by have := h.len.1; omega))
 clear h hl hg hgf hsz
 go_enter Tryz.func32, Tryz.ntmps32
 go_wp2_with fail
 refine H0.out.mono ?_
 rintro x9 w1 ⟨v, rfl, ho, hb1⟩
 have HO0 := Lib.hid ho
 have HB1 := Lib.hid hb1
 clear ho hb1 H0
 go_wp2_with fail
 go_loopw [15, 0] (fun v15 v0 wr => ∃ i : Nat, i ≤ N ∧ v15 = .int .i64 i ∧ Own kU8 5 (fun _ => True) wr w.heap.size v0 (xs ++ (bCount N ++ ((l.take i).map enc).flatten)) ∧ Below w.heap.size w wr) (fun v15 _ _ => N - (intOf v15).toNat)
 case atStart => exact ⟨0, Nat.zero_le _, rfl, by rw [show ((l.take 0).map enc).flatten = [] from rfl, List.append_nil]; exact HO0.out, HB1.out⟩
 case round =>
  obtain ⟨i, hi, rfl, ho, hb⟩ := hrel
  obtain ⟨A6, n6, cc, rfl, hn6⟩ := ho.form'
  have HO := Lib.hid ho
  clear ho hn6
  by_cases hlt : i < N
  ·obtain ⟨ad, e, rfl, he, hc⟩ := int_at (HL.out.below hb) hlt
   have HE := Lib.hid he
   have HTK := Lib.hid (show l.take (i + 1) = l.take i ++ [e] by rw [List.take_add_one, he]; rfl)
   have HLE := Lib.hid (show (xs ++ (bCount N ++ ((l.take i).map enc).flatten)).length + (enc e).length ≤ 137438953472 by
    have h1 : ((l.take (i + 1)).map enc).flatten.length ≤ ((l.map enc).flatten).length := by
     conv => rhs; rw [← List.take_append_drop (i + 1) l]
     rw [List.map_append, List.flatten_append, List.length_append]; omega
    rw [HTK.out, List.map_append, List.flatten_append, List.length_append] at h1
    have h2 : ([e].map enc).flatten = enc e := by simp
    rw [h2] at h1
    have := HSZ.out
    rw [List.length_append, List.length_append, bCount_len]; omega)
   clear he
   go_wp2_with fail
   rw [HGF.out, Oper.upon_enter]
   have HC := Lib.hid (HG.out wr A6 n6 cc _ e hb (List.mem_of_getElem? HE.out) (HO.out.sl (ok := fun _ => True) (fun _ _ => trivial)) HLE.out)
   refine HC.out.mono ?_
   rintro x9 w6 ⟨v6, rfl, ho6, hb6⟩
   have HO6 := Lib.hid (show Own kU8 5 (fun _ => True) w6 w.heap.size v6 (xs ++ (bCount N ++ ((l.take (i + 1)).map enc).flatten)) by
    rw [HTK.out, List.map_append, List.flatten_append]
    have h2 : ([e].map enc).flatten = enc e := by simp
    rw [h2, ← List.append_assoc (bCount N), ← List.append_assoc xs]
    exact ho6.lower (show w.heap.size ≤ wr.heap.size from (show Below w.heap.size w wr from bW).size))
   clear ho6 HC hc
   go_wp2_with fail
   go_roundw
   case rel => exact ⟨i + 1, by omega, by go_num, HO6.out, bW⟩
   case measure => simp [intOf]; omega
  ·have HO2 := Lib.hid (show Own kU8 5 (fun _ => True) wr w.heap.size (.slice A6 n6 cc) (xs ++ (bCount l.length ++ (l.map enc).flatten)) by
    have h1 := HO.out
    have hl := HLN.out
    rwa [List.take_of_length_le (by omega), ← hl] at h1)
   go_wp2_with fail
   go_ret
   exact ⟨_, rfl, HO2.out, hb⟩
set_option maxRecDepth 20000 in
theorem lstt_c {A Z : Option Addr} {n c N z : Nat} {xs : List UInt8} {l : List _} {m : Nat} (g : FuncId) (enc : _ → List UInt8) (h : Sl kU8 (fun _ => True) w (.slice A n c) xs) (hl : Sl (kStg) (fun _ => True) w (.slice Z N z) l)
 (hgf : ∀ (args : Array Value) (W : World), (callFunc g args).run Tryz.prog W = .ok (.enter g args) W)
 (hg : ∀ (W : World) (A' : Option Addr) (n' c' : Nat) (ys : List UInt8) (e : Stg) (B : Option Addr) (d : Nat), Below w.heap.size w W → e ∈ l → Sl kI (fun _ => True) W (.slice B e.orgs.length d) e.orgs →Sl kU8 (fun _ => True) W (.slice A' n' c') ys → ys.length + (enc e).length ≤ 137438953472 → Calls Tryz.prog g #[.slice A' n' c', .agg #[.string ⟨e.name.toArray⟩, .int .i64 e.need, .slice B e.orgs.length d]] W (RetOwn kU8 5 (fun _ => True) W (ys ++ enc e)))
 (hsz : xs.length + 4 + ((l.map enc).flatten).length ≤ 137438953472) (hN : N ≤ 4294967295) :
 Calls Tryz.prog 30 #[.slice A n c, .slice Z N z, .func (.func g) #[] #[]] w (RetOwn kU8 5 (fun _ => True) w (xs ++ (bCount l.length ++ (l.map enc).flatten))) := by
 have SF := store_f64
 have HL := Lib.hid hl
 have HG := Lib.hid hg
 have HGF := Lib.hid hgf
 have HSZ := Lib.hid hsz
 have hmax := hl.len.2.2.1
 have hnc := hl.len.2.1
 have HLN := Lib.hid hl.len.1
 have HXN := Lib.hid h.len.1
 have H0 := Lib.hid (putCount_c h N hN (by have := h.len.1; omega))
 clear h hl hg hgf hsz
 go_enter Tryz.func30, Tryz.ntmps30
 go_wp2_with fail
 refine H0.out.mono ?_
 rintro x9 w1 ⟨v, rfl, ho, hb1⟩
 have HO0 := Lib.hid ho
 have HB1 := Lib.hid hb1
 clear ho hb1 H0
 go_wp2_with fail
 go_loopw [15, 0] (fun v15 v0 wr => ∃ i : Nat, i ≤ N ∧ v15 = .int .i64 i ∧ Own kU8 5 (fun _ => True) wr w.heap.size v0 (xs ++ (bCount N ++ ((l.take i).map enc).flatten)) ∧ Below w.heap.size w wr) (fun v15 _ _ => N - (intOf v15).toNat)
 case atStart => exact ⟨0, Nat.zero_le _, rfl, by rw [show ((l.take 0).map enc).flatten = [] from rfl, List.append_nil]; exact HO0.out, HB1.out⟩
 case round =>
  obtain ⟨i, hi, rfl, ho, hb⟩ := hrel
  obtain ⟨A6, n6, cc, rfl, hn6⟩ := ho.form'
  have HO := Lib.hid ho
  clear ho hn6
  by_cases hlt : i < N
  ·obtain ⟨ad, e, B, d, rfl, he, hs, c0, c1, c2⟩ := stg_at (HL.out.below hb) hlt
   have HE := Lib.hid he
   have HTK := Lib.hid (show l.take (i + 1) = l.take i ++ [e] by rw [List.take_add_one, he]; rfl)
   have HLE := Lib.hid (show (xs ++ (bCount N ++ ((l.take i).map enc).flatten)).length + (enc e).length ≤ 137438953472 by
    have h1 : ((l.take (i + 1)).map enc).flatten.length ≤ ((l.map enc).flatten).length := by
     conv => rhs; rw [← List.take_append_drop (i + 1) l]
     rw [List.map_append, List.flatten_append, List.length_append]; omega
    rw [HTK.out, List.map_append, List.flatten_append, List.length_append] at h1
    have h2 : ([e].map enc).flatten = enc e := by simp
    rw [h2] at h1
    have := HSZ.out
    rw [List.length_append, List.length_append, bCount_len]; omega)
   clear he
   go_upto_region 5 with (fail)
   have LX := Loc1.new wr 68 #[.string ⟨e.name.toArray⟩, .int .i64 e.need, .slice B e.orgs.length d]
   have hb0 : Below wr.heap.size wr (wr.alloc (.cells #[.string ⟨e.name.toArray⟩, .int .i64 e.need, .slice B e.orgs.length d] 68)) := bW
   have HO5 := Lib.hid (HO.out.below hb0)
   generalize (wr.alloc (.cells #[.string ⟨e.name.toArray⟩, .int .i64 e.need, .slice B e.orgs.length d] 68)) = w5 at *
   clear c0 c1 c2 HO
   obtain ⟨c0, c1, c2⟩ := cells3 LX
   have hz := lt_of_heap LX
   go_wp2_with fail
   rw [HGF.out, Oper.upon_enter]
   have HC := Lib.hid (HG.out w5 A6 n6 cc _ e B d bW (List.mem_of_getElem? HE.out) (hs.below hb0) (HO5.out.sl (ok := fun _ => True) (fun _ _ => trivial)) HLE.out)
   refine HC.out.mono ?_
   rintro x9 w6 ⟨v6, rfl, ho6, hb6⟩
   have HO6 := Lib.hid (show Own kU8 5 (fun _ => True) w6 w.heap.size v6 (xs ++ (bCount N ++ ((l.take (i + 1)).map enc).flatten)) by
    rw [HTK.out, List.map_append, List.flatten_append]
    have h2 : ([e].map enc).flatten = enc e := by simp
    rw [h2, ← List.append_assoc (bCount N), ← List.append_assoc xs]
    exact ho6.lower (show w.heap.size ≤ w5.heap.size from (show Below w.heap.size w w5 from bW).size))
   clear ho6 HC c0 c1 c2 hz
   go_wp2_with fail
   go_roundw
   case rel => exact ⟨i + 1, by omega, by go_num, HO6.out, bW⟩
   case measure => simp [intOf]; omega
  ·have HO2 := Lib.hid (show Own kU8 5 (fun _ => True) wr w.heap.size (.slice A6 n6 cc) (xs ++ (bCount l.length ++ (l.map enc).flatten)) by
    have h1 := HO.out
    have hl := HLN.out
    rwa [List.take_of_length_le (by omega), ← hl] at h1)
   go_wp2_with fail
   go_ret
   exact ⟨_, rfl, HO2.out, hb⟩
set_option maxRecDepth 20000 in
theorem lste_c {A Z : Option Addr} {n c N z : Nat} {xs : List UInt8} {l : List _} {m : Nat} (g : FuncId) (enc : _ → List UInt8) (h : Sl kU8 (fun _ => True) w (.slice A n c) xs) (hl : Sl (kEff m) (fun _ => True) w (.slice Z N z) l)
 (hgf : ∀ (args : Array Value) (W : World), (callFunc g args).run Tryz.prog W = .ok (.enter g args) W)
 (hg : ∀ (W : World) (A' : Option Addr) (n' c' : Nat) (ys : List UInt8) (e : Eff) (k : Nat) (B : Option Addr) (d : Nat), Below w.heap.size w W → e ∈ l → m = k + 1 → Sl (kExp k) (fun _ => True) W (.slice B e.expr.kids.length d) e.expr.kids →Sl kU8 (fun _ => True) W (.slice A' n' c') ys → ys.length + (enc e).length ≤ 137438953472 → Calls Tryz.prog g #[.slice A' n' c', .agg #[.string ⟨e.field.toArray⟩, .int .i64 e.expr.op, .slice B e.expr.kids.length d, .string ⟨e.expr.name.toArray⟩, .int .i64 e.expr.val.kind, .int .i64 e.expr.val.int, .bool e.expr.val.bool, .string ⟨e.expr.val.text.toArray⟩, .float .f64 e.expr.val.num]] W (RetOwn kU8 5 (fun _ => True) W (ys ++ enc e)))
 (hsz : xs.length + 4 + ((l.map enc).flatten).length ≤ 137438953472) (hN : N ≤ 4294967295) :
 Calls Tryz.prog 35 #[.slice A n c, .slice Z N z, .func (.func g) #[] #[]] w (RetOwn kU8 5 (fun _ => True) w (xs ++ (bCount l.length ++ (l.map enc).flatten))) := by
 have SF := store_f64
 have HL := Lib.hid hl
 have HG := Lib.hid hg
 have HGF := Lib.hid hgf
 have HSZ := Lib.hid hsz
 have hmax := hl.len.2.2.1
 have hnc := hl.len.2.1
 have HLN := Lib.hid hl.len.1
 have HXN := Lib.hid h.len.1
 have H0 := Lib.hid (putCount_c h N hN (by have := h.len.1; omega))
 clear h hl hg hgf hsz
 go_enter Tryz.func35, Tryz.ntmps35
 go_wp2_with fail
 refine H0.out.mono ?_
 rintro x9 w1 ⟨v, rfl, ho, hb1⟩
 have HO0 := Lib.hid ho
 have HB1 := Lib.hid hb1
 clear ho hb1 H0
 go_wp2_with fail
 go_loopw [15, 0] (fun v15 v0 wr => ∃ i : Nat, i ≤ N ∧ v15 = .int .i64 i ∧ Own kU8 5 (fun _ => True) wr w.heap.size v0 (xs ++ (bCount N ++ ((l.take i).map enc).flatten)) ∧ Below w.heap.size w wr) (fun v15 _ _ => N - (intOf v15).toNat)
 case atStart => exact ⟨0, Nat.zero_le _, rfl, by rw [show ((l.take 0).map enc).flatten = [] from rfl, List.append_nil]; exact HO0.out, HB1.out⟩
 case round =>
  obtain ⟨i, hi, rfl, ho, hb⟩ := hrel
  obtain ⟨A6, n6, cc, rfl, hn6⟩ := ho.form'
  have HO := Lib.hid ho
  clear ho hn6
  by_cases hlt : i < N
  ·obtain ⟨ad, e, k, B, d, rfl, he, hk, hs, c0, c1, c2, c3, c4, c5, c6, c7, c8⟩ := eff_at (HL.out.below hb) hlt
   have HE := Lib.hid he
   have HTK := Lib.hid (show l.take (i + 1) = l.take i ++ [e] by rw [List.take_add_one, he]; rfl)
   have HLE := Lib.hid (show (xs ++ (bCount N ++ ((l.take i).map enc).flatten)).length + (enc e).length ≤ 137438953472 by
    have h1 : ((l.take (i + 1)).map enc).flatten.length ≤ ((l.map enc).flatten).length := by
     conv => rhs; rw [← List.take_append_drop (i + 1) l]
     rw [List.map_append, List.flatten_append, List.length_append]; omega
    rw [HTK.out, List.map_append, List.flatten_append, List.length_append] at h1
    have h2 : ([e].map enc).flatten = enc e := by simp
    rw [h2] at h1
    have := HSZ.out
    rw [List.length_append, List.length_append, bCount_len]; omega)
   clear he
   go_upto_region 5 with (fail)
   have LX := Loc1.new wr 51 #[.string ⟨e.field.toArray⟩, .int .i64 e.expr.op, .slice B e.expr.kids.length d, .string ⟨e.expr.name.toArray⟩, .int .i64 e.expr.val.kind, .int .i64 e.expr.val.int, .bool e.expr.val.bool, .string ⟨e.expr.val.text.toArray⟩, .float .f64 e.expr.val.num]
   have hb0 : Below wr.heap.size wr (wr.alloc (.cells #[.string ⟨e.field.toArray⟩, .int .i64 e.expr.op, .slice B e.expr.kids.length d, .string ⟨e.expr.name.toArray⟩, .int .i64 e.expr.val.kind, .int .i64 e.expr.val.int, .bool e.expr.val.bool, .string ⟨e.expr.val.text.toArray⟩, .float .f64 e.expr.val.num] 51)) := bW
   have HO5 := Lib.hid (HO.out.below hb0)
   generalize (wr.alloc (.cells #[.string ⟨e.field.toArray⟩, .int .i64 e.expr.op, .slice B e.expr.kids.length d, .string ⟨e.expr.name.toArray⟩, .int .i64 e.expr.val.kind, .int .i64 e.expr.val.int, .bool e.expr.val.bool, .string ⟨e.expr.val.text.toArray⟩, .float .f64 e.expr.val.num] 51)) = w5 at *
   clear c0 c1 c2 c3 c4 c5 c6 c7 c8 HO
   obtain ⟨c0, c1, c2, c3, c4, c5, c6, c7, c8⟩ := cells9 LX
   have hz := lt_of_heap LX
   go_wp2_with fail
   rw [HGF.out, Oper.upon_enter]
   have HC := Lib.hid (HG.out w5 A6 n6 cc _ e k B d bW (List.mem_of_getElem? HE.out) hk (hs.below hb0) (HO5.out.sl (ok := fun _ => True) (fun _ _ => trivial)) HLE.out)
   refine HC.out.mono ?_
   rintro x9 w6 ⟨v6, rfl, ho6, hb6⟩
   have HO6 := Lib.hid (show Own kU8 5 (fun _ => True) w6 w.heap.size v6 (xs ++ (bCount N ++ ((l.take (i + 1)).map enc).flatten)) by
    rw [HTK.out, List.map_append, List.flatten_append]
    have h2 : ([e].map enc).flatten = enc e := by simp
    rw [h2, ← List.append_assoc (bCount N), ← List.append_assoc xs]
    exact ho6.lower (show w.heap.size ≤ w5.heap.size from (show Below w.heap.size w w5 from bW).size))
   clear ho6 HC c0 c1 c2 c3 c4 c5 c6 c7 c8 hz
   go_wp2_with fail
   go_roundw
   case rel => exact ⟨i + 1, by omega, by go_num, HO6.out, bW⟩
   case measure => simp [intOf]; omega
  ·have HO2 := Lib.hid (show Own kU8 5 (fun _ => True) wr w.heap.size (.slice A6 n6 cc) (xs ++ (bCount l.length ++ (l.map enc).flatten)) by
    have h1 := HO.out
    have hl := HLN.out
    rwa [List.take_of_length_le (by omega), ← hl] at h1)
   go_wp2_with fail
   go_ret
   exact ⟨_, rfl, HO2.out, hb⟩
set_option maxRecDepth 20000 in
theorem lstm_c {A Z : Option Addr} {n c N z : Nat} {xs : List UInt8} {l : List _} {m : Nat} (g : FuncId) (enc : _ → List UInt8) (h : Sl kU8 (fun _ => True) w (.slice A n c) xs) (hl : Sl (kMov m) (fun _ => True) w (.slice Z N z) l)
 (hgf : ∀ (args : Array Value) (W : World), (callFunc g args).run Tryz.prog W = .ok (.enter g args) W)
 (hg : ∀ (W : World) (A' : Option Addr) (n' c' : Nat) (ys : List UInt8) (e : Mov) (k : Nat) (B : Option Addr) (b : Nat) (D : Option Addr) (d : Nat), Below w.heap.size w W → e ∈ l → m = k + 1 → Sl (kExp k) (fun _ => True) W (.slice B e.guard.kids.length b) e.guard.kids → Sl (kEff m) (fun _ => True) W (.slice D e.effects.length d) e.effects →Sl kU8 (fun _ => True) W (.slice A' n' c') ys → ys.length + (enc e).length ≤ 137438953472 → Calls Tryz.prog g #[.slice A' n' c', .agg #[.string ⟨e.name.toArray⟩, .int .i64 e.frm, .int .i64 e.tgt, .int .i64 e.guard.op, .slice B e.guard.kids.length b, .string ⟨e.guard.name.toArray⟩, .int .i64 e.guard.val.kind, .int .i64 e.guard.val.int, .bool e.guard.val.bool, .string ⟨e.guard.val.text.toArray⟩, .float .f64 e.guard.val.num, .slice D e.effects.length d, .int .i64 e.org]] W (RetOwn kU8 5 (fun _ => True) W (ys ++ enc e)))
 (hsz : xs.length + 4 + ((l.map enc).flatten).length ≤ 137438953472) (hN : N ≤ 4294967295) :
 Calls Tryz.prog 33 #[.slice A n c, .slice Z N z, .func (.func g) #[] #[]] w (RetOwn kU8 5 (fun _ => True) w (xs ++ (bCount l.length ++ (l.map enc).flatten))) := by
 have SF := store_f64
 have HL := Lib.hid hl
 have HG := Lib.hid hg
 have HGF := Lib.hid hgf
 have HSZ := Lib.hid hsz
 have hmax := hl.len.2.2.1
 have hnc := hl.len.2.1
 have HLN := Lib.hid hl.len.1
 have HXN := Lib.hid h.len.1
 have H0 := Lib.hid (putCount_c h N hN (by have := h.len.1; omega))
 clear h hl hg hgf hsz
 go_enter Tryz.func33, Tryz.ntmps33
 go_wp2_with fail
 refine H0.out.mono ?_
 rintro x9 w1 ⟨v, rfl, ho, hb1⟩
 have HO0 := Lib.hid ho
 have HB1 := Lib.hid hb1
 clear ho hb1 H0
 go_wp2_with fail
 go_loopw [15, 0] (fun v15 v0 wr => ∃ i : Nat, i ≤ N ∧ v15 = .int .i64 i ∧ Own kU8 5 (fun _ => True) wr w.heap.size v0 (xs ++ (bCount N ++ ((l.take i).map enc).flatten)) ∧ Below w.heap.size w wr) (fun v15 _ _ => N - (intOf v15).toNat)
 case atStart => exact ⟨0, Nat.zero_le _, rfl, by rw [show ((l.take 0).map enc).flatten = [] from rfl, List.append_nil]; exact HO0.out, HB1.out⟩
 case round =>
  obtain ⟨i, hi, rfl, ho, hb⟩ := hrel
  obtain ⟨A6, n6, cc, rfl, hn6⟩ := ho.form'
  have HO := Lib.hid ho
  clear ho hn6
  by_cases hlt : i < N
  ·obtain ⟨ad, e, k, B, b, D, d, rfl, he, hk, hs, hs2, c0, c1, c2, c3, c4, c5, c6, c7, c8, c9, c10, c11, c12⟩ := mov_at (HL.out.below hb) hlt
   have HE := Lib.hid he
   have HTK := Lib.hid (show l.take (i + 1) = l.take i ++ [e] by rw [List.take_add_one, he]; rfl)
   have HLE := Lib.hid (show (xs ++ (bCount N ++ ((l.take i).map enc).flatten)).length + (enc e).length ≤ 137438953472 by
    have h1 : ((l.take (i + 1)).map enc).flatten.length ≤ ((l.map enc).flatten).length := by
     conv => rhs; rw [← List.take_append_drop (i + 1) l]
     rw [List.map_append, List.flatten_append, List.length_append]; omega
    rw [HTK.out, List.map_append, List.flatten_append, List.length_append] at h1
    have h2 : ([e].map enc).flatten = enc e := by simp
    rw [h2] at h1
    have := HSZ.out
    rw [List.length_append, List.length_append, bCount_len]; omega)
   clear he
   go_upto_region 5 with (fail)
   have LX := Loc1.new wr 47 #[.string ⟨e.name.toArray⟩, .int .i64 e.frm, .int .i64 e.tgt, .int .i64 e.guard.op, .slice B e.guard.kids.length b, .string ⟨e.guard.name.toArray⟩, .int .i64 e.guard.val.kind, .int .i64 e.guard.val.int, .bool e.guard.val.bool, .string ⟨e.guard.val.text.toArray⟩, .float .f64 e.guard.val.num, .slice D e.effects.length d, .int .i64 e.org]
   have hb0 : Below wr.heap.size wr (wr.alloc (.cells #[.string ⟨e.name.toArray⟩, .int .i64 e.frm, .int .i64 e.tgt, .int .i64 e.guard.op, .slice B e.guard.kids.length b, .string ⟨e.guard.name.toArray⟩, .int .i64 e.guard.val.kind, .int .i64 e.guard.val.int, .bool e.guard.val.bool, .string ⟨e.guard.val.text.toArray⟩, .float .f64 e.guard.val.num, .slice D e.effects.length d, .int .i64 e.org] 47)) := bW
   have HO5 := Lib.hid (HO.out.below hb0)
   generalize (wr.alloc (.cells #[.string ⟨e.name.toArray⟩, .int .i64 e.frm, .int .i64 e.tgt, .int .i64 e.guard.op, .slice B e.guard.kids.length b, .string ⟨e.guard.name.toArray⟩, .int .i64 e.guard.val.kind, .int .i64 e.guard.val.int, .bool e.guard.val.bool, .string ⟨e.guard.val.text.toArray⟩, .float .f64 e.guard.val.num, .slice D e.effects.length d, .int .i64 e.org] 47)) = w5 at *
   clear c0 c1 c2 c3 c4 c5 c6 c7 c8 c9 c10 c11 c12 HO
   obtain ⟨c0, c1, c2, c3, c4, c5, c6, c7, c8, c9, c10, c11, c12⟩ := cells13 LX
   have hz := lt_of_heap LX
   go_wp2_with fail
   rw [HGF.out, Oper.upon_enter]
   have HC := Lib.hid (HG.out w5 A6 n6 cc _ e k B b D d bW (List.mem_of_getElem? HE.out) hk (hs.below hb0) (hs2.below hb0) (HO5.out.sl (ok := fun _ => True) (fun _ _ => trivial)) HLE.out)
   refine HC.out.mono ?_
   rintro x9 w6 ⟨v6, rfl, ho6, hb6⟩
   have HO6 := Lib.hid (show Own kU8 5 (fun _ => True) w6 w.heap.size v6 (xs ++ (bCount N ++ ((l.take (i + 1)).map enc).flatten)) by
    rw [HTK.out, List.map_append, List.flatten_append]
    have h2 : ([e].map enc).flatten = enc e := by simp
    rw [h2, ← List.append_assoc (bCount N), ← List.append_assoc xs]
    exact ho6.lower (show w.heap.size ≤ w5.heap.size from (show Below w.heap.size w w5 from bW).size))
   clear ho6 HC c0 c1 c2 c3 c4 c5 c6 c7 c8 c9 c10 c11 c12 hz
   go_wp2_with fail
   go_roundw
   case rel => exact ⟨i + 1, by omega, by go_num, HO6.out, bW⟩
   case measure => simp [intOf]; omega
  ·have HO2 := Lib.hid (show Own kU8 5 (fun _ => True) wr w.heap.size (.slice A6 n6 cc) (xs ++ (bCount l.length ++ (l.map enc).flatten)) by
    have h1 := HO.out
    have hl := HLN.out
    rwa [List.take_of_length_le (by omega), ← hl] at h1)
   go_wp2_with fail
   go_ret
   exact ⟨_, rfl, HO2.out, hb⟩
end
end Go.Proofs.YtjnhgfmjehaalaaGreat
