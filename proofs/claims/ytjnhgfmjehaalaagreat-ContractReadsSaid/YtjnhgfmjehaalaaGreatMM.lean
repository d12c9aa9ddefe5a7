/- Texts that go together. -/
import Derived.Test.YtjnhgfmjehaalaaGreatML
import Derived.Test.YtjnhgfmjehaalaaGreatRL
import Derived.Deep.Cut
/- Bytes put: contract.Put. -/
namespace Go.Proofs.YtjnhgfmjehaalaaGreat
open Go.RowKit
set_option linter.unusedVariables false
set_option linter.unusedSimpArgs false
def bCon (n : Nat) (c : Con) : List UInt8 := bBytes c.name ++ ((bCount c.fields.length ++ (c.fields.map bFld).flatten) ++ ((bCount c.stages.length ++ (c.stages.map bStg).flatten) ++ (bCount c.moves.length ++ (c.moves.map (bMov (n - 1))).flatten)))
structure ConW (n : Nat) (c : Con) : Prop where
 name : c.name.length ≤ 4294967295
 nf : c.fields.length ≤ 4294967295
 ns : c.stages.length ≤ 4294967295
 nm : c.moves.length ≤ 4294967295
 fields : ∀ f ∈ c.fields, FldW f
 stages : ∀ s ∈ c.stages, StgW s
 moves : ∀ m ∈ c.moves, MovW (n - 1) m
def bC (n : Nat) (c : Con) : List UInt8 := if chkC c n = 0 then bCon n c else []
section
variable {w : World}
set_option maxRecDepth 20000 in
theorem putC_c {A B D : Option Addr} {a b d : Nat} {n : Nat} {Y : Option Addr} {m z : Nat} {xs : List UInt8} (c : Con) (h : Sl kU8 (fun _ => True) w (.slice Y m z) xs) (h1 : Sl kFld (fun _ => True) w (.slice A c.fields.length a) c.fields)
 (h2 : Sl kStg (fun _ => True) w (.slice B c.stages.length b) c.stages) (h3 : Sl (kMov n) (fun _ => True) w (.slice D c.moves.length d) c.moves) (hc : chkC c n = 0 → ConW n c) (hsz : xs.length + (bC n c).length ≤ 137438953472) :
 Calls Tryz.prog 9 #[.slice Y m z, .agg #[.string ⟨c.name.toArray⟩, .slice A c.fields.length a, .slice B c.stages.length b, .slice D c.moves.length d]] w (RetOwn kU8 5 (fun _ => True) w (xs ++ bC n c)) := by
 have HE := Lib.hid hc
 have HSZ := Lib.hid hsz
 have H1 := Lib.hid h1
 have H2 := Lib.hid h2
 have H3 := Lib.hid h3
 have HN := Lib.hid h.len.1
 have m1 := h1.len.2.2.1
 have m2 := h2.len.2.2.1
 have m3 := h3.len.2.2.1
 have l1 := h1.len.2.1
 have l2 := h2.len.2.1
 have l3 := h3.len.2.1
 have hL := Loc1.new w 26 #[.string ⟨c.name.toArray⟩, .slice A c.fields.length a, .slice B c.stages.length b, .slice D c.moves.length d]
 have hb0 : Below w.heap.size w (w.alloc (.cells #[.string ⟨c.name.toArray⟩, .slice A c.fields.length a, .slice B c.stages.length b, .slice D c.moves.length d] 26)) := bW
 have hnn : m ≤ 137438953472 := by have := h.len.1; omega
 have HC := Lib.hid (clone_u8 (h.below hb0) (by omega))
 have HL := Lib.hid hL
 have EB := Lib.hid (show bC n c = if chkC c n = 0 then bCon n c else [] from rfl)
 clear h h1 h2 h3 hc hsz
 go_enter Tryz.func9, Tryz.ntmps9
 go_upto_region 1 with (fail)
 generalize (w.alloc (.cells #[.string ⟨c.name.toArray⟩, .slice A c.fields.length a, .slice B c.stages.length b, .slice D c.moves.length d] 26)) = w0 at *
 have KS := Lib.hid (show ∀ W : World, Below w0.heap.size w0 W → W.cell? ⟨w.heap.size, 0, none⟩ = some (.string ⟨c.name.toArray⟩) ∧ W.cell? ⟨w.heap.size, 1, none⟩ = some (.slice A c.fields.length a) ∧ W.cell? ⟨w.heap.size, 2, none⟩ = some (.slice B c.stages.length b) ∧ W.cell? ⟨w.heap.size, 3, none⟩ = some (.slice D c.moves.length d) from fun W hb => by
  have LX := HL.out.bel hb
  obtain ⟨c0, c1, c2, c3⟩ := cells4 LX
  exact ⟨c0, c1, c2, c3⟩)
 clear hL
 go_wp2_with fail
 refine HC.out.mono ?_
 rintro x9 w1 ⟨v1, rfl, ho1, hb1⟩
 have HO1 := Lib.hid ho1
 clear ho1 HC
 have LX := HL.out.bel hb1
 obtain ⟨c0, c1, c2, c3⟩ := cells4 LX
 have hz := lt_of_heap LX
 go_wp2_with fail
 refine (checkC_c (H1.out.below (show Below w.heap.size w w1 from bW)) (H2.out.below (show Below w.heap.size w w1 from bW)) (H3.out.below (show Below w.heap.size w w1 from bW))).mono ?_
 rintro x9 w2 ⟨rfl, hb2⟩
 have HO2 := Lib.hid ((show Own kU8 5 (fun _ => True) w1 w.heap.size v1 xs from HO1.out.lower (show Below w.heap.size w w0 from bW).size).below hb2)
 clear c0 c1 c2 c3 hz LX HO1
 have LX := HL.out.bel (show Below w0.heap.size w0 w2 from bW)
 obtain ⟨c0, c1, c2, c3⟩ := cells4 LX
 have hz := lt_of_heap LX
 by_cases hs : chkC c n = 0
 ·have E1 := Lib.hid (show bC n c = bCon n c by rw [EB.out, if_pos hs])
  have HW := Lib.hid (HE.out hs)
  have HSZ := Lib.hid (show xs.length + (bBytes c.name ++ ((bCount c.fields.length ++ (c.fields.map bFld).flatten) ++ ((bCount c.stages.length ++ (c.stages.map bStg).flatten) ++ (bCount c.moves.length ++ (c.moves.map (bMov (n - 1))).flatten)))).length ≤ 137438953472 by
   have h0 := HSZ.out
   rw [E1.out] at h0
   exact h0)
  obtain ⟨A2, n2, k2, rfl, hn2⟩ := HO2.out.form'
  replace hn2 : n2 ≤ 137438953472 := by rw [hn2, HN.out]; exact hnn
  generalize chkC c n = r at *
  subst hs
  go_upto_region 4 with (fail)
  clear c0 c1 c2 c3 hz LX
  refine wp_region_held_drew (S := fun W => W.cell? ⟨w.heap.size, 0, none⟩ = some (.string ⟨c.name.toArray⟩) ∧ W.cell? ⟨w.heap.size, 1, none⟩ = some (.slice A c.fields.length a) ∧ W.cell? ⟨w.heap.size, 2, none⟩ = some (.slice B c.stages.length b) ∧ W.cell? ⟨w.heap.size, 3, none⟩ = some (.slice D c.moves.length d)) (by kernel_rfl) (KS.out _ bW) (fun hHeld => ?_)
  refine takeL 0 11 (.slice A2 n2 k2) rfl rfl (by kernel_rfl) (fun _ _ _ h => h) (Or.inl ⟨by rfl, by (intro wz hSw; (try dsimp only at hSw); go_simp)⟩) (by assumption) ?_
  try simp only [Act.put, nrmA, nrmZ, nrmS]
  refine takeL 1 12 (.pointer (some ⟨w.heap.size, 0, none⟩)) rfl rfl (by kernel_rfl) (fun _ _ _ h => h) (Or.inl ⟨by rfl, by (intro wz hSw; (try dsimp only at hSw); go_simp)⟩) (by assumption) ?_
  try simp only [Act.put, nrmA, nrmZ, nrmS]
  refine takeL 2 13 (.string ⟨c.name.toArray⟩) rfl rfl (by kernel_rfl) (fun _ _ _ h => h) (Or.inl ⟨by rfl, by (intro wz hSw; (try dsimp only at hSw); go_simp)⟩) (by assumption) ?_
  try simp only [Act.put, nrmA, nrmZ, nrmS]
  refine takeL 4 15 (.pointer (some ⟨w.heap.size, 1, none⟩)) rfl rfl (by kernel_rfl) (fun _ _ _ h => h) (Or.inl ⟨by rfl, by (intro wz hSw; (try dsimp only at hSw); go_simp)⟩) (by assumption) ?_
  try simp only [Act.put, nrmA, nrmZ, nrmS]
  refine takeL 5 16 (.slice A c.fields.length a) rfl rfl (by kernel_rfl) (fun _ _ _ h => h) (Or.inl ⟨by rfl, by (intro wz hSw; (try dsimp only at hSw); go_simp)⟩) (by assumption) ?_
  try simp only [Act.put, nrmA, nrmZ, nrmS]
  refine rdL 3 rfl (by kernel_rfl) fun K hK => ?_
  go_simp
  refine (text6_c (HO2.out.read.below bW) c.name HW.out.name (by omega)).mono ?_
  rintro x9 w6 ⟨vw6, rfl, how6, hbw6⟩
  obtain ⟨Aw6, nw6, ccw6, rfl, -⟩ := how6.form'
  refine hK.out _ _ (KS.out _ bW) (fun hHeld => ?_)
  clear hK K
  try simp only [Act.put, nrmA, nrmZ, nrmS]
  refine rdL 6 rfl (by kernel_rfl) fun K hK => ?_
  go_simp
  refine (lstf_c (m := 0) 26 bFld (how6.read.below bW) (H1.out.below bW) (fun _ _ => rfl) (fun W A' n' c' ys e B d _ he hk hr hl => putFld_c e hr hk (HW.out.fields e he) hl) (by have h0 := HSZ.out; have h1 := HN.out; simp only [List.length_append] at h0 ⊢; (try simp only [bInt_len, bCount_len] at h0 ⊢); omega) HW.out.nf).mono ?_
  rintro x9 w7 ⟨vw7, rfl, how7, hbw7⟩
  obtain ⟨Aw7, nw7, ccw7, rfl, -⟩ := how7.form'
  refine hK.out _ _ (KS.out _ bW) (fun hHeld => ?_)
  clear hK K
  try simp only [Act.put, nrmA, nrmZ, nrmS]
  refine takeL 7 0 (.slice Aw7 nw7 ccw7) rfl rfl (by kernel_rfl) (fun _ _ _ h => h) (Or.inl ⟨by rfl, by (intro wz hSw; (try dsimp only at hSw); go_simp)⟩) (by assumption) ?_
  try simp only [Act.put, nrmA, nrmZ, nrmS]
  refine wpAnyH_done (by kernel_rfl) ?_ _
  simp only [Exit.then]
  have LX := HL.out.bel (show Below w0.heap.size w0 w7 from bW)
  obtain ⟨c0, c1, c2, c3⟩ := cells4 LX
  have hz := lt_of_heap LX
  have HO7 := Lib.hid how7
  clear how7
  go_wp2_with fail
  refine (lstt_c (m := 0) 31 bStg HO7.out.read (H2.out.below (show Below w.heap.size w w7 from bW)) (fun _ _ => rfl) (fun W A' n' c' ys e B d _ he hk hr hl => putStg_c e hr hk (HW.out.stages e he) hl) (by have h0 := HSZ.out; have h1 := HN.out; simp only [List.length_append] at h0 ⊢; (try simp only [bInt_len, bCount_len] at h0 ⊢); omega) HW.out.ns).mono ?_
  rintro x9 w8 ⟨v8, rfl, ho8, hb8⟩
  obtain ⟨A8, n8, c8, rfl, -⟩ := ho8.form'
  have HO8 := Lib.hid ho8
  clear ho8 c0 c1 c2 c3 hz LX
  have LX := HL.out.bel (show Below w0.heap.size w0 w8 from bW)
  obtain ⟨c0, c1, c2, c3⟩ := cells4 LX
  have hz := lt_of_heap LX
  go_wp2_with fail
  refine (lstm_c (m := n) 34 (bMov (n - 1)) HO8.out.read (H3.out.below (show Below w.heap.size w w8 from bW)) (fun _ _ => rfl) (fun W A' n' c' ys e k B b D d _ he hk h1 h2 hr hl => (by subst hk; exact putMov_c e hr h1 h2 (HW.out.moves e he) hl)) (by have h0 := HSZ.out; have h1 := HN.out; simp only [List.length_append] at h0 ⊢; (try simp only [bInt_len, bCount_len] at h0 ⊢); omega) HW.out.nm).mono ?_
  rintro x9 w9 ⟨v9, rfl, ho9, hb9⟩
  have HO9 := Lib.hid ho9
  clear ho9
  go_wp2_with fail
  go_ret
  exact ⟨_, rfl, by
   have h1 := HO9.out.lower (show Below w.heap.size w w8 from bW).size
   rw [E1.out]
   unfold bCon
   simp only [List.append_assoc] at h1 ⊢
   exact h1, bW⟩
 ·have E1 := Lib.hid (show bC n c = [] by rw [EB.out, if_neg hs])
  generalize chkC c n = r at *
  go_wp2_with fail
  go_ret
  rw [E1.out, List.append_nil]
  exact ⟨_, rfl, HO2.out, bW⟩
end
end Go.Proofs.YtjnhgfmjehaalaaGreat
/- Chapter 6: the right contract 'One'. -/
namespace Go.Proofs.YtjnhgfmjehaalaaGreat
open Go.RowKit
set_option linter.unusedVariables false
set_option linter.unusedSimpArgs false
def fN : Fld := ⟨[110], 1, [], ⟨1, 0, false, [], 0⟩⟩
def eYes : Exp := .mk 1 [] [] ⟨2, 0, true, [], 0⟩
def sS : Stg := ⟨[115], 0, []⟩
def sT : Stg := ⟨[116], 1, [0, 2]⟩
def mM : Mov := ⟨[109], 0, 1, eYes, [], -1⟩
def oneC : Con := ⟨[99], [fN], [sS, sT], [mM]⟩
def RetOne (w : World) (e : Ending) (w' : World) : Prop := ∃ A B D : Addr, e = .returned (.agg #[.string ⟨#[99]⟩, .slice (some A) 1 1, .slice (some B) 2 2, .slice (some D) 1 1]) ∧ Sl kFld (fun _ => True) w' (.slice (some A) 1 1) [fN] ∧ Sl kStg (fun _ => True) w' (.slice (some B) 2 2) [sS, sT] ∧
 Sl (kMov 2) (fun _ => True) w' (.slice (some D) 1 1) [mM] ∧ Below w.heap.size w w'
section
variable {w : World}
set_option maxRecDepth 20000 in
theorem one_c : Calls Tryz.prog 43 #[] w (RetOne w) := by
 have SF := store_f64
 go_enter Tryz.func43, Tryz.ntmps43
 go_wp2_with fail
 (try simp only [Exit.inBlock, Exit.then])
 refine bodyPost_ret (results_cell_row rfl _ _ w.heap.size 26 #[.string ⟨#[99]⟩, .slice (some ⟨w.heap.size + 1 + 1, 0, none⟩) 1 1, .slice (some ⟨w.heap.size + 1 + 1 + 1 + 1, 0, none⟩) 2 2, .slice (some ⟨w.heap.size + 1 + 1 + 1 + 1 + 1, 0, none⟩) 1 1] (0, 0) _ rfl (show Loc1 _ _ _ _ from (by (focus (repeat (first | with_reducible assumption | exact Loc1.newE _ _ _ (by simp) | with_reducible refine Loc1.al _ ?_ | with_reducible refine Loc1.dr ?_ | with_reducible refine Loc1.bel (by assumption) ?_))))) Tryz.underlying26 rfl (by kernel_rfl)) rfl ?_
 refine ⟨_, _, _, rfl, ?_, ?_, ?_, bW⟩
 ·exact sl_row (t := 41) (cs := [.string ⟨#[110]⟩, .int .i64 1, .slice none 0 0, .int .i64 1, .int .i64 0, .bool false, .string ⟨#[]⟩, .float .f64 0]) (by (focus (repeat (first | with_reducible assumption | exact Loc1.newE _ _ _ (by simp) | with_reducible refine Loc1.al _ ?_ | with_reducible refine Loc1.dr ?_ | with_reducible refine Loc1.bel (by assumption) ?_)))) trivial ⟨_, [], rfl, fld_mk (f := fN) (Sl.nil _ _ _), rfl⟩ rfl (by unfold maxLen; omega)
 ·exact sl_row (t := 68) (cs := [.string ⟨#[115]⟩, .int .i64 0, .slice none 0 0, .string ⟨#[116]⟩, .int .i64 1, .slice (some ⟨w.heap.size + 1 + 1 + 1, 0, none⟩) 2 2]) (by (focus (repeat (first | with_reducible assumption | exact Loc1.newE _ _ _ (by simp) | with_reducible refine Loc1.al _ ?_ | with_reducible refine Loc1.dr ?_ | with_reducible refine Loc1.bel (by assumption) ?_)))) trivial ⟨[_, _, _], [_, _, _], rfl, stg_mk (s := sS) (Sl.nil _ _ _), [_, _, _], [], rfl, stg_mk (s := sT) (sl_row (t := 3) (cs := [.int .i64 0, .int .i64 2]) (by (focus (repeat (first | with_reducible assumption | exact Loc1.newE _ _ _ (by simp) | with_reducible refine Loc1.al _ ?_ | with_reducible refine Loc1.dr ?_ | with_reducible refine Loc1.bel (by assumption) ?_)))) trivial ⟨[_], [_], rfl, rfl, [_], [], rfl, rfl, rfl⟩ rfl (by unfold maxLen; omega)), rfl⟩ rfl (by unfold maxLen; omega)
 ·exact sl_row (t := 47) (cs := [.string ⟨#[109]⟩, .int .i64 0, .int .i64 1, .int .i64 1, .slice none 0 0, .string ⟨#[]⟩, .int .i64 2, .int .i64 0, .bool true, .string ⟨#[]⟩, .float .f64 0, .slice none 0 0, .int .i64 (-1)]) (by (focus (repeat (first | with_reducible assumption | exact Loc1.newE _ _ _ (by simp) | with_reducible refine Loc1.al _ ?_ | with_reducible refine Loc1.dr ?_ | with_reducible refine Loc1.bel (by assumption) ?_)))) trivial ⟨_, [], rfl, mov_mk (m := mM) (Sl.nil _ _ _) (Sl.nil _ _ _), rfl⟩ rfl (by unfold maxLen; omega)
end
end Go.Proofs.YtjnhgfmjehaalaaGreat
/- Chapter 6: the law's examples. -/
namespace Go.Proofs.YtjnhgfmjehaalaaGreat
open Go.RowKit
set_option linter.unusedVariables false
set_option linter.unusedSimpArgs false
def oneA : Con := ⟨[99], [fN], [], []⟩
def mB : Mov := ⟨[109], 0, 0, .mk 1 [] [] ⟨1, 0, false, [], 0⟩, [], -1⟩
def oneB : Con := ⟨[99], [fN], [sS, sT], [mB]⟩
def oneT : Con := ⟨[99], [fN, fN], [sS, sT], [mM]⟩
theorem maxL1 : 1 ≤ maxLen := by unfold maxLen; omega
theorem maxL2 : 2 ≤ maxLen := by unfold maxLen; omega
theorem chk1 : chkC oneC 2 = 0 := by decide +kernel
theorem chkA : chkC oneA 2 = 61 := by decide +kernel
theorem chkB : chkC oneB 2 = 62 := by decide +kernel
theorem chkT : chkC oneT 2 = 60 := by decide +kernel
theorem bC1 : (bC 2 oneC).length = 158 := by decide +kernel
theorem conW1 : ConW 2 oneC where
 name := by decide
 nf := by decide
 ns := by decide
 nm := by decide
 fields := fun f hf => by
  obtain rfl := List.mem_singleton.1 hf
  exact ⟨by decide, by unfold i64; decide, by decide, (fun s hs => by cases hs), ⟨by unfold i64; decide, by unfold i64; decide, by decide, by decide⟩⟩
 stages := fun s hs => by
  rcases List.mem_cons.1 hs with rfl | hs
  ·exact ⟨by decide, by unfold i64; decide, by decide, fun s hs => by cases hs⟩
  obtain rfl := List.mem_singleton.1 hs
  refine ⟨by decide, by unfold i64; decide, by decide, fun x hx => ?_⟩
  rcases List.mem_cons.1 hx with rfl | hx
  ·unfold i64; decide
  obtain rfl := List.mem_singleton.1 hx
  unfold i64; decide
 moves := fun m hm => by
  obtain rfl := List.mem_singleton.1 hm
  exact ⟨by decide, by unfold i64; decide, by unfold i64; decide, by unfold i64; decide, fun _ => ⟨by unfold i64; decide, ⟨by unfold i64; decide, by unfold i64; decide, by decide, by decide⟩, by decide, by decide, (fun x hx => by cases hx)⟩, by decide, (fun x hx => by cases hx)⟩
section
variable {w : World}
set_option maxRecDepth 20000 in
set_option maxHeartbeats 20000000 in
theorem awake_c : Calls Tryz.prog 11 #[] w (Ret w (.bool true)) := by
 have SF := store_f64
 go_enter Tryz.func11, Tryz.ntmps11
 go_wp2_with fail
 refine one_c.mono ?_
 rintro x9 w1 ⟨A1, B1, D1, rfl, f1, s1, m1, hb1⟩
 go_wp2_with fail
 refine one_c.mono ?_
 rintro x9 w2 ⟨A2, B2, D2, rfl, f2, s2, m2, hb2⟩
 go_wp2_with fail
 refine one_c.mono ?_
 rintro x9 w3 ⟨A3, B3, D3, rfl, f3, s3, m3, hb3⟩
 replace f1 := (f1.below hb2).below hb3
 replace f2 := f2.below hb3
 replace s2 := s2.below hb3
 have hb : Below w.heap.size w w3 := bW
 have hbs := hb.size
 clear hb1 hb2 hb3 s1 m1 m2
 go_upto_region 4 with (fail)
 generalize hwa : ((w3.alloc (.cells #[.string ⟨#[99]⟩, .slice (some A1) 1 1, .slice none 0 0, .slice none 0 0] 26)).alloc (.cells #[.string ⟨#[99]⟩, .slice (some A2) 1 1, .slice (some B2) 2 2, .slice (some D2) 1 1] 26)).alloc (.cells #[.string ⟨#[99]⟩, .slice (some A3) 1 1, .slice (some B3) 2 2, .slice (some D3) 1 1] 26) = wa at *
 have ha : Loc1 w3.heap.size 26 #[.string ⟨#[99]⟩, .slice (some A1) 1 1, .slice none 0 0, .slice none 0 0] wa := by rw [← hwa]; exact (by (focus (repeat (first | with_reducible assumption | exact Loc1.newE _ _ _ (by simp) | with_reducible refine Loc1.al _ ?_ | with_reducible refine Loc1.dr ?_ | with_reducible refine Loc1.bel (by assumption) ?_))))
 have hB : Loc1 (w3.heap.size + 1) 26 #[.string ⟨#[99]⟩, .slice (some A2) 1 1, .slice (some B2) 2 2, .slice (some D2) 1 1] wa := by rw [← hwa]; exact (by (focus (repeat (first | with_reducible assumption | exact Loc1.newE _ _ _ (by simp) | with_reducible refine Loc1.al _ ?_ | with_reducible refine Loc1.dr ?_ | with_reducible refine Loc1.bel (by assumption) ?_))))
 have hC : Loc1 (w3.heap.size + 1 + 1) 26 #[.string ⟨#[99]⟩, .slice (some A3) 1 1, .slice (some B3) 2 2, .slice (some D3) 1 1] wa := by rw [← hwa]; exact (by (focus (repeat (first | with_reducible assumption | exact Loc1.newE _ _ _ (by simp) | with_reducible refine Loc1.al _ ?_ | with_reducible refine Loc1.dr ?_ | with_reducible refine Loc1.bel (by assumption) ?_))))
 have hbw : Below w3.heap.size w3 wa := by rw [← hwa]; exact bW
 have hsz : wa.heap.size = w3.heap.size + 3 := by rw [← hwa]; simp
 clear hwa
 obtain ⟨k0, k1, k2, k3⟩ := cells4 hB
 have u3 := free_of hB 3
 go_upto_region 5 with (fail)
 have hA2 : Loc1 w3.heap.size 26 #[.string ⟨#[99]⟩, .slice (some A1) 1 1, .slice none 0 0, .slice none 0 0] ((wa.setCell ⟨w3.heap.size + 1, 3, none⟩ (.slice (some ⟨w3.heap.size + 3, 0, none⟩) 1 1)).alloc (.cells #[.string ⟨#[109]⟩, .int .i64 0, .int .i64 0, .int .i64 1, .slice none 0 0, .string ⟨#[]⟩, .int .i64 1, .int .i64 0, .bool false, .string ⟨#[]⟩, .float .f64 0, .slice none 0 0, .int .i64 (-1)] 47)) := Loc1.al _ (Loc1.st (by omega) ha)
 have hB2 : Loc1 (w3.heap.size + 1) 26 #[.string ⟨#[99]⟩, .slice (some A2) 1 1, .slice (some B2) 2 2, .slice (some ⟨w3.heap.size + 3, 0, none⟩) 1 1] ((wa.setCell ⟨w3.heap.size + 1, 3, none⟩ (.slice (some ⟨w3.heap.size + 3, 0, none⟩) 1 1)).alloc (.cells #[.string ⟨#[109]⟩, .int .i64 0, .int .i64 0, .int .i64 1, .slice none 0 0, .string ⟨#[]⟩, .int .i64 1, .int .i64 0, .bool false, .string ⟨#[]⟩, .float .f64 0, .slice none 0 0, .int .i64 (-1)] 47)) := Loc1.al _ (by have := heap_set hB 3 (.slice (some ⟨w3.heap.size + 3, 0, none⟩) 1 1); unfold Loc1; simpa using this)
 have hC2 : Loc1 (w3.heap.size + 1 + 1) 26 #[.string ⟨#[99]⟩, .slice (some A3) 1 1, .slice (some B3) 2 2, .slice (some D3) 1 1] ((wa.setCell ⟨w3.heap.size + 1, 3, none⟩ (.slice (some ⟨w3.heap.size + 3, 0, none⟩) 1 1)).alloc (.cells #[.string ⟨#[109]⟩, .int .i64 0, .int .i64 0, .int .i64 1, .slice none 0 0, .string ⟨#[]⟩, .int .i64 1, .int .i64 0, .bool false, .string ⟨#[]⟩, .float .f64 0, .slice none 0 0, .int .i64 (-1)] 47)) := Loc1.al _ (Loc1.st (by omega) hC)
 have hD2 : Loc1 (w3.heap.size + 3) 47 #[.string ⟨#[109]⟩, .int .i64 0, .int .i64 0, .int .i64 1, .slice none 0 0, .string ⟨#[]⟩, .int .i64 1, .int .i64 0, .bool false, .string ⟨#[]⟩, .float .f64 0, .slice none 0 0, .int .i64 (-1)] ((wa.setCell ⟨w3.heap.size + 1, 3, none⟩ (.slice (some ⟨w3.heap.size + 3, 0, none⟩) 1 1)).alloc (.cells #[.string ⟨#[109]⟩, .int .i64 0, .int .i64 0, .int .i64 1, .slice none 0 0, .string ⟨#[]⟩, .int .i64 1, .int .i64 0, .bool false, .string ⟨#[]⟩, .float .f64 0, .slice none 0 0, .int .i64 (-1)] 47)) := Loc1.newE _ _ _ (by rw [World.size_setCell, hsz])
 have hbw2 : Below w3.heap.size w3 ((wa.setCell ⟨w3.heap.size + 1, 3, none⟩ (.slice (some ⟨w3.heap.size + 3, 0, none⟩) 1 1)).alloc (.cells #[.string ⟨#[109]⟩, .int .i64 0, .int .i64 0, .int .i64 1, .slice none 0 0, .string ⟨#[]⟩, .int .i64 1, .int .i64 0, .bool false, .string ⟨#[]⟩, .float .f64 0, .slice none 0 0, .int .i64 (-1)] 47)) := bel_al _ (bel_st (by omega) hbw)
 have hsz2 : ((wa.setCell ⟨w3.heap.size + 1, 3, none⟩ (.slice (some ⟨w3.heap.size + 3, 0, none⟩) 1 1)).alloc (.cells #[.string ⟨#[109]⟩, .int .i64 0, .int .i64 0, .int .i64 1, .slice none 0 0, .string ⟨#[]⟩, .int .i64 1, .int .i64 0, .bool false, .string ⟨#[]⟩, .float .f64 0, .slice none 0 0, .int .i64 (-1)] 47)).heap.size = w3.heap.size + 4 := by simp [hsz]
 generalize ((wa.setCell ⟨w3.heap.size + 1, 3, none⟩ (.slice (some ⟨w3.heap.size + 3, 0, none⟩) 1 1)).alloc (.cells #[.string ⟨#[109]⟩, .int .i64 0, .int .i64 0, .int .i64 1, .slice none 0 0, .string ⟨#[]⟩, .int .i64 1, .int .i64 0, .bool false, .string ⟨#[]⟩, .float .f64 0, .slice none 0 0, .int .i64 (-1)] 47)) = wb at *
 clear ha hB hC hbw hsz k0 k1 k2 k3 u3
 obtain ⟨ad, f, X, y, eA, he, hX, q0, q1, q2, q3, q4, q5, q6, q7⟩ := fld_at f3 (i := 0) (by decide)
 injection eA with eA
 subst eA
 injection he with he
 subst he
 have e0 : A3.add (0 * 8) = A3 := by unfold Addr.add; simp
 rw [e0] at q0 q1 q2 q3 q4 q5 q6 q7
 have K5 := Lib.hid (show ∀ W : World, Below wb.heap.size wb W → W.frozen? ⟨w3.heap.size + 1 + 1, 1, none⟩ = false ∧ W.cell? ⟨w3.heap.size + 1 + 1, 1, none⟩ = some (.slice (some A3) 1 1) ∧ W.cell? A3 = some (.string ⟨#[110]⟩) ∧ W.cell? ⟨A3.block, A3.off + 1, none⟩ = some (.int .i64 1) ∧ W.cell? ⟨A3.block, A3.off + 2, none⟩ = some (.slice X 0 y) ∧ W.cell? ⟨A3.block, A3.off + 3, none⟩ = some (.int .i64 1) ∧ W.cell? ⟨A3.block, A3.off + 4, none⟩ = some (.int .i64 0) ∧ W.cell? ⟨A3.block, A3.off + 5, none⟩ = some (.bool false) ∧ W.cell? ⟨A3.block, A3.off + 6, none⟩ = some (.string ⟨#[]⟩) ∧ W.cell? ⟨A3.block, A3.off + 7, none⟩ = some (.float .f64 0) from fun W hW => by
  have hb9 : Below w3.heap.size w3 W := below_self hbw2 hW
  exact ⟨free_of (hC2.bel hW) 1, cell_of (hC2.bel hW) 1, keepC q0 hb9, keepC q1 hb9, keepC q2 hb9, keepC q3 hb9, keepC q4 hb9, keepC q5 hb9, keepC q6 hb9, keepC q7 hb9⟩)
 clear q0 q1 q2 q3 q4 q5 q6 q7
 have hA3 : Loc1 w3.heap.size 26 #[.string ⟨#[99]⟩, .slice (some A1) 1 1, .slice none 0 0, .slice none 0 0] ((wb.setCell ⟨w3.heap.size + 1 + 1, 1, none⟩ (.slice (some ⟨w3.heap.size + 4, 0, none⟩) 2 2)).alloc (.cells #[.string ⟨#[110]⟩, .int .i64 1, .slice X 0 y, .int .i64 1, .int .i64 0, .bool false, .string ⟨#[]⟩, .float .f64 0, .string ⟨#[110]⟩, .int .i64 1, .slice X 0 y, .int .i64 1, .int .i64 0, .bool false, .string ⟨#[]⟩, .float .f64 0] 41)).drew := Loc1.dr (Loc1.al _ (Loc1.st (by omega) hA2))
 have hB3 : Loc1 (w3.heap.size + 1) 26 #[.string ⟨#[99]⟩, .slice (some A2) 1 1, .slice (some B2) 2 2, .slice (some ⟨w3.heap.size + 3, 0, none⟩) 1 1] ((wb.setCell ⟨w3.heap.size + 1 + 1, 1, none⟩ (.slice (some ⟨w3.heap.size + 4, 0, none⟩) 2 2)).alloc (.cells #[.string ⟨#[110]⟩, .int .i64 1, .slice X 0 y, .int .i64 1, .int .i64 0, .bool false, .string ⟨#[]⟩, .float .f64 0, .string ⟨#[110]⟩, .int .i64 1, .slice X 0 y, .int .i64 1, .int .i64 0, .bool false, .string ⟨#[]⟩, .float .f64 0] 41)).drew := Loc1.dr (Loc1.al _ (Loc1.st (by omega) hB2))
 have hC3 : Loc1 (w3.heap.size + 1 + 1) 26 #[.string ⟨#[99]⟩, .slice (some A3) 1 1, .slice (some B3) 2 2, .slice (some D3) 1 1] wb := hC2
 replace hC3 : Loc1 (w3.heap.size + 1 + 1) 26 #[.string ⟨#[99]⟩, .slice (some ⟨w3.heap.size + 4, 0, none⟩) 2 2, .slice (some B3) 2 2, .slice (some D3) 1 1] ((wb.setCell ⟨w3.heap.size + 1 + 1, 1, none⟩ (.slice (some ⟨w3.heap.size + 4, 0, none⟩) 2 2)).alloc (.cells #[.string ⟨#[110]⟩, .int .i64 1, .slice X 0 y, .int .i64 1, .int .i64 0, .bool false, .string ⟨#[]⟩, .float .f64 0, .string ⟨#[110]⟩, .int .i64 1, .slice X 0 y, .int .i64 1, .int .i64 0, .bool false, .string ⟨#[]⟩, .float .f64 0] 41)).drew := Loc1.dr (Loc1.al _ (by have := heap_set hC3 1 (.slice (some ⟨w3.heap.size + 4, 0, none⟩) 2 2); unfold Loc1; simpa using this))
 have hD3 : Loc1 (w3.heap.size + 3) 47 #[.string ⟨#[109]⟩, .int .i64 0, .int .i64 0, .int .i64 1, .slice none 0 0, .string ⟨#[]⟩, .int .i64 1, .int .i64 0, .bool false, .string ⟨#[]⟩, .float .f64 0, .slice none 0 0, .int .i64 (-1)] ((wb.setCell ⟨w3.heap.size + 1 + 1, 1, none⟩ (.slice (some ⟨w3.heap.size + 4, 0, none⟩) 2 2)).alloc (.cells #[.string ⟨#[110]⟩, .int .i64 1, .slice X 0 y, .int .i64 1, .int .i64 0, .bool false, .string ⟨#[]⟩, .float .f64 0, .string ⟨#[110]⟩, .int .i64 1, .slice X 0 y, .int .i64 1, .int .i64 0, .bool false, .string ⟨#[]⟩, .float .f64 0] 41)).drew := Loc1.dr (Loc1.al _ (Loc1.st (by omega) hD2))
 have hE3 : Loc1 (w3.heap.size + 4) 41 #[.string ⟨#[110]⟩, .int .i64 1, .slice X 0 y, .int .i64 1, .int .i64 0, .bool false, .string ⟨#[]⟩, .float .f64 0, .string ⟨#[110]⟩, .int .i64 1, .slice X 0 y, .int .i64 1, .int .i64 0, .bool false, .string ⟨#[]⟩, .float .f64 0] ((wb.setCell ⟨w3.heap.size + 1 + 1, 1, none⟩ (.slice (some ⟨w3.heap.size + 4, 0, none⟩) 2 2)).alloc (.cells #[.string ⟨#[110]⟩, .int .i64 1, .slice X 0 y, .int .i64 1, .int .i64 0, .bool false, .string ⟨#[]⟩, .float .f64 0, .string ⟨#[110]⟩, .int .i64 1, .slice X 0 y, .int .i64 1, .int .i64 0, .bool false, .string ⟨#[]⟩, .float .f64 0] 41)).drew := Loc1.dr (Loc1.newE _ _ _ (by rw [World.size_setCell, hsz2]))
 have hbw3 : Below w3.heap.size w3 ((wb.setCell ⟨w3.heap.size + 1 + 1, 1, none⟩ (.slice (some ⟨w3.heap.size + 4, 0, none⟩) 2 2)).alloc (.cells #[.string ⟨#[110]⟩, .int .i64 1, .slice X 0 y, .int .i64 1, .int .i64 0, .bool false, .string ⟨#[]⟩, .float .f64 0, .string ⟨#[110]⟩, .int .i64 1, .slice X 0 y, .int .i64 1, .int .i64 0, .bool false, .string ⟨#[]⟩, .float .f64 0] 41)).drew := bel_dr (bel_al _ (bel_st (by omega) hbw2))
 have HREL := Lib.hid (And.intro hA3 (And.intro hB3 (And.intro hC3 (And.intro hD3 (And.intro hE3 hbw3)))))
 clear hA3 hB3 hC3 hD3 hE3 hbw3 hA2 hB2 hC2 hD2
 obtain ⟨u3, q0, q1, q2, q3, q4, q5, q6, q7, q8⟩ := K5.out wb (Below.refl _ _)
 go_cut [3] from 14 to 23 (fun s3 W => s3 = .pointer (some ⟨w3.heap.size + 1 + 1, 0, none⟩) ∧ Loc1 w3.heap.size 26 #[.string ⟨#[99]⟩, .slice (some A1) 1 1, .slice none 0 0, .slice none 0 0] W ∧ Loc1 (w3.heap.size + 1) 26 #[.string ⟨#[99]⟩, .slice (some A2) 1 1, .slice (some B2) 2 2, .slice (some ⟨w3.heap.size + 3, 0, none⟩) 1 1] W ∧ Loc1 (w3.heap.size + 1 + 1) 26 #[.string ⟨#[99]⟩, .slice (some ⟨w3.heap.size + 4, 0, none⟩) 2 2, .slice (some B3) 2 2, .slice (some D3) 1 1] W ∧ Loc1 (w3.heap.size + 3) 47 #[.string ⟨#[109]⟩, .int .i64 0, .int .i64 0, .int .i64 1, .slice none 0 0, .string ⟨#[]⟩, .int .i64 1, .int .i64 0, .bool false, .string ⟨#[]⟩, .float .f64 0, .slice none 0 0, .int .i64 (-1)] W ∧ Loc1 (w3.heap.size + 4) 41 #[.string ⟨#[110]⟩, .int .i64 1, .slice X 0 y, .int .i64 1, .int .i64 0, .bool false, .string ⟨#[]⟩, .float .f64 0, .string ⟨#[110]⟩, .int .i64 1, .slice X 0 y, .int .i64 1, .int .i64 0, .bool false, .string ⟨#[]⟩, .float .f64 0] W ∧ Below w3.heap.size w3 W)
 case first =>
  go_region
  all_goals
   try simp only [Exit.then]
   apply_assumption
   go_meet
   case rel => exact ⟨rfl, HREL.out⟩
 case rest =>
 obtain ⟨rfl, hA3, hB3, hC3, hD3, hE3, hbw3⟩ := hcut
 have hX3 : Sl kStr (fun _ => True) wc (.slice X 0 y) [] := hX.below hbw3
 clear u3 q0 q1 q2 q3 q4 q5 q6 q7 q8 HREL
 generalize hwc : wc = wd at *
 clear hwc
 have HKA := Lib.hid (show ∀ W : World, Below wd.heap.size wd W → W.cell? ⟨w3.heap.size, 0, none⟩ = some (.string ⟨#[99]⟩) ∧ W.cell? ⟨w3.heap.size, 1, none⟩ = some (.slice (some A1) 1 1) ∧ W.cell? ⟨w3.heap.size, 2, none⟩ = some (.slice none 0 0) ∧ W.cell? ⟨w3.heap.size, 3, none⟩ = some (.slice none 0 0) from fun W hW => ⟨cell_of (hA3.bel hW) 0, cell_of (hA3.bel hW) 1, cell_of (hA3.bel hW) 2, cell_of (hA3.bel hW) 3⟩)
 have HKB := Lib.hid (show ∀ W : World, Below wd.heap.size wd W → W.cell? ⟨w3.heap.size + 1, 0, none⟩ = some (.string ⟨#[99]⟩) ∧ W.cell? ⟨w3.heap.size + 1, 1, none⟩ = some (.slice (some A2) 1 1) ∧ W.cell? ⟨w3.heap.size + 1, 2, none⟩ = some (.slice (some B2) 2 2) ∧ W.cell? ⟨w3.heap.size + 1, 3, none⟩ = some (.slice (some ⟨w3.heap.size + 3, 0, none⟩) 1 1) from fun W hW => ⟨cell_of (hB3.bel hW) 0, cell_of (hB3.bel hW) 1, cell_of (hB3.bel hW) 2, cell_of (hB3.bel hW) 3⟩)
 have HKC := Lib.hid (show ∀ W : World, Below wd.heap.size wd W → W.cell? ⟨w3.heap.size + 1 + 1, 0, none⟩ = some (.string ⟨#[99]⟩) ∧ W.cell? ⟨w3.heap.size + 1 + 1, 1, none⟩ = some (.slice (some ⟨w3.heap.size + 4, 0, none⟩) 2 2) ∧ W.cell? ⟨w3.heap.size + 1 + 1, 2, none⟩ = some (.slice (some B3) 2 2) ∧ W.cell? ⟨w3.heap.size + 1 + 1, 3, none⟩ = some (.slice (some D3) 1 1) from fun W hW => ⟨cell_of (hC3.bel hW) 0, cell_of (hC3.bel hW) 1, cell_of (hC3.bel hW) 2, cell_of (hC3.bel hW) 3⟩)
 have HA := Lib.hid (show ∀ W : World, Below wd.heap.size wd W → Calls Tryz.prog 12 #[.agg #[.string ⟨#[99]⟩, .slice (some A1) 1 1, .slice none 0 0, .slice none 0 0]] W (Ret W (.int .i64 61)) from fun W hW => by
  have h := checkC_c (w := W) (c := oneA) (n := 2) (f1.below (below_self hbw3 hW)) (Sl.nil _ _ _) (Sl.nil _ _ _)
  rw [chkA] at h
  exact h)
 have HB := Lib.hid (show ∀ W : World, Below wd.heap.size wd W → Calls Tryz.prog 12 #[.agg #[.string ⟨#[99]⟩, .slice (some A2) 1 1, .slice (some B2) 2 2, .slice (some ⟨w3.heap.size + 3, 0, none⟩) 1 1]] W (Ret W (.int .i64 62)) from fun W hW => by
  have h := checkC_c (w := W) (c := oneB) (n := 2) (f2.below (below_self hbw3 hW)) (s2.below (below_self hbw3 hW)) (sl_row (t := 47) (cs := [.string ⟨#[109]⟩, .int .i64 0, .int .i64 0, .int .i64 1, .slice none 0 0, .string ⟨#[]⟩, .int .i64 1, .int .i64 0, .bool false, .string ⟨#[]⟩, .float .f64 0, .slice none 0 0, .int .i64 (-1)]) (hD3.bel hW) trivial ⟨_, [], rfl, mov_mk (m := mB) (Sl.nil _ _ _) (Sl.nil _ _ _), rfl⟩ rfl maxL1)
  rw [chkB] at h
  exact h)
 have HC := Lib.hid (show ∀ W : World, Below wd.heap.size wd W → Calls Tryz.prog 12 #[.agg #[.string ⟨#[99]⟩, .slice (some ⟨w3.heap.size + 4, 0, none⟩) 2 2, .slice (some B3) 2 2, .slice (some D3) 1 1]] W (Ret W (.int .i64 60)) from fun W hW => by
  have h := checkC_c (w := W) (c := oneT) (n := 2) (sl_row (t := 41) (cs := [.string ⟨#[110]⟩, .int .i64 1, .slice X 0 y, .int .i64 1, .int .i64 0, .bool false, .string ⟨#[]⟩, .float .f64 0, .string ⟨#[110]⟩, .int .i64 1, .slice X 0 y, .int .i64 1, .int .i64 0, .bool false, .string ⟨#[]⟩, .float .f64 0]) (hE3.bel hW) trivial ⟨[_, _, _, _, _, _, _, _], [_, _, _, _, _, _, _, _], rfl, fld_mk (f := fN) (hX3.below hW), [_, _, _, _, _, _, _, _], [], rfl, fld_mk (f := fN) (hX3.below hW), rfl⟩ rfl maxL2) (s3.below (below_self hbw3 hW)) (m3.below (below_self hbw3 hW))
  rw [chkT] at h
  exact h)
 clear hE3 hD3 hA3 hB3 hC3 hbw2 hsz2 hX3 hX f1 f2 s2 f3 s3 m3 K5 e0
 have H0 := Lib.hid (show ∀ (W : World) (A B D : Addr), Sl kFld (fun _ => True) W (.slice (some A) 1 1) [fN] → Sl kStg (fun _ => True) W (.slice (some B) 2 2) [sS, sT] → Sl (kMov 2) (fun _ => True) W (.slice (some D) 1 1) [mM] →
  Calls Tryz.prog 12 #[.agg #[.string ⟨#[99]⟩, .slice (some A) 1 1, .slice (some B) 2 2, .slice (some D) 1 1]] W (Ret W (.int .i64 0)) from fun W A B D h1 h2 h3 => by
  have h := checkC_c (w := W) (c := oneC) (n := 2) h1 h2 h3
  rw [chk1] at h
  exact h)
 have HP := Lib.hid (show ∀ (W : World) (A B D : Addr), Sl kFld (fun _ => True) W (.slice (some A) 1 1) [fN] → Sl kStg (fun _ => True) W (.slice (some B) 2 2) [sS, sT] → Sl (kMov 2) (fun _ => True) W (.slice (some D) 1 1) [mM] →
  Calls Tryz.prog 9 #[.slice none 0 0, .agg #[.string ⟨#[99]⟩, .slice (some A) 1 1, .slice (some B) 2 2, .slice (some D) 1 1]] W (fun e w' => ∃ (v : Option Addr) (m k : Nat), e = .returned (.slice v m k) ∧ (20 : Int) < (m : Int) ∧ Below W.heap.size W w') from fun W A B D h1 h2 h3 => by
  refine (putC_c (w := W) (n := 2) (xs := []) oneC (Sl.nil _ _ _) h1 h2 h3 (fun _ => conW1) (by rw [bC1]; simp)).mono ?_
  rintro e w' ⟨v, rfl, ho, hb⟩
  obtain ⟨A5, n5, c5, rfl, hn5⟩ := ho.form'
  refine ⟨A5, n5, c5, rfl, ?_, hb⟩
  rw [hn5, List.nil_append, bC1]
  decide)
 have HS := Lib.hid (show ∀ (W : World) (A B D : Addr), Sl kFld (fun _ => True) W (.slice (some A) 1 1) [fN] → Sl kStg (fun _ => True) W (.slice (some B) 2 2) [sS, sT] → Sl (kMov 2) (fun _ => True) W (.slice (some D) 1 1) [mM] →
  Calls Tryz.prog 44 #[.agg #[.string ⟨#[99]⟩, .slice (some A) 1 1, .slice (some B) 2 2, .slice (some D) 1 1], .string ⟨#[116]⟩] W (Ret W (.int .i64 1)) from fun W A B D h1 h2 h3 => stage_c (w := W) (c := oneC) (n := 2) [116] h2)
 go_wp2_with fail
 refine one_c.mono ?_
 rintro x9 w4 ⟨A4, B4, D4, rfl, g1, g2, g3, hb4⟩
 go_wp2_with fail
 refine (H0.out w4 _ _ _ g1 g2 g3).mono ?_
 rintro x9 w5 ⟨rfl, hb5⟩
 clear g1 g2 g3
 go_wp2_with fail
 refine one_c.mono ?_
 rintro x9 w6 ⟨A6, B6, D6, rfl, g1, g2, g3, hb6⟩
 go_wp2_with fail
 refine (HP.out w6 _ _ _ g1 g2 g3).mono ?_
 rintro x9 w7 ⟨v7, n7, c7, rfl, hn7, hb7⟩
 clear g1 g2 g3
 obtain ⟨k0, k1, k2, k3⟩ := HKA.out w7 bW
 go_wp2_with fail
 refine (HA.out w7 bW).mono ?_
 rintro x9 w8 ⟨rfl, hb8⟩
 clear k0 k1 k2 k3
 obtain ⟨k0, k1, k2, k3⟩ := HKB.out w8 bW
 go_wp2_with fail
 refine (HB.out w8 bW).mono ?_
 rintro x9 w9 ⟨rfl, hb9⟩
 clear k0 k1 k2 k3
 obtain ⟨k0, k1, k2, k3⟩ := HKC.out w9 bW
 go_wp2_with fail
 refine (HC.out w9 bW).mono ?_
 rintro x9 w10 ⟨rfl, hb10⟩
 clear k0 k1 k2 k3
 go_wp2_with fail
 refine one_c.mono ?_
 rintro x9 w11 ⟨A7, B7, D7, rfl, g1, g2, g3, hb11⟩
 go_wp2_with fail
 refine (HS.out w11 _ _ _ g1 g2 g3).mono ?_
 rintro x9 w12 ⟨rfl, hb12⟩
 clear g1 g2 g3
 go_wp2_with fail
 go_ret
 have hlast : Below wd.heap.size wd w12 := bW
 exact ⟨rfl, below_self hb (below_self hbw3 hlast)⟩
end
end Go.Proofs.YtjnhgfmjehaalaaGreat
