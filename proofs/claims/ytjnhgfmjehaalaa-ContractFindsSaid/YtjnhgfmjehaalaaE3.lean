/- Package expr, walked: is an expression small? -/
import Derived.Test.YtjnhgfmjehaalaaE2
namespace Go.Proofs.Ytjnhgfmjehaalaa
open Go.RowKit
set_option linter.unusedVariables false
def Loc1 (N : Nat) (t : TypeId) (cm : Array Value) (W : World) : Prop := W.heap[N]? = some (.cells cm t (0, 0))
theorem Loc1.below {N : Nat} {t : TypeId} {cm : Array Value} {W W' : World} (h : Loc1 N t cm W) (hb : Below W.heap.size W W') : Loc1 N t cm W' := (hb.block _ (lt_of_heap h)).trans h
theorem Loc1.ext {N g : Nat} {t : TypeId} {cm : Array Value} {W W' : World} (h : Loc1 N t cm W) (hb : Ext (fun k => k ≠ g) W W') (hn : N ≠ g) : Loc1 N t cm W' := (hb.block _ (lt_of_heap h) hn).trans h
theorem heap_set_ne' {w : World} {b k : Nat} {o : Obj} (h : w.heap[k]? = some o) (hb : k ≠ b) (i : Nat) (u : Value) : (w.setCell ⟨b, i, none⟩ u).heap[k]? = some o := (Below.heap_setCell _ _ _ _ hb).trans h
/-- a float is stored -/
theorem store_f64 (w : World) (a : Addr) (b : Nat) : (store a (.float .f64 b)).run Try.prog w = stored Try.prog w a (.float .f64 b) .plain := run_store Try.prog w a _ _ rfl
/-- an expression's cells -/
def eCells (e : Exp) (A : Option Addr) (c : Nat) : Array Value := #[.int .i64 e.op, .slice A e.kids.length c, .string ⟨e.name.toArray⟩, .int .i64 e.val.kind, .int .i64 e.val.int, .bool e.val.bool, .string ⟨e.val.text.toArray⟩, .float .f64 e.val.num]
theorem exp_at {ok : Nat → Prop} {w : World} {n : Nat} {A : Option Addr} {N c : Nat} {l : List Exp} (h : Sl (kExp n) ok w (.slice A N c) l) {i : Nat} (hi : i < N) :
    ∃ ad e k B d, A = some ad ∧ l[i]? = some e ∧ n = k + 1 ∧ Sl (kExp k) ok w (.slice B e.kids.length d) e.kids ∧ w.cell? (ad.add (i * 8)) = some (.int .i64 e.op) ∧
      w.cell? ⟨(ad.add (i * 8)).block, (ad.add (i * 8)).off + 1, none⟩ = some (.slice B e.kids.length d) ∧ w.cell? ⟨(ad.add (i * 8)).block, (ad.add (i * 8)).off + 2, none⟩ = some (.string ⟨e.name.toArray⟩) ∧
      w.cell? ⟨(ad.add (i * 8)).block, (ad.add (i * 8)).off + 3, none⟩ = some (.int .i64 e.val.kind) ∧ w.cell? ⟨(ad.add (i * 8)).block, (ad.add (i * 8)).off + 4, none⟩ = some (.int .i64 e.val.int) ∧
      w.cell? ⟨(ad.add (i * 8)).block, (ad.add (i * 8)).off + 5, none⟩ = some (.bool e.val.bool) ∧ w.cell? ⟨(ad.add (i * 8)).block, (ad.add (i * 8)).off + 6, none⟩ = some (.string ⟨e.val.text.toArray⟩) ∧
      w.cell? ⟨(ad.add (i * 8)).block, (ad.add (i * 8)).off + 7, none⟩ = some (.float .f64 e.val.num) := by
  obtain ⟨ad, e, cs, ea, he, hr, h0, hj⟩ := cells_at h hi
  rw [kExp_sz] at h0 hj
  obtain ⟨k, B, d, rfl, rfl, hs⟩ := exp_open hr
  exact ⟨ad, e, k, B, d, ea, he, rfl, hs, h0 _ rfl, hj 0 _ rfl, hj 1 _ rfl, hj 2 _ rfl, hj 3 _ rfl, hj 4 _ rfl, hj 5 _ rfl, hj 6 _ rfl⟩
/-- what is left of the parts; false: it is not small -/
def spD : Nat → Exp → Int → Bool × Int
  | 0, _, n => (false, n - 1)
  | d + 1, e, n => if n - 1 < 0 then (false, n - 1) else e.kids.foldl (fun r k => if r.1 then spD d k r.2 else r) (true, n - 1)
abbrev spF (d : Nat) (r : Bool × Int) (k : Exp) : Bool × Int := if r.1 then spD d k r.2 else r
theorem spF_no (d : Nat) : ∀ (l : List Exp) (n : Int), l.foldl (spF d) (false, n) = (false, n)
  | [], _ => rfl
  | k :: l, n => by rw [List.foldl_cons]; exact spF_no d l n
theorem spF_next {d : Nat} {l : List Exp} {i : Nat} {x : Exp} {a : Bool × Int} {n : Int} (h : (l.take i).foldl (spF d) a = (true, n)) (hx : l[i]? = some x) : (l.take (i + 1)).foldl (spF d) a = spD d x n := by
  rw [List.take_add_one, hx, List.foldl_append, h]
  rfl
theorem spF_stop {d : Nat} {l : List Exp} {i : Nat} {x : Exp} {a : Bool × Int} {n m : Int} (h : (l.take i).foldl (spF d) a = (true, n)) (hx : l[i]? = some x) (hs : spD d x n = (false, m)) : l.foldl (spF d) a = (false, m) := by
  have := spF_next h hx
  rw [hs] at this
  rw [← List.take_append_drop (i + 1) l, List.foldl_append, this, spF_no]
theorem spD_le : ∀ (d : Nat) (e : Exp) (n m : Int), spD d e n = (true, m) → 0 ≤ m ∧ m ≤ n
  | 0, e, n, m, h => by simp [spD] at h
  | d + 1, e, n, m, h => by
    rw [spD] at h
    by_cases hn : n - 1 < 0
    · rw [if_pos hn] at h
      simp at h
    · rw [if_neg hn] at h
      have : ∀ (l : List Exp) (n m : Int), 0 ≤ n → l.foldl (spF d) (true, n) = (true, m) → 0 ≤ m ∧ m ≤ n := by
        intro l
        induction l with
        | nil => intro n m hn h; simp at h; omega
        | cons k l ih =>
          intro n m hn h
          rw [List.foldl_cons] at h
          have e1 : spF d (true, n) k = spD d k n := rfl
          rw [e1] at h
          cases hq : spD d k n with
          | mk b q =>
          rw [hq] at h
          cases b with
          | false => rw [spF_no] at h; simp at h
          | true =>
            have h1 := spD_le d k n q hq
            have h2 := ih q m h1.1 h
            omega
      have := this e.kids (n - 1) m (by omega) h
      omega
def RetSp (g : Nat) (w : World) (r : Bool × Int) (e : Ending) (w' : World) : Prop := e = .returned (.bool r.1) ∧ w'.heap[g]? = some (.cells #[.int .i64 r.2] 119 (0, 0)) ∧ Ext (fun k => k ≠ g) w w'
section
variable {w : World}
theorem spend_c (g : Nat) : ∀ (d n : Nat) (w : World) (cs : List Value) (e : Exp) (N : Int), d ≤ 6 → (kExp n).R (fun k => k ≠ g) w cs e → 0 ≤ N → N ≤ 24 → w.heap[g]? = some (.cells #[.int .i64 N] 119 (0, 0)) →
    Calls Try.prog 97 #[.pointer (some ⟨g, 0, none⟩), .agg cs.toArray, .int .i64 (d : Int)] w (RetSp g w (spD d e N)) := by
  intro d
  induction d with
  | zero =>
    intro n w cs e N hd h h0 h1 hg
    obtain ⟨k, A, c, rfl, rfl, hs⟩ := exp_open h
    have hgl := lt_of_heap hg
    have g0 : w.cell? ⟨g, 0, none⟩ = some (.int .i64 N) := cell_of hg 0
    have f0 : w.frozen? ⟨g, 0, none⟩ = false := free_of hg 0
    have G1 := Lib.hid (show ((w.setCell ⟨g, 0, none⟩ (.int .i64 (N - 1))).alloc (.cells #[.int .i64 e.op, .slice A e.kids.length c, .string ⟨e.name.toArray⟩, .int .i64 e.val.kind, .int .i64 e.val.int, .bool e.val.bool, .string ⟨e.val.text.toArray⟩, .float .f64 e.val.num] 44)).heap[g]? = some (.cells #[.int .i64 (N - 1)] 119 (0, 0)) from by
      have := heap_set hg 0 (.int .i64 (N - 1))
      exact (Below.heap_alloc _ _ _ (by simpa using hgl)).trans (by simpa using this))
    have X1 := Lib.hid (show Ext (fun b => b ≠ g) w ((w.setCell ⟨g, 0, none⟩ (.int .i64 (N - 1))).alloc (.cells #[.int .i64 e.op, .slice A e.kids.length c, .string ⟨e.name.toArray⟩, .int .i64 e.val.kind, .int .i64 e.val.int, .bool e.val.bool, .string ⟨e.val.text.toArray⟩, .float .f64 e.val.num] 44)) from (ext_set_ne (Ext.refl _ _) 0 _).trans (ext_alloc _ _ _))
    have hz : (0 : Int) ≤ N := h0
    have SF := store_f64
    by_cases hN : N = 0
    · subst hN
      have E := Lib.hid (show spD 0 e 0 = (false, 0 - 1) from rfl)
      have G1 := Lib.hid (by simpa using G1.out : (((w.setCell ⟨g, 0, none⟩ (.int .i64 (-1))).alloc (.cells #[.int .i64 e.op, .slice A e.kids.length c, .string ⟨e.name.toArray⟩, .int .i64 e.val.kind, .int .i64 e.val.int, .bool e.val.bool, .string ⟨e.val.text.toArray⟩, .float .f64 e.val.num] 44))).heap[g]? = some (.cells #[.int .i64 (-1)] 119 (0, 0)))
      have X1 := Lib.hid (by simpa using X1.out : Ext (fun b => b ≠ g) w ((w.setCell ⟨g, 0, none⟩ (.int .i64 (-1))).alloc (.cells #[.int .i64 e.op, .slice A e.kids.length c, .string ⟨e.name.toArray⟩, .int .i64 e.val.kind, .int .i64 e.val.int, .bool e.val.bool, .string ⟨e.val.text.toArray⟩, .float .f64 e.val.num] 44)))
      clear h hg hs
      go_enter Try.func97, Try.ntmps97
      go_wp2_with fail
      go_ret
      rw [E.out]
      exact ⟨rfl, G1.out, X1.out⟩
    have E := Lib.hid (show spD 0 e N = (false, N - 1) from rfl)
    have hN1 : ¬ N - 1 < 0 := by omega
    clear h hg hs
    go_enter Try.func97, Try.ntmps97
    go_wp2_with fail
    go_ret
    rw [E.out]
    exact ⟨rfl, G1.out, X1.out⟩
  | succ d ih =>
    intro n w cs e N hd h h0 h1 hg
    obtain ⟨k, A, c, rfl, rfl, hs⟩ := exp_open h
    have hgl := lt_of_heap hg
    have g0 : w.cell? ⟨g, 0, none⟩ = some (.int .i64 N) := cell_of hg 0
    have f0 : w.frozen? ⟨g, 0, none⟩ = false := free_of hg 0
    have G1 := Lib.hid (show ((w.setCell ⟨g, 0, none⟩ (.int .i64 (N - 1))).alloc (.cells #[.int .i64 e.op, .slice A e.kids.length c, .string ⟨e.name.toArray⟩, .int .i64 e.val.kind, .int .i64 e.val.int, .bool e.val.bool, .string ⟨e.val.text.toArray⟩, .float .f64 e.val.num] 44)).heap[g]? = some (.cells #[.int .i64 (N - 1)] 119 (0, 0)) from by
      have := heap_set hg 0 (.int .i64 (N - 1))
      exact (Below.heap_alloc _ _ _ (by simpa using hgl)).trans (by simpa using this))
    have X1 := Lib.hid (show Ext (fun b => b ≠ g) w ((w.setCell ⟨g, 0, none⟩ (.int .i64 (N - 1))).alloc (.cells #[.int .i64 e.op, .slice A e.kids.length c, .string ⟨e.name.toArray⟩, .int .i64 e.val.kind, .int .i64 e.val.int, .bool e.val.bool, .string ⟨e.val.text.toArray⟩, .float .f64 e.val.num] 44)) from (ext_set_ne (Ext.refl _ _) 0 _).trans (ext_alloc _ _ _))
    have hz : (0 : Int) ≤ N := h0
    have SF := store_f64
    by_cases hN : N = 0
    · subst hN
      have E := Lib.hid (show spD (d + 1) e 0 = (false, 0 - 1) from by simp [spD])
      have G1 := Lib.hid (by simpa using G1.out : (((w.setCell ⟨g, 0, none⟩ (.int .i64 (-1))).alloc (.cells #[.int .i64 e.op, .slice A e.kids.length c, .string ⟨e.name.toArray⟩, .int .i64 e.val.kind, .int .i64 e.val.int, .bool e.val.bool, .string ⟨e.val.text.toArray⟩, .float .f64 e.val.num] 44))).heap[g]? = some (.cells #[.int .i64 (-1)] 119 (0, 0)))
      have X1 := Lib.hid (by simpa using X1.out : Ext (fun b => b ≠ g) w ((w.setCell ⟨g, 0, none⟩ (.int .i64 (-1))).alloc (.cells #[.int .i64 e.op, .slice A e.kids.length c, .string ⟨e.name.toArray⟩, .int .i64 e.val.kind, .int .i64 e.val.int, .bool e.val.bool, .string ⟨e.val.text.toArray⟩, .float .f64 e.val.num] 44)))
      clear h hg hs
      go_enter Try.func97, Try.ntmps97
      go_wp2_with fail
      go_ret
      rw [E.out]
      exact ⟨rfl, G1.out, X1.out⟩
    have hN1 : ¬ N - 1 < 0 := by omega
    have hdd : ((d + 1 : Nat) : Int) = (d : Int) + 1 := by omega
    have hd1 : ¬ ((d : Int) + 1 = 0) := by omega
    have hd6 : (d : Int) ≤ 5 := by omega
    have E := Lib.hid (show spD (d + 1) e N = e.kids.foldl (spF d) (true, N - 1) by rw [spD, if_neg hN1])
    have IH := Lib.hid ih
    clear ih
    have HS := Lib.hid hs
    have hmax := hs.len.2.2.1
    have hnc := hs.len.2.1
    have L1 := Lib.hid (show Loc1 w.heap.size 44 #[.int .i64 e.op, .slice A e.kids.length c, .string ⟨e.name.toArray⟩, .int .i64 e.val.kind, .int .i64 e.val.int, .bool e.val.bool, .string ⟨e.val.text.toArray⟩, .float .f64 e.val.num] ((w.setCell ⟨g, 0, none⟩ (.int .i64 (N - 1))).alloc (.cells #[.int .i64 e.op, .slice A e.kids.length c, .string ⟨e.name.toArray⟩, .int .i64 e.val.kind, .int .i64 e.val.int, .bool e.val.bool, .string ⟨e.val.text.toArray⟩, .float .f64 e.val.num] 44)) from by
      unfold Loc1
      have h := heap_new (w.setCell ⟨g, 0, none⟩ (.int .i64 (N - 1))) (.cells #[.int .i64 e.op, .slice A e.kids.length c, .string ⟨e.name.toArray⟩, .int .i64 e.val.kind, .int .i64 e.val.int, .bool e.val.bool, .string ⟨e.val.text.toArray⟩, .float .f64 e.val.num] 44)
      rw [World.size_setCell] at h
      exact h)
    clear h hg hs
    rw [hdd]
    go_enter Try.func97, Try.ntmps97
    go_wp2_with fail
    go_loopw [28] (fun v wr => ∃ (i : Nat) (N' : Int), i ≤ e.kids.length ∧ v = .int .i64 i ∧ (e.kids.take i).foldl (spF d) (true, N - 1) = (true, N') ∧ 0 ≤ N' ∧ N' ≤ 24 ∧ wr.heap[g]? = some (.cells #[.int .i64 N'] 119 (0, 0)) ∧ Ext (fun b => b ≠ g) w wr ∧ Loc1 w.heap.size 44 #[.int .i64 e.op, .slice A e.kids.length c, .string ⟨e.name.toArray⟩, .int .i64 e.val.kind, .int .i64 e.val.int, .bool e.val.bool, .string ⟨e.val.text.toArray⟩, .float .f64 e.val.num] wr) (fun v _ => e.kids.length - (intOf v).toNat)
    case atStart => exact ⟨0, N - 1, Nat.zero_le _, rfl, rfl, by omega, by omega, G1.out, X1.out, L1.out⟩
    case round =>
      obtain ⟨i, N', hi, rfl, hf, hn0, hn1, hg', hx, hl⟩ := hrel
      have HF := Lib.hid hf
      have HG := Lib.hid hg'
      have HX := Lib.hid hx
      have HL := Lib.hid hl
      have hgr := lt_of_heap hg'
      have hlr := lt_of_heap hl
      clear hf hg' hx hl G1 X1 L1
      by_cases hlt : i < e.kids.length
      · obtain ⟨ad, x, k', B, d', rfl, he, rfl, hs', c0, c1, c2, c3, c4, c5, c6, c7⟩ := exp_at (HS.out.ext HX.out) hlt
        have HE := Lib.hid he
        have HS' := Lib.hid hs'
        clear he hs'
        have hx0 : x.kids.length ≤ d' := HS'.out.len.2.1
        have BK := Lib.hid (show Below wr.heap.size wr (wr.alloc (.cells #[.int .i64 x.op, .slice B x.kids.length d', .string ⟨x.name.toArray⟩, .int .i64 x.val.kind, .int .i64 x.val.int, .bool x.val.bool, .string ⟨x.val.text.toArray⟩, .float .f64 x.val.num] 44)) from (Below.refl _ _).alloc (Nat.le_refl _) _)
        have HC := Lib.hid (IH.out (k' + 1) (wr.alloc (.cells #[.int .i64 x.op, .slice B x.kids.length d', .string ⟨x.name.toArray⟩, .int .i64 x.val.kind, .int .i64 x.val.int, .bool x.val.bool, .string ⟨x.val.text.toArray⟩, .float .f64 x.val.num] 44)) _ x N' (by omega) (exp_mk (HS'.out.below BK.out)) hn0 hn1 ((BK.out.block _ hgr).trans HG.out))
        go_wp2_with fail
        refine HC.out.mono ?_
        rintro e1 w2 ⟨rfl, hg2, hx2⟩
        have X2 := Lib.hid ((HX.out.trans (Below.ext BK.out _)).trans hx2)
        have L2 := Lib.hid ((HL.out.below BK.out).ext hx2 (by omega))
        have G2 := Lib.hid hg2
        clear HC hg2 hx2 c0 c1 c2 c3 c4 c5 c6 c7
        cases hr : spD d x N' with
        | mk b n2 =>
        rw [hr] at G2
        cases b
        · have E2 := Lib.hid (E.out.trans (spF_stop HF.out HE.out hr))
          go_wp2_with fail
          go_ret
          rw [E2.out]
          exact ⟨rfl, G2.out, X2.out⟩
        · have hle := spD_le d x N' n2 hr
          have HF2 := Lib.hid ((spF_next HF.out HE.out).trans hr)
          go_wp2_with fail
          go_roundw
          case rel => exact ⟨i + 1, n2, by omega, by go_num, HF2.out, by omega, by omega, G2.out, X2.out, L2.out⟩
          case measure => simp [intOf]; omega
      · have E2 := Lib.hid (show spD (d + 1) e N = (true, N') from E.out.trans (by have h := HF.out; rw [List.take_of_length_le (show e.kids.length ≤ i by omega)] at h; exact h))
        go_wp2_with fail
        go_ret
        rw [E2.out]
        exact ⟨rfl, HG.out, HX.out⟩
def small (e : Exp) : Bool := (spD 6 e 24).1
theorem small_c {ok : Nat → Prop} {n : Nat} {cs : List Value} {e : Exp} (h : (kExp n).R ok w cs e) : Calls Try.prog 83 #[.agg cs.toArray] w (Ret w (.bool (small e))) := by
  obtain ⟨k, A, c, rfl, rfl, hs⟩ := exp_open h
  have BB := Lib.hid (show Below w.heap.size w ((w.alloc (.cells #[.int .i64 e.op, .slice A e.kids.length c, .string ⟨e.name.toArray⟩, .int .i64 e.val.kind, .int .i64 e.val.int, .bool e.val.bool, .string ⟨e.val.text.toArray⟩, .float .f64 e.val.num] 44)).alloc (.cells #[.int .i64 24] 119)) from ((Below.refl _ _).alloc (Nat.le_refl _) _).alloc (by simp) _)
  have HG := Lib.hid (show ((w.alloc (.cells #[.int .i64 e.op, .slice A e.kids.length c, .string ⟨e.name.toArray⟩, .int .i64 e.val.kind, .int .i64 e.val.int, .bool e.val.bool, .string ⟨e.val.text.toArray⟩, .float .f64 e.val.num] 44)).alloc (.cells #[.int .i64 24] 119)).heap[w.heap.size + 1]? = some (.cells #[.int .i64 24] 119 (0, 0)) from by have := heap_new (w.alloc (.cells #[.int .i64 e.op, .slice A e.kids.length c, .string ⟨e.name.toArray⟩, .int .i64 e.val.kind, .int .i64 e.val.int, .bool e.val.bool, .string ⟨e.val.text.toArray⟩, .float .f64 e.val.num] 44)) (.cells #[.int .i64 24] 119); simpa using this)
  have HB := Lib.hid ((kExp (k + 1)).weak (ok' := fun b => b ≠ w.heap.size + 1) (Kd.below (Kd.bound h) BB.out) fun b hb => by have := hb.2; omega)
  have HC := Lib.hid (spend_c (w.heap.size + 1) 6 (k + 1) ((w.alloc (.cells #[.int .i64 e.op, .slice A e.kids.length c, .string ⟨e.name.toArray⟩, .int .i64 e.val.kind, .int .i64 e.val.int, .bool e.val.bool, .string ⟨e.val.text.toArray⟩, .float .f64 e.val.num] 44)).alloc (.cells #[.int .i64 24] 119)) _ e 24 (by omega) HB.out (by omega) (by omega) HG.out)
  have E := Lib.hid (show small e = (spD 6 e 24).1 from rfl)
  generalize spD 6 e 24 = r at *
  rw [show ((6 : Nat) : Int) = 6 from rfl] at HC
  clear h hs
  go_enter Try.func83, Try.ntmps83
  go_wp2_with fail
  refine HC.out.mono ?_
  rintro e1 w1 ⟨rfl, _, hx⟩
  have HX := Lib.hid (BB.out.trans (hx.below fun b hb => ⟨by simp; omega, by omega⟩ : Below w.heap.size _ w1))
  clear hx
  go_wp2_with fail
  go_ret
  rw [E.out]
  exact ⟨rfl, HX.out⟩
end
end Go.Proofs.Ytjnhgfmjehaalaa
