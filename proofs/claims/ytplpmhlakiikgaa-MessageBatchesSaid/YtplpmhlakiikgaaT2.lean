/- Envelopes, certificates, messages that come in, opened. -/
import Derived.Test.YtplpmhlakiikgaaT
import Derived.Test.YtplpmhlakiikgaaN5
namespace Go.Proofs.Ytplpmhlakiikgaa
open Go.RowKit Go.ChangeShapes Go.WideShapes Go.ChangeAt Go.Deep
set_option linter.unusedVariables false
theorem opens_i64 {t : TypeId} (ht : Try.prog.underlying t = some (.int .i64)) : Opens Try.prog t kI i64 := opens_int ht
theorem opens_wf {n : Int} (h : (Lit.int .i64 n).wf = true) : i64 n := by
  have hw : (decide ((-9223372036854775808 : Int) ≤ n) && decide (n ≤ 9223372036854775807)) = true := h
  rw [Bool.and_eq_true, decide_eq_true_iff, decide_eq_true_iff] at hw
  exact hw
theorem opens_bytes : Opens Try.prog 23 kBytes (fun _ => True) := (opens_slice Try.underlying23 (by kernel_rfl) (opens_u8 Try.underlying5)).weak fun _ _ => trivial
theorem opens_env : Opens Try.prog 45 kEnv (fun e => i64 e.signer) :=
  (opens_iso (fun e : Env => (e.signer, e.body)) (fun p => ⟨p.1, p.2⟩) (fun _ => rfl) (opens_struct Try.underlying45 (by kernel_rfl) (opensF_cons rfl (by kernel_rfl) (opens_i64 Try.underlying3) (opensF_one rfl (by kernel_rfl) opens_bytes)))).weak fun e h => h.1
theorem opens_envs : Opens Try.prog 27 kEnvs (fun l => ∀ e ∈ l, i64 e.signer) := opens_slice Try.underlying27 (by kernel_rfl) opens_env
theorem opens_crt : Opens Try.prog 47 kCrt (fun c => i64 c.pre.signer ∧ ∀ e ∈ c.votes, i64 e.signer) :=
  (opens_iso (fun c : Crt => (c.pre, c.votes)) (fun p => ⟨p.1, p.2⟩) (fun _ => rfl) (opens_struct Try.underlying47 (by kernel_rfl) (opensF_cons rfl (by kernel_rfl) opens_env (opensF_one rfl (by kernel_rfl) opens_envs)))).weak fun c h => h
theorem opens_crts : Opens Try.prog 28 (kSl kCrt) (fun l => ∀ c ∈ l, i64 c.pre.signer ∧ ∀ e ∈ c.votes, i64 e.signer) := opens_slice Try.underlying28 (by kernel_rfl) opens_crt
theorem opens_res : Opens Try.prog 26 (kPair kI kI) (fun p => i64 p.1 ∧ i64 p.2) :=
  opens_struct Try.underlying26 (by kernel_rfl) (opensF_cons rfl (by kernel_rfl) (opens_i64 Try.underlying24) (opensF_one rfl (by kernel_rfl) (opens_i64 Try.underlying3)))
theorem opens_msg : Opens Try.prog 30 kMsg MsgI :=
  (opens_iso (fun m : Msg => (m.kind, m.view, m.seq, m.client, m.stamp, m.digest, m.data, m.code, m.stage, m.batch, m.pres, m.certs)) (fun p => ⟨p.1, p.2.1, p.2.2.1, p.2.2.2.1, p.2.2.2.2.1, p.2.2.2.2.2.1, p.2.2.2.2.2.2.1, p.2.2.2.2.2.2.2.1, p.2.2.2.2.2.2.2.2.1, p.2.2.2.2.2.2.2.2.2.1, p.2.2.2.2.2.2.2.2.2.2.1, p.2.2.2.2.2.2.2.2.2.2.2⟩) (fun _ => rfl)
    (opens_struct Try.underlying30 (by kernel_rfl)
      (opensF_cons rfl (by kernel_rfl) (opens_i64 Try.underlying3) (opensF_cons rfl (by kernel_rfl) (opens_i64 Try.underlying3) (opensF_cons rfl (by kernel_rfl) (opens_i64 Try.underlying3) (opensF_cons rfl (by kernel_rfl) (opens_i64 Try.underlying3) (opensF_cons rfl (by kernel_rfl) (opens_i64 Try.underlying3)
        (opensF_cons rfl (by kernel_rfl) (opens_str Try.underlying22) (opensF_cons rfl (by kernel_rfl) opens_bytes (opensF_cons2 rfl (by kernel_rfl) opens_res
          (opensF_cons rfl (by kernel_rfl) opens_envs (opensF_cons rfl (by kernel_rfl) opens_envs (opensF_one rfl (by kernel_rfl) opens_crts))))))))))))).weak
  fun m h => ⟨h.1, h.2.1, h.2.2.1, h.2.2.2.1, h.2.2.2.2.1, h.2.2.2.2.2.2.2.1.1, h.2.2.2.2.2.2.2.1.2, h.2.2.2.2.2.2.2.2.1, h.2.2.2.2.2.2.2.2.2.1, h.2.2.2.2.2.2.2.2.2.2⟩
/-- an argument's own cells -/
theorem Opens.arg {H : Type} {enc : TypeId × Value → H} {α : Type} {t : TypeId} {d : Kd α} {q : α → Prop} (h : Opens Try.prog t d q) {w : World} {base : Nat} {spare : Nat → Bool} {held : Bool} {v : Value} {x : DataW H} {p : List MemPlace} (hx : DataW.Trod enc Try.prog w base spare held t v x p) :
    ∃ a, d.R (fun _ => True) w v.cells.toList a ∧ q a := by
  obtain ⟨fuel, hf⟩ := hx
  exact h _ _ _ _ _ _ _ _ _ hf
end Go.Proofs.Ytplpmhlakiikgaa
