/- The api's values in memory: envelopes, certificates, messages. -/
import Derived.Test.YtplpmhlakiikgaaR
namespace Go.Proofs.Ytplpmhlakiikgaa
open Go.RowKit
set_option linter.unusedVariables false
structure Env where
  signer : Int
  body : List UInt8
  deriving DecidableEq
structure Crt where
  pre : Env
  votes : List Env
  deriving DecidableEq
structure Msg where
  kind : Int
  view : Int
  seq : Int
  client : Int
  stamp : Int
  digest : List UInt8
  data : List UInt8
  code : Int
  stage : Int
  batch : List Env
  pres : List Env
  certs : List Crt
  deriving DecidableEq
def kI : Kd Int := kInt .i64
def kEnv : Kd Env := kIso (kPair kI kBytes) fun e => (e.signer, e.body)
def kEnvs : Kd (List Env) := kSl kEnv
def kCrt : Kd Crt := kIso (kPair kEnv kEnvs) fun c => (c.pre, c.votes)
def kMsg : Kd Msg := kIso (kPair kI (kPair kI (kPair kI (kPair kI (kPair kI (kPair kStr (kPair kBytes (kPair kI (kPair kI (kPair kEnvs (kPair kEnvs (kSl kCrt))))))))))))
  fun m => (m.kind, m.view, m.seq, m.client, m.stamp, m.digest, m.data, m.code, m.stage, m.batch, m.pres, m.certs)
section
variable {ok : Nat → Prop} {w : World} {cs : List Value}
theorem env_open {e : Env} (h : kEnv.R ok w cs e) : ∃ A c, cs = [.int .i64 e.signer, .slice A e.body.length c] ∧ Sl kU8 ok w (.slice A e.body.length c) e.body := by
  obtain ⟨_, _, rfl, rfl, v, rfl, hs⟩ := h
  obtain ⟨A, c, rfl, _⟩ := hs.form
  exact ⟨A, c, rfl, hs⟩
theorem env_mk {e : Env} {v : Value} (h : Sl kU8 ok w v e.body) : kEnv.R ok w [.int .i64 e.signer, v] e := ⟨[_], [_], rfl, rfl, v, rfl, h⟩
theorem crt_open {e : Crt} (h : kCrt.R ok w cs e) : ∃ A c A' c', cs = [.int .i64 e.pre.signer, .slice A e.pre.body.length c, .slice A' e.votes.length c'] ∧ Sl kU8 ok w (.slice A e.pre.body.length c) e.pre.body ∧ Sl kEnv ok w (.slice A' e.votes.length c') e.votes := by
  obtain ⟨_, _, rfl, h1, v, rfl, hs⟩ := h
  obtain ⟨A, c, rfl, h2⟩ := env_open h1
  obtain ⟨A', c', rfl, _⟩ := hs.form
  exact ⟨A, c, A', c', rfl, h2, hs⟩
theorem crt_mk {e : Crt} {v v' : Value} (h : Sl kU8 ok w v e.pre.body) (h' : Sl kEnv ok w v' e.votes) : kCrt.R ok w [.int .i64 e.pre.signer, v, v'] e := ⟨[_, _], [_], rfl, env_mk h, v', rfl, h'⟩
theorem msg_open {m : Msg} (h : kMsg.R ok w cs m) : ∃ A1 c1 A2 c2 A3 c3 A4 c4, cs = [.int .i64 m.kind, .int .i64 m.view, .int .i64 m.seq, .int .i64 m.client, .int .i64 m.stamp, .string ⟨m.digest.toArray⟩, .slice A1 m.data.length c1, .int .i64 m.code, .int .i64 m.stage, .slice A2 m.batch.length c2, .slice A3 m.pres.length c3, .slice A4 m.certs.length c4] ∧
    Sl kU8 ok w (.slice A1 m.data.length c1) m.data ∧ Sl kEnv ok w (.slice A2 m.batch.length c2) m.batch ∧ Sl kEnv ok w (.slice A3 m.pres.length c3) m.pres ∧ Sl kCrt ok w (.slice A4 m.certs.length c4) m.certs := by
  obtain ⟨_, _, rfl, rfl, _, _, rfl, rfl, _, _, rfl, rfl, _, _, rfl, rfl, _, _, rfl, rfl, _, _, rfl, rfl, _, _, rfl, ⟨v1, rfl, h1⟩, _, _, rfl, rfl, _, _, rfl, rfl, _, _, rfl, ⟨v2, rfl, h2⟩, _, _, rfl, ⟨v3, rfl, h3⟩, v4, rfl, h4⟩ := h
  obtain ⟨A1, c1, rfl, _⟩ := h1.form
  obtain ⟨A2, c2, rfl, _⟩ := h2.form
  obtain ⟨A3, c3, rfl, _⟩ := h3.form
  obtain ⟨A4, c4, rfl, _⟩ := h4.form
  exact ⟨A1, c1, A2, c2, A3, c3, A4, c4, rfl, h1, h2, h3, h4⟩
theorem msg_mk {m : Msg} {v1 v2 v3 v4 : Value} (h1 : Sl kU8 ok w v1 m.data) (h2 : Sl kEnv ok w v2 m.batch) (h3 : Sl kEnv ok w v3 m.pres) (h4 : Sl kCrt ok w v4 m.certs) :
    kMsg.R ok w [.int .i64 m.kind, .int .i64 m.view, .int .i64 m.seq, .int .i64 m.client, .int .i64 m.stamp, .string ⟨m.digest.toArray⟩, v1, .int .i64 m.code, .int .i64 m.stage, v2, v3, v4] m :=
  ⟨[_], _, rfl, rfl, [_], _, rfl, rfl, [_], _, rfl, rfl, [_], _, rfl, rfl, [_], _, rfl, rfl, [_], _, rfl, rfl, [_], _, rfl, ⟨_, rfl, h1⟩, [_], _, rfl, rfl, [_], _, rfl, rfl, [_], _, rfl, ⟨_, rfl, h2⟩, [_], _, rfl, ⟨_, rfl, h3⟩, _, rfl, h4⟩
/-- an envelope in a slice: its cells, as the walk has them -/
theorem env_at {A : Option Addr} {n c : Nat} {l : List Env} (h : Sl kEnv ok w (.slice A n c) l) {i : Nat} (hi : i < n) :
    ∃ ad e B d, A = some ad ∧ l[i]? = some e ∧ w.cell? (ad.add (i * 2)) = some (.int .i64 e.signer) ∧ w.cell? ⟨(ad.add (i * 2)).block, (ad.add (i * 2)).off + 1, none⟩ = some (.slice B e.body.length d) ∧ Sl kU8 ok w (.slice B e.body.length d) e.body := by
  have hl := h.len.1
  obtain ⟨ad, cs, ea, _, hr, hc⟩ := h.at_ (List.getElem?_eq_getElem (show i < l.length by omega))
  obtain ⟨B, d, rfl, hb⟩ := env_open hr
  refine ⟨ad, _, B, d, ea, List.getElem?_eq_getElem (by omega), hc 0 _ rfl, ?_, hb⟩
  rw [← add_field ad (i * 2) 1 (by omega)]
  exact hc 1 _ rfl
theorem crt_at {A : Option Addr} {n c : Nat} {l : List Crt} (h : Sl kCrt ok w (.slice A n c) l) {i : Nat} (hi : i < n) :
    ∃ ad e B d B' d', A = some ad ∧ l[i]? = some e ∧ w.cell? (ad.add (i * 3)) = some (.int .i64 e.pre.signer) ∧ w.cell? ⟨(ad.add (i * 3)).block, (ad.add (i * 3)).off + 1, none⟩ = some (.slice B e.pre.body.length d) ∧
      w.cell? ⟨(ad.add (i * 3)).block, (ad.add (i * 3)).off + 2, none⟩ = some (.slice B' e.votes.length d') ∧ Sl kU8 ok w (.slice B e.pre.body.length d) e.pre.body ∧ Sl kEnv ok w (.slice B' e.votes.length d') e.votes := by
  have hl := h.len.1
  obtain ⟨ad, cs, ea, _, hr, hc⟩ := h.at_ (List.getElem?_eq_getElem (show i < l.length by omega))
  obtain ⟨B, d, B', d', rfl, hb, hb'⟩ := crt_open hr
  refine ⟨ad, _, B, d, B', d', ea, List.getElem?_eq_getElem (by omega), hc 0 _ rfl, ?_, ?_, hb, hb'⟩
  · rw [← add_field ad (i * 3) 1 (by omega)]
    exact hc 1 _ rfl
  · rw [← add_field ad (i * 3) 2 (by omega)]
    exact hc 2 _ rfl
end
end Go.Proofs.Ytplpmhlakiikgaa
