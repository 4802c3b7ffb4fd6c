/- A receiver takes a command that was made by EncodeCommand: what it makes of it. No condition. -/
import Derived.Test.YtpnejmlbfadaaaaTake
import Derived.Test.YtpnejmlbfadaaaaAt
namespace Go.Proofs.Ytpnejmlbfadaaaa
open Go.RowKit

theorem dc_enc {k n : Int} {d : List UInt8} (h : cmdOk k n d = true) : dcOk (encCmd k n d) = true ∧ dcK (encCmd k n d) = k ∧ dcN (encCmd k n d) = n ∧ dcD (encCmd k n d) = d := by
  obtain ⟨h1, h2, h3⟩ := cmdOk_parts h
  obtain ⟨ho, ht⟩ := opOk_seal (pw1 k ++ pw1 n ++ d)
  have e0 : nth (pw1 k ++ pw1 n ++ d) 0 = k := num_by1 k (by omega) (by omega)
  have e1 : nth (pw1 k ++ pw1 n ++ d) 1 = n := num_by1 n (by omega) (by omega)
  have hok : dcOk (encCmd k n d) = true := by
    rw [encCmd_yes h]
    unfold dcOk
    rw [ho, ht, e0, decide_eq_true h1.2, inB_mk (by simp only [List.length_append, pw1_len]; omega) (by simp only [List.length_append, pw1_len]; omega)]
    rfl
  obtain ⟨a1, a2, a3⟩ := dc_yes hok
  rw [encCmd_yes h, ht] at a1 a2 a3
  rw [encCmd_yes h]
  rw [encCmd_yes h] at hok
  exact ⟨hok, by rw [a1, e0], by rw [a2, e1], by rw [a3]; rfl⟩
theorem encCmd_txt {k n : Int} {d : List UInt8} (h : cmdOk k n d = true) : Txt (encCmd k n d) := by
  obtain ⟨_, _, h3⟩ := cmdOk_parts h
  rw [encCmd_yes h]
  unfold Txt
  rw [sealT_length]
  simp only [List.length_append, pw1_len]
  omega
theorem txt_le {l : List UInt8} (h : l.length ≤ 40) : Txt l := by unfold Txt; omega
theorem cmdOk_mk {k n : Int} {d : List UInt8} (hk : k = 0 ∨ k = 1) (h0 : 0 ≤ n) (h1 : n ≤ 255) (hd : d.length ≤ 40) : cmdOk k n d = true := by
  unfold cmdOk
  rw [inB_mk (by omega) (by omega), inB_mk h0 h1, decide_eq_true (by omega)]
  rfl
theorem takeEnc (e : Int) (lk ag : Bool) (tk k n : Int) (d : List UInt8) (v : Value) (w : World) (h : cmdOk k n d = true) (hv : tkV e lk ag tk true k n d = v) :
    Calls Try.prog 33 #[.agg #[.int .i64 e, .bool lk, .bool ag, .int .i64 tk], .string ⟨(encCmd k n d).toArray⟩] w fun r w' => r = .returned v ∧ Below w.heap.size w w' := by
  obtain ⟨h1, h2, h3, h4⟩ := dc_enc h
  have := takeCommand_any e lk ag tk (encCmd k n d) w (encCmd_txt h)
  rw [h1, h2, h3, h4, hv] at this
  exact this
theorem recvOk_mk {e tk : Int} (h1 : 0 ≤ e) (h2 : e ≤ 255) (h3 : 0 ≤ tk) (h4 : tk ≤ 1000000) : recvOk e tk = true := by unfold recvOk; rw [inB_mk h1 h2, inB_mk h3 h4]; rfl
theorem tk_far {E d : Int} (hE0 : 0 ≤ E) (hE1 : E ≤ 255) (hd0 : 41 ≤ d) (hd1 : d ≤ 215) (t : List UInt8) : tkV E false false 0 true 0 ((E + d) % 256) t = recvV E true false 0 [] false := by
  have hx : ((E + d) % 256 - E + 256) % 256 = d := by omega
  unfold tkV
  rw [recvOk_mk hE0 hE1 (by omega) (by omega), hx, if_neg (by simp), if_neg (by omega), if_neg (by simp), if_neg (by omega), if_neg (by rw [show inB d 1 40 = false from by unfold inB; simp; omega]; simp), if_pos (inB_mk hd0 hd1)]
theorem tk_locked {E n : Int} (hE0 : 0 ≤ E) (hE1 : E ≤ 255) (t : List UInt8) : tkV E true false 0 true 0 n t = recvV E true false 0 [] false := by
  unfold tkV
  rw [recvOk_mk hE0 hE1 (by omega) (by omega), if_neg (by simp), if_neg (by omega), if_pos rfl]
theorem tk_unlock {E n : Int} (hE0 : 0 ≤ E) (hE1 : E ≤ 255) (t : List UInt8) : tkV E true false 0 true 1 n t = recvV E false false 0 [] false := by
  unfold tkV
  rw [recvOk_mk hE0 hE1 (by omega) (by omega), if_neg (by simp), if_pos rfl]
theorem tk_next {E : Int} (hE0 : 0 ≤ E) (hE1 : E ≤ 255) (t : List UInt8) : tkV E false false 0 true 0 E t = recvV ((E + 1) % 256) false false 1 t true := by
  unfold tkV
  rw [recvOk_mk hE0 hE1 (by omega) (by omega), if_neg (by simp), if_neg (by omega), if_neg (by simp), if_pos ⟨by omega, by omega⟩]
  rfl
theorem tk_ahead {E d : Int} (hE0 : 0 ≤ E) (hE1 : E ≤ 255) (hd0 : 0 ≤ d) (hd1 : d ≤ 39) (t : List UInt8) : tkV E false false 0 true 0 ((E + 1 + d) % 256) t = recvV E false true 0 [] false := by
  have hx : ((E + 1 + d) % 256 - E + 256) % 256 = d + 1 := by omega
  unfold tkV
  rw [recvOk_mk hE0 hE1 (by omega) (by omega), hx, if_neg (by simp), if_neg (by omega), if_neg (by simp), if_neg (by omega), if_pos (inB_mk (by omega) (by omega))]
end Go.Proofs.Ytpnejmlbfadaaaa
