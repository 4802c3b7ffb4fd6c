/- Contracts: a text sealed with its check, and opened. No condition. -/
import Derived.Test.YtpnejmlbfadaaaaCheck
import Derived.Test.YtpnejmlbfadaaaaOpen
namespace Go.Proofs.Ytpnejmlbfadaaaa
open Go.RowKit

theorem crc_hi (l : List UInt8) : (crcOf l : Int) ≤ 65535 := by have := crcOf_lt l; omega
theorem crc_lo (l : List UInt8) : (0 : Int) ≤ crcOf l := by omega
theorem sealText_any (l : List UInt8) (w : World) (hl : l.length ≤ 9223372036854775805) :
    Calls Try.prog 70 #[.string ⟨l.toArray⟩] w fun e w' => e = .returned (.string ⟨(sealT l).toArray⟩) ∧ Below w.heap.size w w' := by
  have hl' : l.length ≤ 9223372036854775807 := by omega
  have hc := Lib.hid (show sealT l = l ++ pw2 (crcOf l) from rfl)
  go_enter Try.func70, Try.ntmps70
  go_wp2_with fail
  refine (checkOf_any l _ hl').mono ?_
  rintro e w1 ⟨rfl, rfl⟩
  go_wp2_with fail
  refine (putWord2 _ _ (crc_lo l) (crc_hi l)).mono ?_
  rintro e w1 ⟨rfl, hB1⟩
  go_wp2
  go_ret
  exact ⟨ret_app hc.out.symm, hB1⟩
theorem sSealText_any (l : List UInt8) (w : World) (hl : l.length ≤ 9223372036854775805) :
    Calls Try.prog 69 #[.string ⟨l.toArray⟩] w fun e w' => e = .returned (.string ⟨(sealT l).toArray⟩) ∧ Below w.heap.size w w' := by
  have hl' : l.length ≤ 9223372036854775807 := by omega
  have hc := Lib.hid (show sealT l = l ++ pw2 (crcOf l) from rfl)
  go_enter Try.func69, Try.ntmps69
  go_wp2_with fail
  refine (sCheckOf_any l _ hl').mono ?_
  rintro e w1 ⟨rfl, rfl⟩
  go_wp2_with fail
  refine (sPutWord2 _ _ (crc_lo l) (crc_hi l)).mono ?_
  rintro e w1 ⟨rfl, hB1⟩
  go_wp2
  go_ret
  exact ⟨ret_app hc.out.symm, hB1⟩

/-- Whether bytes are a sealed text, and of which. -/
def opOk (l : List UInt8) : Bool := decide (2 ≤ l.length) && (sealT (l.take (l.length - 2)) == l)
def opT (l : List UInt8) : List UInt8 := if opOk l then l.take (l.length - 2) else []
theorem op_no {l : List UInt8} (h : opOk l = false) : opT l = [] := by unfold opT; rw [h]; rfl
theorem op_yes {l : List UInt8} (h : opOk l = true) : opT l = l.take (l.length - 2) := by unfold opT; rw [h]; rfl
theorem opOk_seal (t : List UInt8) : opOk (sealT t) = true ∧ opT (sealT t) = t := by
  have hl : (sealT t).length - 2 = t.length := by rw [sealT_length]; omega
  have h : opOk (sealT t) = true := by
    unfold opOk
    rw [hl, sealT_take, decide_eq_true (by rw [sealT_length]; omega)]
    simp
  exact ⟨h, by rw [op_yes h, hl, sealT_take]⟩
theorem opOk_iff {l : List UInt8} : opOk l = true ↔ ∃ t, sealT t = l := by
  constructor
  · intro h
    unfold opOk at h
    simp only [Bool.and_eq_true, beq_iff_eq] at h
    exact ⟨_, h.2⟩
  · rintro ⟨t, rfl⟩
    exact (opOk_seal t).1
theorem opT_seal {l : List UInt8} (h : opOk l = true) : sealT (opT l) = l := by
  rw [op_yes h]
  unfold opOk at h
  simp only [Bool.and_eq_true, beq_iff_eq] at h
  exact h.2
theorem opT_len {l : List UInt8} (h : opOk l = true) : l.length = (opT l).length + 2 := by
  have := congrArg List.length (opT_seal h)
  rw [sealT_length] at this
  omega

theorem results_tmp2 {fn : Func} {t u : Tmp} (h : fn.results = #[.tmp t, .tmp u]) (tmps : Array Value) (P : Program) (w : World) :
    (results fn tmps).run P w = .ok (.tuple #[tmps.getD t undef, tmps.getD u undef]) w := by simp [results, h]
theorem ret_sb {a b : List UInt8} {p q : Bool} (h1 : a = b) (h2 : p = q) : Ending.returned (.tuple #[.string ⟨a.toArray⟩, .bool p]) = Ending.returned (.tuple #[.string ⟨b.toArray⟩, .bool q]) := by rw [h1, h2]

theorem openText_any (l : List UInt8) (w : World) (hl : Txt l) :
    Calls Try.prog 72 #[.string ⟨l.toArray⟩] w fun e w' => e = .returned (.tuple #[.string ⟨(opT l).toArray⟩, .bool (opOk l)]) ∧ Below w.heap.size w w' := by
  unfold Txt at hl
  have htx : (l.take (l.length - 2)).length ≤ 9223372036854775805 := by rw [List.length_take]; omega
  have hw : IntKind.i64.wrap ((l.length : Int) - 2) = (l.length : Int) - 2 := IntWalk.i64_in _ (by omega)
  by_cases h2 : 2 ≤ l.length
  · have h2d : decide ((l.length : Int) < 2) = false := by simp; omega
    have h2e : decide ((l.length : Int) - 2 < 0) = false := by simp; omega
    have h0i : (0 : Int) ≤ (l.length : Int) - 2 := by omega
    have hix : ((l.length : Int) - 2).toNat = l.length - 2 := by omega
    cases h : opOk l
    · have hc := Lib.hid (op_no h)
      have he : (sealT (l.take (l.length - 2)) == l) = false := by unfold opOk at h; rw [decide_eq_true h2] at h; simpa using h
      clear h
      go_enter Try.func72, Try.ntmps72
      go_wp2_with fail
      refine (sealText_any _ _ htx).mono ?_
      rintro e w1 ⟨rfl, hb1⟩
      go_wp2
      refine bodyPost_ret (results_tmp2 rfl _ _ _) rfl ?_
      exact ⟨ret_sb hc.out.symm rfl, hb1⟩
    · have hc := Lib.hid (op_yes h)
      have he : (sealT (l.take (l.length - 2)) == l) = true := by unfold opOk at h; rw [decide_eq_true h2] at h; simpa using h
      clear h
      go_enter Try.func72, Try.ntmps72
      go_wp2_with fail
      refine (sealText_any _ _ htx).mono ?_
      rintro e w1 ⟨rfl, hb1⟩
      go_wp2
      refine bodyPost_ret (results_tmp2 rfl _ _ _) rfl ?_
      exact ⟨ret_sb hc.out.symm rfl, hb1⟩
  · have h2d : decide ((l.length : Int) < 2) = true := by simp; omega
    have h2e : decide ((l.length : Int) - 2 < 0) = true := by simp; omega
    have h : opOk l = false := by unfold opOk; rw [decide_eq_false h2]; rfl
    have hc := Lib.hid (op_no h)
    have hk := Lib.hid h
    clear h
    go_enter Try.func72, Try.ntmps72
    go_wp2
    refine bodyPost_ret (results_tmp2 rfl _ _ _) rfl ?_
    exact ⟨ret_sb hc.out.symm hk.out.symm, Below.refl _ _⟩
theorem sOpenText_any (l : List UInt8) (w : World) (hl : Txt l) :
    Calls Try.prog 71 #[.string ⟨l.toArray⟩] w fun e w' => e = .returned (.tuple #[.string ⟨(opT l).toArray⟩, .bool (opOk l)]) ∧ Below w.heap.size w w' := by
  unfold Txt at hl
  have htx : (l.take (l.length - 2)).length ≤ 9223372036854775805 := by rw [List.length_take]; omega
  have hw : IntKind.i64.wrap ((l.length : Int) - 2) = (l.length : Int) - 2 := IntWalk.i64_in _ (by omega)
  by_cases h2 : 2 ≤ l.length
  · have h2d : decide ((l.length : Int) < 2) = false := by simp; omega
    have h2e : decide ((l.length : Int) - 2 < 0) = false := by simp; omega
    have h0i : (0 : Int) ≤ (l.length : Int) - 2 := by omega
    have hix : ((l.length : Int) - 2).toNat = l.length - 2 := by omega
    cases h : opOk l
    · have hc := Lib.hid (op_no h)
      have he : (sealT (l.take (l.length - 2)) == l) = false := by unfold opOk at h; rw [decide_eq_true h2] at h; simpa using h
      clear h
      go_enter Try.func71, Try.ntmps71
      go_wp2_with fail
      refine (sSealText_any _ _ htx).mono ?_
      rintro e w1 ⟨rfl, hb1⟩
      go_wp2
      refine bodyPost_ret (results_tmp2 rfl _ _ _) rfl ?_
      exact ⟨ret_sb hc.out.symm rfl, hb1⟩
    · have hc := Lib.hid (op_yes h)
      have he : (sealT (l.take (l.length - 2)) == l) = true := by unfold opOk at h; rw [decide_eq_true h2] at h; simpa using h
      clear h
      go_enter Try.func71, Try.ntmps71
      go_wp2_with fail
      refine (sSealText_any _ _ htx).mono ?_
      rintro e w1 ⟨rfl, hb1⟩
      go_wp2
      refine bodyPost_ret (results_tmp2 rfl _ _ _) rfl ?_
      exact ⟨ret_sb hc.out.symm rfl, hb1⟩
  · have h2d : decide ((l.length : Int) < 2) = true := by simp; omega
    have h2e : decide ((l.length : Int) - 2 < 0) = true := by simp; omega
    have h : opOk l = false := by unfold opOk; rw [decide_eq_false h2]; rfl
    have hc := Lib.hid (op_no h)
    have hk := Lib.hid h
    clear h
    go_enter Try.func71, Try.ntmps71
    go_wp2
    refine bodyPost_ret (results_tmp2 rfl _ _ _) rfl ?_
    exact ⟨ret_sb hc.out.symm hk.out.symm, Below.refl _ _⟩
end Go.Proofs.Ytpnejmlbfadaaaa
