/- Contracts: the end of a file as bytes, and back, in the program and in the reference. No condition. -/
import Derived.Test.YtimlddibaffjoaaSeg
import Derived.Test.YtimlddibaffjoaaWord
import Derived.Test.YtimlddibaffjoaaCheck
namespace Go.Proofs.Ytimlddibaffjoaa
open Go.RowKit

/-- The bytes of a file's end. -/
def encEnd (f : Int) (d : List UInt8) : List UInt8 := if inB f 0 7 && decide ((d.length : Int) ≤ 600) then pw1 1 ++ pw1 f ++ pw2 d.length ++ pw2 (crcOf d) else []

theorem encodeEnd_any (f : Int) (d : List UInt8) (w : World) (hd : Txt d) :
    Calls Try.prog 29 #[.int .i64 f, .string ⟨d.toArray⟩] w fun e w' => e = .returned (.string ⟨(encEnd f d).toArray⟩) ∧ Below w.heap.size w w' := by
  unfold Txt at hd
  have hlt := crcOf_lt d
  cases h : (inB f 0 7 && decide ((d.length : Int) ≤ 600))
  · have hc := Lib.hid (show encEnd f d = [] by unfold encEnd; rw [h]; rfl)
    cases h1 : inB f 0 7
    · clear h
      go_enter Try.func29, Try.ntmps29
      go_wp2_with (go_at_call 66; refine (between_any _ _ _ _).mono ?_; rintro e w' ⟨rfl, rfl⟩)
      go_ret
      exact ⟨ret_str hc.out.symm, Below.refl _ _⟩
    · have h2 : 600 < (d.length : Int) := by rw [h1] at h; simpa using h
      clear h
      go_enter Try.func29, Try.ntmps29
      go_wp2_with (go_at_call 66; refine (between_any _ _ _ _).mono ?_; rintro e w' ⟨rfl, rfl⟩)
      go_ret
      exact ⟨ret_str hc.out.symm, Below.refl _ _⟩
  · have hc := Lib.hid (show encEnd f d = pw1 1 ++ pw1 f ++ pw2 d.length ++ pw2 (crcOf d) by unfold encEnd; rw [h]; rfl)
    simp only [Bool.and_eq_true, decide_eq_true_eq] at h
    obtain ⟨h1, h2⟩ := h
    have b1 := inB_true h1
    have hB := Below.refl w.heap.size w
    have hx : ((crcOf d : Nat) : Int) ≤ 65535 := by omega
    clear hlt
    go_enter Try.func29, Try.ntmps29
    go_wp2_with (first | (go_at_call 66; refine (between_any _ _ _ _).mono ?_; rintro e w' ⟨rfl, rfl⟩) | (go_at_call 61; refine (checkOf_any _ _ hd).mono ?_; rintro e w' ⟨rfl, rfl⟩) | (go_at_call 68; refine (putWord_any _ _ _ (by omega) (by omega)).mono ?_; rintro e w' ⟨rfl, hb⟩; replace hB := hB.trans (hb.mono hB.size); clear hb))
    go_ret
    exact ⟨ret_str hc.out.symm, hB⟩
theorem sEncodeEnd_any (f : Int) (d : List UInt8) (w : World) (hd : Txt d) :
    Calls Try.prog 28 #[.int .i64 f, .string ⟨d.toArray⟩] w fun e w' => e = .returned (.string ⟨(encEnd f d).toArray⟩) ∧ Below w.heap.size w w' := by
  unfold Txt at hd
  have hlt := crcOf_lt d
  cases h : (inB f 0 7 && decide ((d.length : Int) ≤ 600))
  · have hc := Lib.hid (show encEnd f d = [] by unfold encEnd; rw [h]; rfl)
    cases h1 : inB f 0 7
    · clear h
      go_enter Try.func28, Try.ntmps28
      go_wp2_with (go_at_call 65; refine (l01In_any _ _ _ _).mono ?_; rintro e w' ⟨rfl, rfl⟩)
      go_ret
      exact ⟨ret_str hc.out.symm, Below.refl _ _⟩
    · have h2 : 600 < (d.length : Int) := by rw [h1] at h; simpa using h
      clear h
      go_enter Try.func28, Try.ntmps28
      go_wp2_with (go_at_call 65; refine (l01In_any _ _ _ _).mono ?_; rintro e w' ⟨rfl, rfl⟩)
      go_ret
      exact ⟨ret_str hc.out.symm, Below.refl _ _⟩
  · have hc := Lib.hid (show encEnd f d = pw1 1 ++ pw1 f ++ pw2 d.length ++ pw2 (crcOf d) by unfold encEnd; rw [h]; rfl)
    simp only [Bool.and_eq_true, decide_eq_true_eq] at h
    obtain ⟨h1, h2⟩ := h
    have b1 := inB_true h1
    have hB := Below.refl w.heap.size w
    have hx : ((crcOf d : Nat) : Int) ≤ 65535 := by omega
    clear hlt
    go_enter Try.func28, Try.ntmps28
    go_wp2_with (first | (go_at_call 65; refine (l01In_any _ _ _ _).mono ?_; rintro e w' ⟨rfl, rfl⟩) | (go_at_call 71; refine (sCheckOf_any _ _ hd).mono ?_; rintro e w' ⟨rfl, rfl⟩) | (go_at_call 67; refine (sPutWord_any _ _ _ (by omega) (by omega)).mono ?_; rintro e w' ⟨rfl, hb⟩; replace hB := hB.trans (hb.mono hB.size); clear hb))
    go_ret
    exact ⟨ret_str hc.out.symm, hB⟩

/-- Whether bytes are those of a file's end. -/
def decEndOk (l : List UInt8) : Bool := decide (l.length = 6) && decide (nth l 0 = 1) && decide (nth l 1 ≤ 7) && decide (nth l 2 * 256 + nth l 3 ≤ 600)
def deF (l : List UInt8) : Int := if decEndOk l then nth l 1 else 0
def deS (l : List UInt8) : Int := if decEndOk l then nth l 2 * 256 + nth l 3 else 0
def deC (l : List UInt8) : Int := if decEndOk l then nth l 4 * 256 + nth l 5 else 0
theorem de_no {l : List UInt8} (h : decEndOk l = false) : deF l = 0 ∧ deS l = 0 ∧ deC l = 0 := by
  unfold deF deS deC; rw [h]; exact ⟨rfl, rfl, rfl⟩
theorem de_yes {l : List UInt8} (h : decEndOk l = true) : deF l = nth l 1 ∧ deS l = nth l 2 * 256 + nth l 3 ∧ deC l = nth l 4 * 256 + nth l 5 := by
  unfold deF deS deC; rw [h]; exact ⟨rfl, rfl, rfl⟩
theorem decEnd_yes {l : List UInt8} (h : decEndOk l = true) : l.length = 6 ∧ nth l 0 = 1 ∧ nth l 1 ≤ 7 ∧ nth l 2 * 256 + nth l 3 ≤ 600 := by
  simp only [decEndOk, Bool.and_eq_true, decide_eq_true_eq] at h
  exact ⟨h.1.1.1, h.1.1.2, h.1.2, h.2⟩
theorem decEnd_no {l : List UInt8} (h : decEndOk l = false) : ¬ l.length = 6 ∨ (l.length = 6 ∧ (¬ nth l 0 = 1 ∨ 7 < nth l 1)) ∨ (l.length = 6 ∧ nth l 0 = 1 ∧ nth l 1 ≤ 7 ∧ 600 < nth l 2 * 256 + nth l 3) := by
  simp only [decEndOk, Bool.and_eq_false_iff, decide_eq_false_iff_not] at h
  omega

theorem decodeEnd_any (l : List UInt8) (w : World) (hl : Txt l) :
    Calls Try.prog 27 #[.string ⟨l.toArray⟩] w fun e w' => e = .returned (.tuple #[.int .i64 (deF l), .int .i64 (deS l), .int .i64 (deC l), .bool (decEndOk l)]) ∧ Below w.heap.size w w' := by
  unfold Txt at hl
  have a1 := nth_lo l 1
  have a2 := nth_lo l 2
  have a3 := nth_lo l 3
  have c2 := nth_hi l 2
  have c3 := nth_hi l 3
  cases h : decEndOk l
  · have hc := Lib.hid (de_no h)
    have hno := decEnd_no h
    clear h
    rcases hno with h6 | ⟨h6, hno⟩ | ⟨h6, h0, h1, h2⟩
    · have hl6 : ((l.length : Int) != 6) = true := by simp; omega
      go_enter Try.func27, Try.ntmps27
      go_wp2
      refine bodyPost_ret (results_tmp4 rfl _ _ _) rfl ?_
      exact ⟨ret_iiib hc.out.1.symm hc.out.2.1.symm hc.out.2.2.symm rfl, Below.refl _ _⟩
    · have h6' : 6 ≤ l.length ∧ l.length ≤ 6 := by omega
      clear h6
      go_enter Try.func27, Try.ntmps27
      go_wp2_with (go_at_call 70; refine (getWord2 _ _ _ (by omega) (by omega) (by omega)).mono ?_; rintro e w' ⟨rfl, rfl⟩)
      all_goals
        refine bodyPost_ret (results_tmp4 rfl _ _ _) rfl ?_
        exact ⟨ret_iiib hc.out.1.symm hc.out.2.1.symm hc.out.2.2.symm rfl, Below.refl _ _⟩
    · have h6' : 6 ≤ l.length ∧ l.length ≤ 6 := by omega
      clear h6
      go_enter Try.func27, Try.ntmps27
      go_wp2_with (go_at_call 70; refine (getWord2 _ _ _ (by omega) (by omega) (by omega)).mono ?_; rintro e w' ⟨rfl, rfl⟩)
      all_goals
        refine bodyPost_ret (results_tmp4 rfl _ _ _) rfl ?_
        exact ⟨ret_iiib hc.out.1.symm hc.out.2.1.symm hc.out.2.2.symm rfl, Below.refl _ _⟩
  · have hc := Lib.hid (de_yes h)
    obtain ⟨h6, h0, h1, h2⟩ := decEnd_yes h
    have h6' : 6 ≤ l.length ∧ l.length ≤ 6 := by omega
    clear h h6
    go_enter Try.func27, Try.ntmps27
    go_wp2_with (go_at_call 70; refine (getWord2 _ _ _ (by omega) (by omega) (by omega)).mono ?_; rintro e w' ⟨rfl, rfl⟩)
    refine bodyPost_ret (results_tmp4 rfl _ _ _) rfl ?_
    exact ⟨ret_iiib hc.out.1.symm hc.out.2.1.symm hc.out.2.2.symm rfl, Below.refl _ _⟩

theorem sDecodeEnd_any (l : List UInt8) (w : World) (hl : Txt l) :
    Calls Try.prog 26 #[.string ⟨l.toArray⟩] w fun e w' => e = .returned (.tuple #[.int .i64 (deF l), .int .i64 (deS l), .int .i64 (deC l), .bool (decEndOk l)]) ∧ Below w.heap.size w w' := by
  unfold Txt at hl
  have a1 := nth_lo l 1
  have a2 := nth_lo l 2
  have a3 := nth_lo l 3
  have c2 := nth_hi l 2
  have c3 := nth_hi l 3
  cases h : decEndOk l
  · have hc := Lib.hid (de_no h)
    have hno := decEnd_no h
    clear h
    rcases hno with h6 | ⟨h6, hno⟩ | ⟨h6, h0, h1, h2⟩
    · have hl6 : ((l.length : Int) != 6) = true := by simp; omega
      go_enter Try.func26, Try.ntmps26
      go_wp2
      refine bodyPost_ret (results_tmp4 rfl _ _ _) rfl ?_
      exact ⟨ret_iiib hc.out.1.symm hc.out.2.1.symm hc.out.2.2.symm rfl, Below.refl _ _⟩
    · have h6' : 6 ≤ l.length ∧ l.length ≤ 6 := by omega
      clear h6
      go_enter Try.func26, Try.ntmps26
      go_wp2_with (go_at_call 69; refine (sGetWord2 _ _ _ (by omega) (by omega) (by omega)).mono ?_; rintro e w' ⟨rfl, rfl⟩)
      all_goals
        refine bodyPost_ret (results_tmp4 rfl _ _ _) rfl ?_
        exact ⟨ret_iiib hc.out.1.symm hc.out.2.1.symm hc.out.2.2.symm rfl, Below.refl _ _⟩
    · have h6' : 6 ≤ l.length ∧ l.length ≤ 6 := by omega
      clear h6
      go_enter Try.func26, Try.ntmps26
      go_wp2_with (go_at_call 69; refine (sGetWord2 _ _ _ (by omega) (by omega) (by omega)).mono ?_; rintro e w' ⟨rfl, rfl⟩)
      all_goals
        refine bodyPost_ret (results_tmp4 rfl _ _ _) rfl ?_
        exact ⟨ret_iiib hc.out.1.symm hc.out.2.1.symm hc.out.2.2.symm rfl, Below.refl _ _⟩
  · have hc := Lib.hid (de_yes h)
    obtain ⟨h6, h0, h1, h2⟩ := decEnd_yes h
    have h6' : 6 ≤ l.length ∧ l.length ≤ 6 := by omega
    clear h h6
    go_enter Try.func26, Try.ntmps26
    go_wp2_with (go_at_call 69; refine (sGetWord2 _ _ _ (by omega) (by omega) (by omega)).mono ?_; rintro e w' ⟨rfl, rfl⟩)
    refine bodyPost_ret (results_tmp4 rfl _ _ _) rfl ?_
    exact ⟨ret_iiib hc.out.1.symm hc.out.2.1.symm hc.out.2.2.symm rfl, Below.refl _ _⟩
end Go.Proofs.Ytimlddibaffjoaa
