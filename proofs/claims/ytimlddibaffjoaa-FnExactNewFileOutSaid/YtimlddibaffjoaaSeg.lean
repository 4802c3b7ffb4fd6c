/- Contracts: the number of a file's segments, and a segment, in the program and in the reference. No condition. -/
import Derived.Test.YtimlddibaffjoaaBase
import Derived.Test.YtimlddibaffjoaaOpen
namespace Go.Proofs.Ytimlddibaffjoaa
open Go.RowKit

/-- The number of segments. -/
def cseg (n : Int) : Int := if inB n 0 600 then (n + 23) / 24 else 0
theorem cseg_in {n : Int} (h : inB n 0 600 = true) : cseg n = (n + 23) / 24 := if_pos h
theorem cseg_out {n : Int} (h : inB n 0 600 = false) : cseg n = 0 := by unfold cseg; rw [h]; rfl

theorem cseg_lo (n : Int) : 0 ≤ cseg n := by
  cases h : inB n 0 600
  · rw [cseg_out h]; omega
  · have := inB_true h; rw [cseg_in h]; omega
theorem cseg_hi (n : Int) : cseg n ≤ 25 := by
  cases h : inB n 0 600
  · rw [cseg_out h]; omega
  · have := inB_true h; rw [cseg_in h]; omega

theorem countSegments_any (n : Int) (w : World) :
    Calls Try.prog 19 #[.int .i64 n] w fun e w' => e = .returned (.int .i64 (cseg n)) ∧ w = w' := by
  cases h : inB n 0 600
  · have hc := Lib.hid (cseg_out h)
    go_enter Try.func19, Try.ntmps19
    go_wp2_with (go_at_call 66; refine (between_any _ _ _ _).mono ?_; rintro e w' ⟨rfl, rfl⟩)
    go_ret
    exact ⟨ret_int hc.out.symm, rfl⟩
  · have hc := Lib.hid (cseg_in h)
    have hb := inB_true h
    go_enter Try.func19, Try.ntmps19
    go_wp2_with (go_at_call 66; refine (between_any _ _ _ _).mono ?_; rintro e w' ⟨rfl, rfl⟩)
    go_ret
    exact ⟨ret_int (by rw [hc.out]; omega), rfl⟩

theorem sCountSegments_any (n : Int) (w : World) :
    Calls Try.prog 18 #[.int .i64 n] w fun e w' => e = .returned (.int .i64 (cseg n)) ∧ w = w' := by
  cases h : inB n 0 600
  · have hc := Lib.hid (cseg_out h)
    go_enter Try.func18, Try.ntmps18
    go_wp2_with (go_at_call 65; refine (l01In_any _ _ _ _).mono ?_; rintro e w' ⟨rfl, rfl⟩)
    go_ret
    exact ⟨ret_int hc.out.symm, rfl⟩
  · have hc := Lib.hid (cseg_in h)
    have hb := inB_true h
    go_enter Try.func18, Try.ntmps18
    go_wp2_with (go_at_call 65; refine (l01In_any _ _ _ _).mono ?_; rintro e w' ⟨rfl, rfl⟩)
    go_ret
    exact ⟨ret_int (by rw [hc.out]; omega), rfl⟩


/-- Segment k of a file. -/
def segOf (l : List UInt8) (k : Int) : List UInt8 := if inB k 0 (cseg l.length - 1) then (l.drop (k.toNat * 24)).take 24 else []
theorem segOf_out {l : List UInt8} {k : Int} (h : inB k 0 (cseg l.length - 1) = false) : segOf l k = [] := by unfold segOf; rw [h]; rfl
theorem segOf_in {l : List UInt8} {k : Int} (h : inB k 0 (cseg l.length - 1) = true) : segOf l k = (l.drop (k.toNat * 24)).take 24 := if_pos h
theorem cseg_pos {n k : Int} (h : inB k 0 (cseg n - 1) = true) : 0 ≤ n ∧ n ≤ 600 ∧ 0 ≤ k ∧ 24 * k < n := by
  have h1 := inB_true h
  cases h2 : inB n 0 600
  · rw [cseg_out h2] at h1; omega
  · have h3 := inB_true h2
    rw [cseg_in h2] at h1
    omega

theorem segmentOf_any (l : List UInt8) (k : Int) (w : World) (hl : Txt l) :
    Calls Try.prog 21 #[.string ⟨l.toArray⟩, .int .i64 k] w fun e w' => e = .returned (.string ⟨(segOf l k).toArray⟩) ∧ w = w' := by
  unfold Txt at hl
  have g0 := cseg_lo l.length
  have g1 := cseg_hi l.length
  cases h : inB k 0 (cseg l.length - 1)
  · have hc := Lib.hid (segOf_out h)
    go_enter Try.func21, Try.ntmps21
    go_wp2_with (first | (go_at_call 66; refine (between_any _ _ _ _).mono ?_; rintro e w' ⟨rfl, rfl⟩) | (go_at_call 19; refine (countSegments_any _ _).mono ?_; rintro e w' ⟨rfl, rfl⟩))
    go_ret
    exact ⟨ret_str hc.out.symm, rfl⟩
  · have hc := Lib.hid (segOf_in h)
    have hb := cseg_pos h
    obtain ⟨k, rfl⟩ := Int.eq_ofNat_of_zero_le hb.2.2.1
    go_enter Try.func21, Try.ntmps21
    go_wp2_with (first | (go_at_call 66; refine (between_any _ _ _ _).mono ?_; rintro e w' ⟨rfl, rfl⟩) | (go_at_call 19; refine (countSegments_any _ _).mono ?_; rintro e w' ⟨rfl, rfl⟩))
    all_goals
      go_ret
      refine ⟨ret_str ?_, rfl⟩
      rw [hc.out, Int.toNat_natCast]
      first
        | exact (List.take_of_length_le (by rw [List.length_drop]; omega)).symm
        | exact take_same _ _ _ (by rw [List.length_drop]; omega)

theorem sSegmentOf_any (l : List UInt8) (k : Int) (w : World) (hl : Txt l) :
    Calls Try.prog 20 #[.string ⟨l.toArray⟩, .int .i64 k] w fun e w' => e = .returned (.string ⟨(segOf l k).toArray⟩) ∧ w = w' := by
  unfold Txt at hl
  have g0 := cseg_lo l.length
  have g1 := cseg_hi l.length
  cases h : inB k 0 (cseg l.length - 1)
  · have hc := Lib.hid (segOf_out h)
    go_enter Try.func20, Try.ntmps20
    go_wp2_with (first | (go_at_call 65; refine (l01In_any _ _ _ _).mono ?_; rintro e w' ⟨rfl, rfl⟩) | (go_at_call 18; refine (sCountSegments_any _ _).mono ?_; rintro e w' ⟨rfl, rfl⟩))
    all_goals
      go_ret
      exact ⟨ret_str hc.out.symm, rfl⟩
  · have hc := Lib.hid (segOf_in h)
    have hb := cseg_pos h
    obtain ⟨k, rfl⟩ := Int.eq_ofNat_of_zero_le hb.2.2.1
    go_enter Try.func20, Try.ntmps20
    go_wp2_with (first | (go_at_call 65; refine (l01In_any _ _ _ _).mono ?_; rintro e w' ⟨rfl, rfl⟩) | (go_at_call 18; refine (sCountSegments_any _ _).mono ?_; rintro e w' ⟨rfl, rfl⟩))
    all_goals
      go_ret
      refine ⟨ret_str ?_, rfl⟩
      rw [hc.out, Int.toNat_natCast, Nat.mul_comm k 24]
      first
        | exact (List.take_of_length_le (by rw [List.length_drop]; omega)).symm
        | exact take_same _ _ _ (by rw [List.length_drop]; omega)
end Go.Proofs.Ytimlddibaffjoaa
