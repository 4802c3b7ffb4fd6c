/- Contracts: segments and ends as bytes, and back, in the program and in the reference. No condition. -/
import Derived.Test.YtimlddibaffjoaaSeg
import Derived.Test.YtimlddibaffjoaaWord
import Derived.Test.YtimlddibaffjoaaCheck
namespace Go.Proofs.Ytimlddibaffjoaa
open Go.RowKit

/-- A segment's bytes. -/
def encSeg (f k : Int) (d : List UInt8) : List UInt8 := if inB f 0 7 && inB k 0 24 && inB d.length 1 24 then pw1 0 ++ pw1 f ++ pw1 k ++ d else []

theorem encodeSegment_any (f k : Int) (d : List UInt8) (w : World) (hd : Txt d) :
    Calls Try.prog 25 #[.int .i64 f, .int .i64 k, .string ⟨d.toArray⟩] w fun e w' => e = .returned (.string ⟨(encSeg f k d).toArray⟩) ∧ Below w.heap.size w w' := by
  unfold Txt at hd
  cases h : (inB f 0 7 && inB k 0 24 && inB d.length 1 24)
  · have hc := Lib.hid (show encSeg f k d = [] by unfold encSeg; rw [h]; rfl)
    go_enter Try.func25, Try.ntmps25
    go_wp2_with (go_at_call 66; refine (between_any _ _ _ _).mono ?_; rintro e w' ⟨rfl, rfl⟩)
    all_goals first
      | (exfalso; simp_all; done)
      | (go_ret; exact ⟨ret_str hc.out.symm, Below.refl _ _⟩)
  · have hc := Lib.hid (show encSeg f k d = pw1 0 ++ pw1 f ++ pw1 k ++ d by unfold encSeg; rw [h]; rfl)
    simp only [Bool.and_eq_true] at h
    obtain ⟨⟨h1, h2⟩, h3⟩ := h
    have b1 := inB_true h1
    have b2 := inB_true h2
    have b3 := inB_true h3
    have hB := Below.refl w.heap.size w
    go_enter Try.func25, Try.ntmps25
    go_wp2_with (first | (go_at_call 66; refine (between_any _ _ _ _).mono ?_; rintro e w' ⟨rfl, rfl⟩) | (go_at_call 68; refine (putWord1 _ _ (by omega) (by omega)).mono ?_; rintro e w' ⟨rfl, hb⟩; replace hB := hB.trans (hb.mono hB.size); clear hb))
    go_ret
    exact ⟨ret_str hc.out.symm, hB⟩
theorem sEncodeSegment_any (f k : Int) (d : List UInt8) (w : World) (hd : Txt d) :
    Calls Try.prog 24 #[.int .i64 f, .int .i64 k, .string ⟨d.toArray⟩] w fun e w' => e = .returned (.string ⟨(encSeg f k d).toArray⟩) ∧ Below w.heap.size w w' := by
  unfold Txt at hd
  cases h : (inB f 0 7 && inB k 0 24 && inB d.length 1 24)
  · have hc := Lib.hid (show encSeg f k d = [] by unfold encSeg; rw [h]; rfl)
    go_enter Try.func24, Try.ntmps24
    go_wp2_with (go_at_call 65; refine (l01In_any _ _ _ _).mono ?_; rintro e w' ⟨rfl, rfl⟩)
    all_goals first
      | (exfalso; simp_all; done)
      | (go_ret; exact ⟨ret_str hc.out.symm, Below.refl _ _⟩)
  · have hc := Lib.hid (show encSeg f k d = pw1 0 ++ pw1 f ++ pw1 k ++ d by unfold encSeg; rw [h]; rfl)
    simp only [Bool.and_eq_true] at h
    obtain ⟨⟨h1, h2⟩, h3⟩ := h
    have b1 := inB_true h1
    have b2 := inB_true h2
    have b3 := inB_true h3
    have hB := Below.refl w.heap.size w
    go_enter Try.func24, Try.ntmps24
    go_wp2_with (first | (go_at_call 65; refine (l01In_any _ _ _ _).mono ?_; rintro e w' ⟨rfl, rfl⟩) | (go_at_call 67; refine (sPutWord1 _ _ (by omega) (by omega)).mono ?_; rintro e w' ⟨rfl, hb⟩; replace hB := hB.trans (hb.mono hB.size); clear hb))
    go_ret
    exact ⟨ret_str hc.out.symm, hB⟩

/-- Whether bytes are a segment's. -/
def decSegOk (l : List UInt8) : Bool := inB l.length 4 27 && nth l 0 == 0 && decide (nth l 1 ≤ 7) && decide (nth l 2 ≤ 24)
def dsF (l : List UInt8) : Int := if decSegOk l then nth l 1 else 0
def dsK (l : List UInt8) : Int := if decSegOk l then nth l 2 else 0
def dsD (l : List UInt8) : List UInt8 := if decSegOk l then l.drop 3 else []
theorem ds_no {l : List UInt8} (h : decSegOk l = false) : dsF l = 0 ∧ dsK l = 0 ∧ dsD l = [] := by
  unfold dsF dsK dsD; rw [h]; exact ⟨rfl, rfl, rfl⟩
theorem ds_yes {l : List UInt8} (h : decSegOk l = true) : dsF l = nth l 1 ∧ dsK l = nth l 2 ∧ dsD l = l.drop 3 := by
  unfold dsF dsK dsD; rw [h]; exact ⟨rfl, rfl, rfl⟩

theorem decSeg_yes {l : List UInt8} (h : decSegOk l = true) : nth l 0 = 0 ∧ nth l 1 ≤ 7 ∧ nth l 2 ≤ 24 := by
  simp only [decSegOk, Bool.and_eq_true, beq_iff_eq, decide_eq_true_eq] at h
  exact ⟨h.1.1.2, h.1.2, h.2⟩
theorem decSeg_no {l : List UInt8} (hb : inB l.length 4 27 = true) (h : decSegOk l = false) : ¬ nth l 0 = 0 ∨ 7 < nth l 1 ∨ 24 < nth l 2 := by
  simp only [decSegOk, hb, Bool.true_and, Bool.and_eq_false_iff, beq_eq_false_iff_ne, decide_eq_false_iff_not] at h
  omega

theorem decodeSegment_any (l : List UInt8) (w : World) (hl : Txt l) :
    Calls Try.prog 23 #[.string ⟨l.toArray⟩] w fun e w' => e = .returned (.tuple #[.int .i64 (dsF l), .int .i64 (dsK l), .string ⟨(dsD l).toArray⟩, .bool (decSegOk l)]) ∧ Below w.heap.size w w' := by
  unfold Txt at hl
  have a1 := nth_lo l 1
  have a2 := nth_lo l 2
  have c1 := nth_hi l 1
  have c2 := nth_hi l 2
  cases hb : inB l.length 4 27
  · have h : decSegOk l = false := by unfold decSegOk; rw [hb]; rfl
    have hc := Lib.hid (ds_no h)
    have h' := Lib.hid h
    clear h
    go_enter Try.func23, Try.ntmps23
    go_wp2_with (go_at_call 66; refine (between_any _ _ _ _).mono ?_; rintro e w' ⟨rfl, rfl⟩)
    refine bodyPost_ret (results_tmp4 rfl _ _ _) rfl ?_
    exact ⟨ret_iisb hc.out.1.symm hc.out.2.1.symm hc.out.2.2.symm h'.out.symm, Below.refl _ _⟩
  · have hbb := inB_true hb
    cases h : decSegOk l
    · have hc := Lib.hid (ds_no h)
      have hno := decSeg_no hb h
      clear h
      go_enter Try.func23, Try.ntmps23
      go_wp2_with (go_at_call 66; refine (between_any _ _ _ _).mono ?_; rintro e w' ⟨rfl, rfl⟩)
      all_goals
        refine bodyPost_ret (results_tmp4 rfl _ _ _) rfl ?_
        exact ⟨ret_iisb hc.out.1.symm hc.out.2.1.symm hc.out.2.2.symm rfl, Below.refl _ _⟩
    · have hc := Lib.hid (ds_yes h)
      have hyes := decSeg_yes h
      clear h
      go_enter Try.func23, Try.ntmps23
      go_wp2_with (go_at_call 66; refine (between_any _ _ _ _).mono ?_; rintro e w' ⟨rfl, rfl⟩)
      go_quiet (fail)
      go_wp2
      refine bodyPost_ret (results_tmp4 rfl _ _ _) rfl ?_
      exact ⟨ret_iisb hc.out.1.symm hc.out.2.1.symm hc.out.2.2.symm rfl, below_drewN (Below.refl _ _) _⟩

/-- The bytes of what was read are what was read, exactly where they are a segment's. -/
theorem decSeg_enc {l : List UInt8} (h3 : 3 ≤ l.length) (h0 : nth l 0 = 0) : (encSeg (nth l 1) (nth l 2) (l.drop 3) = l) ↔ decSegOk l = true := by
  have a1 := nth_lo l 1
  have a2 := nth_lo l 2
  have e : pw1 0 ++ pw1 (nth l 1) ++ pw1 (nth l 2) ++ l.drop 3 = l := by
    match l, h3 with
    | x :: y :: z :: r, _ =>
      have hx : x = by1 0 := by rw [← by1_num x]; congr 1
      show by1 0 :: by1 (num y) :: by1 (num z) :: r = _
      rw [← hx, by1_num, by1_num]
  have hl : ((l.drop 3).length : Int) = l.length - 3 := by rw [List.length_drop]; omega
  constructor
  · intro h
    cases hc : (inB (nth l 1) 0 7 && inB (nth l 2) 0 24 && inB ((l.drop 3).length : Int) 1 24)
    · unfold encSeg at h
      rw [hc] at h
      have := congrArg List.length h
      simp at this
      omega
    · simp only [Bool.and_eq_true] at hc
      have b1 := inB_true hc.1.1
      have b2 := inB_true hc.1.2
      have b3 := inB_true hc.2
      rw [hl] at b3
      unfold decSegOk
      rw [inB_mk (by omega) (by omega)]
      simp [h0, b1.2, b2.2]
  · intro h
    have hy := decSeg_yes h
    simp only [decSegOk, Bool.and_eq_true] at h
    have hb := inB_true h.1.1.1
    unfold encSeg
    rw [inB_mk a1 hy.2.1, inB_mk a2 hy.2.2, inB_mk (by rw [hl]; omega) (by rw [hl]; omega)]
    exact e

theorem sDecodeSegment_any (l : List UInt8) (w : World) (hl : Txt l) :
    Calls Try.prog 22 #[.string ⟨l.toArray⟩] w fun e w' => e = .returned (.tuple #[.int .i64 (dsF l), .int .i64 (dsK l), .string ⟨(dsD l).toArray⟩, .bool (decSegOk l)]) ∧ Below w.heap.size w w' := by
  have hl' := hl
  unfold Txt at hl
  have a1 := nth_lo l 1
  have a2 := nth_lo l 2
  have c1 := nth_hi l 1
  have c2 := nth_hi l 2
  by_cases hn : 3 ≤ l.length ∧ nth l 0 = 0
  · obtain ⟨h3, h0⟩ := hn
    have htx : Txt (l.drop 3) := by unfold Txt; rw [List.length_drop]; omega
    have hd1 : decide ((l.length : Int) < 3) = false := by simp; omega
    have h3i : (3 : Int) ≤ l.length := by omega
    have h2i : (2 : Int) < l.length := by omega
    have h1i : (1 : Int) < l.length := by omega
    have h0i : (0 : Int) < l.length := by omega
    cases h : decSegOk l
    · have hc := Lib.hid (ds_no h)
      have he : ¬ encSeg (nth l 1) (nth l 2) (l.drop 3) = l := fun hh => by rw [(decSeg_enc h3 h0).1 hh] at h; cases h
      have he' : (encSeg (nth l 1) (nth l 2) (l.drop 3) == l) = false := by simpa using he
      clear h he
      go_enter Try.func22, Try.ntmps22
      go_wp2_with fail
      go_region_held3 (fun wx => Below w.heap.size w wx) (first | exact (Below.refl _ _).drew | exact below_step (by assumption) (by assumption)) (first | (go_at_call 24; refine (sEncodeSegment_any _ _ (l.drop 3) _ htx).mono ?_; rintro e w' ⟨rfl, hb⟩))
      all_goals
        go_wp2
        refine bodyPost_ret (results_tmp4 rfl _ _ _) rfl ?_
        exact ⟨ret_iisb hc.out.1.symm hc.out.2.1.symm hc.out.2.2.symm rfl, by assumption⟩
    · have hc := Lib.hid (ds_yes h)
      have he := (decSeg_enc h3 h0).2 h
      have he' : (encSeg (nth l 1) (nth l 2) (l.drop 3) == l) = true := by simpa using he
      clear h he
      go_enter Try.func22, Try.ntmps22
      go_wp2_with fail
      go_region_held3 (fun wx => Below w.heap.size w wx) (first | exact (Below.refl _ _).drew | exact below_step (by assumption) (by assumption)) (first | (go_at_call 24; refine (sEncodeSegment_any _ _ (l.drop 3) _ htx).mono ?_; rintro e w' ⟨rfl, hb⟩))
      all_goals
        go_wp2
        go_quiet (fail)
        go_wp2
        refine bodyPost_ret (results_tmp4 rfl _ _ _) rfl ?_
        exact ⟨ret_iisb hc.out.1.symm hc.out.2.1.symm hc.out.2.2.symm rfl, below_drewN (by assumption) _⟩
  · have h : decSegOk l = false := by
      cases hh : decSegOk l
      · rfl
      · have hy := decSeg_yes hh
        simp only [decSegOk, Bool.and_eq_true] at hh
        have hb := inB_true hh.1.1.1
        exact absurd ⟨by omega, hy.1⟩ hn
    have hc := Lib.hid (ds_no h)
    have hk := Lib.hid h
    clear h
    by_cases h3 : 3 ≤ l.length
    · have h0 : ¬ nth l 0 = 0 := fun e => hn ⟨h3, e⟩
      have hd1 : decide ((l.length : Int) < 3) = false := by simp; omega
      have h0i : (0 : Int) < l.length := by omega
      have h0b : (nth l 0 != 0) = true := by simpa using h0
      clear hn
      go_enter Try.func22, Try.ntmps22
      go_wp2_with fail
      go_quiet (fail)
      go_wp2
      refine bodyPost_ret (results_tmp4 rfl _ _ _) rfl ?_
      exact ⟨ret_iisb hc.out.1.symm hc.out.2.1.symm hc.out.2.2.symm hk.out.symm, below_drewN (Below.refl _ _) _⟩
    · have hd1 : decide ((l.length : Int) < 3) = true := by simp; omega
      clear hn
      go_enter Try.func22, Try.ntmps22
      go_wp2_with fail
      go_quiet (fail)
      go_wp2
      refine bodyPost_ret (results_tmp4 rfl _ _ _) rfl ?_
      exact ⟨ret_iisb hc.out.1.symm hc.out.2.1.symm hc.out.2.2.symm hk.out.symm, below_drewN (Below.refl _ _) _⟩
end Go.Proofs.Ytimlddibaffjoaa
