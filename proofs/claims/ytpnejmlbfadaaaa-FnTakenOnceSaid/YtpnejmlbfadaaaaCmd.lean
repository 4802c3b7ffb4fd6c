/- Contracts: commands as bytes, and back, in the program and in the reference. No condition. -/
import Derived.Test.YtpnejmlbfadaaaaSeal
namespace Go.Proofs.Ytpnejmlbfadaaaa
open Go.RowKit

def cmdOk (k n : Int) (d : List UInt8) : Bool := inB k 0 1 && inB n 0 255 && decide ((d.length : Int) ≤ 40)
/-- A command's bytes. -/
def encCmd (k n : Int) (d : List UInt8) : List UInt8 := if cmdOk k n d then sealT (pw1 k ++ pw1 n ++ d) else []
theorem encCmd_yes {k n : Int} {d : List UInt8} (h : cmdOk k n d = true) : encCmd k n d = sealT (pw1 k ++ pw1 n ++ d) := by unfold encCmd; rw [h]; rfl
theorem encCmd_no {k n : Int} {d : List UInt8} (h : cmdOk k n d = false) : encCmd k n d = [] := by unfold encCmd; rw [h]; rfl
theorem cmdOk_parts {k n : Int} {d : List UInt8} (h : cmdOk k n d = true) : (0 ≤ k ∧ k ≤ 1) ∧ (0 ≤ n ∧ n ≤ 255) ∧ (d.length : Int) ≤ 40 := by
  unfold cmdOk at h
  simp only [Bool.and_eq_true, decide_eq_true_eq] at h
  exact ⟨inB_true h.1.1, inB_true h.1.2, h.2⟩

theorem encodeCommand_any (k n : Int) (d : List UInt8) (w : World) (hd : Txt d) :
    Calls Try.prog 41 #[.int .i64 k, .int .i64 n, .string ⟨d.toArray⟩] w fun e w' => e = .returned (.string ⟨(encCmd k n d).toArray⟩) ∧ Below w.heap.size w w' := by
  unfold Txt at hd
  cases h : cmdOk k n d
  · have hc := Lib.hid (encCmd_no h)
    cases h1 : inB k 0 1
    · have q0 : ¬ k = 0 := fun e => by subst e; cases h1
      have q1 : ¬ k = 1 := fun e => by subst e; cases h1
      have q0b : (k != 0) = true := by simpa using q0
      have q1b : (k != 1) = true := by simpa using q1
      clear h
      go_enter Try.func41, Try.ntmps41
      go_wp2_with (go_at_call 62; refine (between_any _ _ _ _).mono ?_; rintro e w' ⟨rfl, rfl⟩)
      go_ret
      exact ⟨ret_str hc.out.symm, Below.refl _ _⟩
    · have b1 := inB_true h1
      have hk : k = 0 ∨ k = 1 := by omega
      have hr : inB n 0 255 = false ∨ (inB n 0 255 = true ∧ decide (40 < (d.length : Int)) = true) := by
        cases h2 : inB n 0 255
        · exact Or.inl rfl
        · refine Or.inr ⟨rfl, ?_⟩
          unfold cmdOk at h
          rw [h1, h2] at h
          simp at h ⊢
          omega
      clear h
      rcases hk with rfl | rfl <;> rcases hr with h2 | ⟨h2, h3⟩
      all_goals
        go_enter Try.func41, Try.ntmps41
        go_wp2_with (go_at_call 62; refine (between_any _ _ _ _).mono ?_; rintro e w' ⟨rfl, rfl⟩)
        go_ret
        exact ⟨ret_str hc.out.symm, Below.refl _ _⟩
  · have hc := Lib.hid (encCmd_yes h)
    obtain ⟨b1, b2, b3⟩ := cmdOk_parts h
    have h2 : inB n 0 255 = true := inB_mk b2.1 b2.2
    have h3 : decide (40 < (d.length : Int)) = false := by simp; omega
    have hs : (pw1 k ++ pw1 n ++ d).length ≤ 9223372036854775805 := by simp only [List.length_append, pw1_len]; omega
    have hk : k = 0 ∨ k = 1 := by omega
    have hB := Below.refl w.heap.size w
    clear h
    rcases hk with rfl | rfl
    all_goals
      go_enter Try.func41, Try.ntmps41
      go_wp2_with (first | (go_at_call 62; refine (between_any _ _ _ _).mono ?_; rintro e w' ⟨rfl, rfl⟩) | (go_at_call 68; refine (putWord1 _ _ (by omega) (by omega)).mono ?_; rintro e w' ⟨rfl, hb⟩; replace hB := hB.trans (hb.mono hB.size); clear hb))
      simp only [ByteArray.mk_append_mk]
      refine (sealText_any _ _ hs).mono ?_
      rintro e w1 ⟨rfl, hb1⟩
      go_wp2
      go_ret
      exact ⟨ret_str hc.out.symm, below_step hB hb1⟩

theorem sEncodeCommand_any (k n : Int) (d : List UInt8) (w : World) (hd : Txt d) :
    Calls Try.prog 40 #[.int .i64 k, .int .i64 n, .string ⟨d.toArray⟩] w fun e w' => e = .returned (.string ⟨(encCmd k n d).toArray⟩) ∧ Below w.heap.size w w' := by
  unfold Txt at hd
  cases h : cmdOk k n d
  · have hc := Lib.hid (encCmd_no h)
    have hr : inB k 0 1 = false ∨ (inB k 0 1 = true ∧ inB n 0 255 = false) ∨ (inB k 0 1 = true ∧ inB n 0 255 = true ∧ decide (40 < (d.length : Int)) = true) := by
      cases h1 : inB k 0 1
      · exact Or.inl rfl
      · cases h2 : inB n 0 255
        · exact Or.inr (Or.inl ⟨rfl, rfl⟩)
        · refine Or.inr (Or.inr ⟨rfl, rfl, ?_⟩)
          unfold cmdOk at h
          rw [h1, h2] at h
          simp at h ⊢
          omega
    clear h
    rcases hr with h1 | ⟨h1, h2⟩ | ⟨h1, h2, h3⟩
    all_goals
      go_enter Try.func40, Try.ntmps40
      go_wp2_with (go_at_call 61; refine (l01In_any _ _ _ _).mono ?_; rintro e w' ⟨rfl, rfl⟩)
      go_ret
      exact ⟨ret_str hc.out.symm, Below.refl _ _⟩
  · have hc := Lib.hid (encCmd_yes h)
    obtain ⟨b1, b2, b3⟩ := cmdOk_parts h
    have h1 : inB k 0 1 = true := inB_mk b1.1 b1.2
    have h2 : inB n 0 255 = true := inB_mk b2.1 b2.2
    have h3 : decide (40 < (d.length : Int)) = false := by simp; omega
    have hs : (pw1 k ++ pw1 n ++ d).length ≤ 9223372036854775805 := by simp only [List.length_append, pw1_len]; omega
    have hB := Below.refl w.heap.size w
    clear h
    go_enter Try.func40, Try.ntmps40
    go_wp2_with (first | (go_at_call 61; refine (l01In_any _ _ _ _).mono ?_; rintro e w' ⟨rfl, rfl⟩) | (go_at_call 66; refine (sPutWord1 _ _ (by omega) (by omega)).mono ?_; rintro e w' ⟨rfl, hb⟩; replace hB := hB.trans (hb.mono hB.size); clear hb))
    simp only [ByteArray.mk_append_mk]
    refine (sSealText_any _ _ hs).mono ?_
    rintro e w1 ⟨rfl, hb1⟩
    go_wp2
    go_ret
    exact ⟨ret_str hc.out.symm, below_step hB hb1⟩

/-- Whether bytes are a command's. -/
def dcOk (l : List UInt8) : Bool := opOk l && inB (opT l).length 2 42 && decide (nth (opT l) 0 ≤ 1)
def dcK (l : List UInt8) : Int := if dcOk l then nth (opT l) 0 else 0
def dcN (l : List UInt8) : Int := if dcOk l then nth (opT l) 1 else 0
def dcD (l : List UInt8) : List UInt8 := if dcOk l then (opT l).drop 2 else []
theorem dc_no {l : List UInt8} (h : dcOk l = false) : dcK l = 0 ∧ dcN l = 0 ∧ dcD l = [] := by
  unfold dcK dcN dcD; rw [h]; exact ⟨rfl, rfl, rfl⟩
theorem dc_yes {l : List UInt8} (h : dcOk l = true) : dcK l = nth (opT l) 0 ∧ dcN l = nth (opT l) 1 ∧ dcD l = (opT l).drop 2 := by
  unfold dcK dcN dcD; rw [h]; exact ⟨rfl, rfl, rfl⟩
theorem opT_txt {l : List UInt8} (hl : Txt l) : Txt (opT l) := by
  unfold Txt at *
  cases h : opOk l
  · rw [op_no h]; simp
  · have := opT_len h; omega

theorem decodeCommand_any (l : List UInt8) (w : World) (hl : Txt l) :
    Calls Try.prog 43 #[.string ⟨l.toArray⟩] w fun e w' => e = .returned (.tuple #[.int .i64 (dcK l), .int .i64 (dcN l), .string ⟨(dcD l).toArray⟩, .bool (dcOk l)]) ∧ Below w.heap.size w w' := by
  have htx := opT_txt hl
  unfold Txt at htx
  have hd : dcOk l = (opOk l && inB (opT l).length 2 42 && decide (nth (opT l) 0 ≤ 1)) := rfl
  have hno := @dc_no l
  have hys := @dc_yes l
  have ho := openText_any l w hl
  generalize opT l = t at *
  have a0 := nth_lo t 0
  have a1 := nth_lo t 1
  have c0 := nth_hi t 0
  have c1 := nth_hi t 1
  cases h1 : opOk l
  · rw [h1] at hd ho
    have hc := Lib.hid (hno hd)
    have hk := Lib.hid hd
    clear hno hys hd
    go_enter Try.func43, Try.ntmps43
    go_wp2_with fail
    refine (ho).mono ?_
    rintro e w1 ⟨rfl, hb1⟩
    go_wp2
    refine bodyPost_ret (results_tmp4 rfl _ _ _) rfl ?_
    exact ⟨ret_iisb hc.out.1.symm hc.out.2.1.symm hc.out.2.2.symm hk.out.symm, hb1⟩
  · cases h2 : inB (t.length : Int) 2 42
    · rw [h1, h2] at hd
      rw [h1] at ho
      have hc := Lib.hid (hno hd)
      have hk := Lib.hid hd
      clear hno hys hd
      go_enter Try.func43, Try.ntmps43
      go_wp2_with fail
      refine (ho).mono ?_
      rintro e w1 ⟨rfl, hb1⟩
      go_wp2_with (go_at_call 62; refine (between_any _ _ _ _).mono ?_; rintro e w' ⟨rfl, rfl⟩)
      refine bodyPost_ret (results_tmp4 rfl _ _ _) rfl ?_
      exact ⟨ret_iisb hc.out.1.symm hc.out.2.1.symm hc.out.2.2.symm hk.out.symm, hb1⟩
    · have hb := inB_true h2
      rw [h1, h2] at hd
      rw [h1] at ho
      by_cases h3 : nth t 0 ≤ 1
      · rw [decide_eq_true h3] at hd
        have hc := Lib.hid (hys hd)
        have hk := Lib.hid hd
        have h3d : decide (1 < nth t 0) = false := by simp; omega
        clear hno hys hd
        go_enter Try.func43, Try.ntmps43
        go_wp2_with fail
        refine (ho).mono ?_
        rintro e w1 ⟨rfl, hb1⟩
        go_wp2_with (go_at_call 62; refine (between_any _ _ _ _).mono ?_; rintro e w' ⟨rfl, rfl⟩)
        go_quiet (fail)
        go_wp2
        refine bodyPost_ret (results_tmp4 rfl _ _ _) rfl ?_
        exact ⟨ret_iisb hc.out.1.symm hc.out.2.1.symm hc.out.2.2.symm hk.out.symm, below_drewN hb1 _⟩
      · rw [decide_eq_false h3] at hd
        have hc := Lib.hid (hno hd)
        have hk := Lib.hid hd
        have h3d : decide (1 < nth t 0) = true := by simp; omega
        clear hno hys hd
        go_enter Try.func43, Try.ntmps43
        go_wp2_with fail
        refine (ho).mono ?_
        rintro e w1 ⟨rfl, hb1⟩
        go_wp2_with (go_at_call 62; refine (between_any _ _ _ _).mono ?_; rintro e w' ⟨rfl, rfl⟩)
        refine bodyPost_ret (results_tmp4 rfl _ _ _) rfl ?_
        exact ⟨ret_iisb hc.out.1.symm hc.out.2.1.symm hc.out.2.2.symm hk.out.symm, hb1⟩

theorem two_bytes {t : List UInt8} (h : 2 ≤ t.length) : pw1 (nth t 0) ++ pw1 (nth t 1) ++ t.drop 2 = t := by
  match t, h with
  | x :: y :: r, _ =>
    show by1 (num x) :: by1 (num y) :: r = _
    rw [by1_num, by1_num]
/-- The bytes of what was read are what was read, exactly where they are a command's. -/
theorem encCmd_dec {l : List UInt8} (ho : opOk l = true) (h2 : 2 ≤ (opT l).length) : (encCmd (nth (opT l) 0) (nth (opT l) 1) ((opT l).drop 2) == l) = dcOk l := by
  have hs := opT_seal ho
  have hn := opT_len ho
  have hd : dcOk l = (opOk l && inB (opT l).length 2 42 && decide (nth (opT l) 0 ≤ 1)) := rfl
  rw [ho] at hd
  generalize opT l = t at *
  have a0 := nth_lo t 0
  have a1 := nth_lo t 1
  have c1 := nth_hi t 1
  have hl : ((t.drop 2).length : Int) = t.length - 2 := by rw [List.length_drop]; omega
  cases h : cmdOk (nth t 0) (nth t 1) (t.drop 2)
  · rw [encCmd_no h]
    have he : (([] : List UInt8) == l) = false := by
      cases l with
      | nil => simp at hn
      | cons _ _ => rfl
    rw [he, hd]
    unfold cmdOk at h
    rw [inB_mk a1 c1, hl] at h
    simp [inB, a0] at h ⊢
    intro h42
    by_cases hx : nth t 0 ≤ 1
    · have := h hx; omega
    · omega
  · obtain ⟨b1, b2, b3⟩ := cmdOk_parts h
    rw [hl] at b3
    rw [encCmd_yes h, two_bytes h2, hs, hd, inB_mk (by omega) (by omega), decide_eq_true b1.2]
    simp

theorem sDecodeCommand_any (l : List UInt8) (w : World) (hl : Txt l) :
    Calls Try.prog 42 #[.string ⟨l.toArray⟩] w fun e w' => e = .returned (.tuple #[.int .i64 (dcK l), .int .i64 (dcN l), .string ⟨(dcD l).toArray⟩, .bool (dcOk l)]) ∧ Below w.heap.size w w' := by
  have htx := opT_txt hl
  have htx2 : Txt ((opT l).drop 2) := by unfold Txt at *; rw [List.length_drop]; omega
  unfold Txt at htx
  have hd : dcOk l = (opOk l && inB (opT l).length 2 42 && decide (nth (opT l) 0 ≤ 1)) := rfl
  have hno := @dc_no l
  have hys := @dc_yes l
  have ho := sOpenText_any l w hl
  have hen := @encCmd_dec l
  generalize opT l = t at *
  have a0 := nth_lo t 0
  have a1 := nth_lo t 1
  have c0 := nth_hi t 0
  have c1 := nth_hi t 1
  cases h1 : opOk l
  · rw [h1] at hd ho
    have hc := Lib.hid (hno hd)
    have hk := Lib.hid hd
    clear hno hys hd hen
    go_enter Try.func42, Try.ntmps42
    go_wp2_with fail
    refine (ho).mono ?_
    rintro e w1 ⟨rfl, hb1⟩
    go_wp2_with fail
    go_quiet (fail)
    go_wp2
    refine bodyPost_ret (results_tmp4 rfl _ _ _) rfl ?_
    exact ⟨ret_iisb hc.out.1.symm hc.out.2.1.symm hc.out.2.2.symm hk.out.symm, below_drewN hb1 _⟩
  · by_cases h2 : 2 ≤ t.length
    · have hen' := hen h1 h2
      have hd2 : decide ((t.length : Int) < 2) = false := by simp; omega
      have h1i : (1 : Int) < t.length := by omega
      have h0i : (0 : Int) < t.length := by omega
      have h2i : (2 : Int) ≤ t.length := by omega
      rw [h1] at ho
      cases h : dcOk l
      · rw [h] at hen'
        have hc := Lib.hid (hno h)
        clear hno hys hd hen h1
        go_enter Try.func42, Try.ntmps42
        go_wp2_with fail
        refine (ho).mono ?_
        rintro e w1 ⟨rfl, hb1⟩
        go_wp2_with fail
        go_region_held3 (fun wx => Below w.heap.size w wx) (first | exact hb1.drew | exact below_step (by assumption) (by assumption)) (first | (go_at_call 40; refine (sEncodeCommand_any _ _ (t.drop 2) _ htx2).mono ?_; rintro e w' ⟨rfl, hb⟩))
        all_goals
          go_wp2
          refine bodyPost_ret (results_tmp4 rfl _ _ _) rfl ?_
          exact ⟨ret_iisb hc.out.1.symm hc.out.2.1.symm hc.out.2.2.symm rfl, by assumption⟩
      · rw [h] at hen'
        have hc := Lib.hid (hys h)
        clear hno hys hd hen h1
        go_enter Try.func42, Try.ntmps42
        go_wp2_with fail
        refine (ho).mono ?_
        rintro e w1 ⟨rfl, hb1⟩
        go_wp2_with fail
        go_region_held3 (fun wx => Below w.heap.size w wx) (first | exact hb1.drew | exact below_step (by assumption) (by assumption)) (first | (go_at_call 40; refine (sEncodeCommand_any _ _ (t.drop 2) _ htx2).mono ?_; rintro e w' ⟨rfl, hb⟩))
        all_goals
          go_wp2
          go_quiet (fail)
          go_wp2
          refine bodyPost_ret (results_tmp4 rfl _ _ _) rfl ?_
          exact ⟨ret_iisb hc.out.1.symm hc.out.2.1.symm hc.out.2.2.symm rfl, below_drewN (by assumption) _⟩
    · have hi : inB (t.length : Int) 2 42 = false := by simp [inB]; omega
      have hd2 : decide ((t.length : Int) < 2) = true := by simp; omega
      rw [h1, hi] at hd
      rw [h1] at ho
      have hc := Lib.hid (hno hd)
      have hk := Lib.hid hd
      clear hno hys hd hen
      go_enter Try.func42, Try.ntmps42
      go_wp2_with fail
      refine (ho).mono ?_
      rintro e w1 ⟨rfl, hb1⟩
      go_wp2_with fail
      go_quiet (fail)
      go_wp2
      refine bodyPost_ret (results_tmp4 rfl _ _ _) rfl ?_
      exact ⟨ret_iisb hc.out.1.symm hc.out.2.1.symm hc.out.2.2.symm hk.out.symm, below_drewN hb1 _⟩
end Go.Proofs.Ytpnejmlbfadaaaa
